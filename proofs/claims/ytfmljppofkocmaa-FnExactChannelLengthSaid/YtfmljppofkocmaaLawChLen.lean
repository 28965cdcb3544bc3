/- The program's ChannelLength answers as the reference's, for all arguments. -/
import Derived.Test.YtfmljppofkocmaaChLen
import Derived.Deep.RegionHeld3
namespace Go.Proofs.Ytfmljppofkocmaa
open Go Go.RowKit
set_option maxHeartbeats 8000000 in
theorem fnExactChannelLength_walk {w : World} (nmA : ByteArray) (hsA : nmA.size ≤ maxLen) (A : Option Addr) (nA capA : Nat) (hnA : nA ≤ maxLen) (hrA : Rows0 [0, 0] w A nA) (wdA : Int) (_wwA : (Lit.int .i64 wdA).wf = true) :
    Calls Try.prog 14 #[.agg #[.string nmA, .slice A nA capA, .int .i64 wdA]] w fun e w' => e = .returned (.bool true) ∧ Below w.heap.size w w' := by
  obtain ⟨A0, A1, hA, hwA⟩ := rowsPoint hrA
  clear hrA
  have HP := Lib.hid (fun A ca W hA hrA => specChLen_c nmA A nA ca wdA A0 A1 W hsA hA _ rfl hrA)
  have HI := Lib.hid (fun A ca W hA hrA => implChLen_c nmA A nA ca wdA A0 A1 W hsA hA _ rfl hrA)
  generalize (if okChan nmA nA A0 A1 wdA = true then lenI A0 A1 (nA - 1) else 0) = q at HP HI
  generalize (if okChan nmA nA A0 A1 wdA = true then (0 : Int) else 1) = c at HP HI
  have hA := hA.below (w' := (w.alloc (.cells #[.string nmA, .slice A nA capA, .int .i64 wdA] 42))) (by repeat (first | exact Below.refl _ _ | refine Below.alloc ?_ (by simp; try omega) _ | refine Below.drew ?_))
  have k0_0 : ∀ y : Aft (w.alloc (.cells #[.string nmA, .slice A nA capA, .int .i64 wdA] 42)), y.w1.cell? ⟨w.heap.size, 0, none⟩ = some (.string nmA) := fun y => y.cell (by simp; try omega) (by simp [go_sem])
  have k0_1 : ∀ y : Aft (w.alloc (.cells #[.string nmA, .slice A nA capA, .int .i64 wdA] 42)), y.w1.cell? ⟨w.heap.size, 1, none⟩ = some (.slice A nA capA) := fun y => y.cell (by simp; try omega) (by simp [go_sem])
  have k0_2 : ∀ y : Aft (w.alloc (.cells #[.string nmA, .slice A nA capA, .int .i64 wdA] 42)), y.w1.cell? ⟨w.heap.size, 2, none⟩ = some (.int .i64 wdA) := fun y => y.cell (by simp; try omega) (by simp [go_sem])
  go_enter Try.func14, Try.ntmps14
  go_wp2_with fail
  generalize hW : (w.alloc (.cells #[.string nmA, .slice A nA capA, .int .i64 wdA] 42)) = W0 at *
  have hb : Below w.heap.size w W0 := hW ▸ (by repeat (first | exact Below.refl _ _ | refine Below.alloc ?_ (by simp; try omega) _ | refine Below.drew ?_))
  clear hW
  refine (szChannel_c nmA A nA _ wdA _ hsA hnA (by omega) (by omega) _).mono ?_
  rintro e w1 ⟨rfl | ⟨r, r0, r1, rfl⟩, b1⟩
  · go_wp2
    go_ret
    exact ⟨rfl, held_next hb b1⟩
  · skip
    obtain ⟨x1, rfl⟩ : ∃ x : Aft W0, w1 = x.w1 := ⟨⟨w1, b1⟩, rfl⟩
    have nA2 : nA ≤ 1048576 := by omega
    clear r1
    go_wp2_with fail
    refine (toChannel_c nmA A nA _ wdA A0 A1 _ nA2 (hA.aft x1)).mono ?_
    rintro e w2 ⟨g2, rfl, F⟩
    have ra := Lib.hid F.rec
    obtain ⟨x2, rfl⟩ : ∃ x : Aft W0, w2 = x.w1 := ⟨⟨w2, (held_next x1.below F.bel)⟩, rfl⟩
    clear F
    go_wp2_with fail
    refine (HP.out _ _ _ nA2 ra.out).mono ?_
    rintro e w3 ⟨rfl, b3⟩
    obtain ⟨x3, rfl⟩ : ∃ x : Aft W0, w3 = x.w1 := ⟨⟨w3, (held_next x2.below b3)⟩, rfl⟩
    clear ra
    go_wp2_with fail
    refine (toChannel_c nmA A nA _ wdA A0 A1 _ nA2 (hA.aft x3)).mono ?_
    rintro e w4 ⟨g4, rfl, F⟩
    have xa := Lib.hid F.rec
    obtain ⟨x4, rfl⟩ : ∃ x : Aft W0, w4 = x.w1 := ⟨⟨w4, (held_next x3.below F.bel)⟩, rfl⟩
    clear F
    have ak0_0 : ∀ o, (x4.w1.alloc o).cell? ⟨w.heap.size, 0, none⟩ = some (.string nmA) := fun o => (cell_past (cell_lt (k0_0 x4)) o 0).trans (k0_0 x4)
    have ak0_1 : ∀ o, (x4.w1.alloc o).cell? ⟨w.heap.size, 1, none⟩ = some (.slice A nA capA) := fun o => (cell_past (cell_lt (k0_1 x4)) o 1).trans (k0_1 x4)
    have ak0_2 : ∀ o, (x4.w1.alloc o).cell? ⟨w.heap.size, 2, none⟩ = some (.int .i64 wdA) := fun o => (cell_past (cell_lt (k0_2 x4)) o 2).trans (k0_2 x4)
    go_wp2_with fail
    clear ak0_0 ak0_1 ak0_2
    generalize hW : x4.w1.alloc (.cells #[.string nmA, .slice (some ⟨g4, 0, none⟩) nA nA, .int .i64 wdA] 47) = W1 at *
    have bb : Below x4.w1.heap.size x4.w1 W1 := hW ▸ (by repeat (first | exact Below.refl _ _ | refine Below.alloc ?_ (by simp; try omega) _ | refine Below.drew ?_))
    have m1_0 : ∀ y : Aft W1, y.w1.cell? ⟨x4.w1.heap.size, 0, none⟩ = some (.string nmA) := by subst hW; exact fun y => y.new rfl
    have m1_1 : ∀ y : Aft W1, y.w1.cell? ⟨x4.w1.heap.size, 1, none⟩ = some (.slice (some ⟨g4, 0, none⟩) nA nA) := by subst hW; exact fun y => y.new rfl
    have m1_2 : ∀ y : Aft W1, y.w1.cell? ⟨x4.w1.heap.size, 2, none⟩ = some (.int .i64 wdA) := by subst hW; exact fun y => y.new rfl
    replace k0_0 : ∀ y : Aft W1, y.w1.cell? ⟨w.heap.size, 0, none⟩ = some (.string nmA) := fun y => k0_0 ⟨y.w1, held_next (held_next x4.below bb) y.below⟩
    replace k0_1 : ∀ y : Aft W1, y.w1.cell? ⟨w.heap.size, 1, none⟩ = some (.slice A nA capA) := fun y => k0_1 ⟨y.w1, held_next (held_next x4.below bb) y.below⟩
    replace k0_2 : ∀ y : Aft W1, y.w1.cell? ⟨w.heap.size, 2, none⟩ = some (.int .i64 wdA) := fun y => k0_2 ⟨y.w1, held_next (held_next x4.below bb) y.below⟩
    replace hA := (hA.aft x4).below bb
    replace xa := xa.out.below bb
    replace hb := held_next (held_next hb x4.below) bb
    clear hW bb
    have zk0_0 : W1.cell? ⟨w.heap.size, 0, none⟩ = some (.string nmA) := k0_0 ⟨W1, Below.refl _ _⟩
    have zk0_1 : W1.cell? ⟨w.heap.size, 1, none⟩ = some (.slice A nA capA) := k0_1 ⟨W1, Below.refl _ _⟩
    have zk0_2 : W1.cell? ⟨w.heap.size, 2, none⟩ = some (.int .i64 wdA) := k0_2 ⟨W1, Below.refl _ _⟩
    have zm1_0 : W1.cell? ⟨x4.w1.heap.size, 0, none⟩ = some (.string nmA) := m1_0 ⟨W1, Below.refl _ _⟩
    have zm1_1 : W1.cell? ⟨x4.w1.heap.size, 1, none⟩ = some (.slice (some ⟨g4, 0, none⟩) nA nA) := m1_1 ⟨W1, Below.refl _ _⟩
    have zm1_2 : W1.cell? ⟨x4.w1.heap.size, 2, none⟩ = some (.int .i64 wdA) := m1_2 ⟨W1, Below.refl _ _⟩
    refine (HI.out _ _ _ nA2 xa).mono ?_
    rintro e w5 ⟨rfl, b5⟩
    obtain ⟨x5, rfl⟩ : ∃ x : Aft W1, w5 = x.w1 := ⟨⟨w5, b5⟩, rfl⟩
    clear zk0_0 zk0_1 zk0_2 zm1_0 zm1_1 zm1_2
    go_wp2_with fail
    have tk0_0 := k0_0 x5
    have tk0_1 := k0_1 x5
    have tk0_2 := k0_2 x5
    have tm1_0 := m1_0 x5
    have tm1_1 := m1_1 x5
    have tm1_2 := m1_2 x5
    go_region_held3 (fun w' => w'.cell? ⟨w.heap.size, 0, none⟩ = some (.string nmA) ∧ w'.cell? ⟨w.heap.size, 1, none⟩ = some (.slice A nA capA) ∧ w'.cell? ⟨w.heap.size, 2, none⟩ = some (.int .i64 wdA) ∧ w'.cell? ⟨x4.w1.heap.size, 0, none⟩ = some (.string nmA) ∧ w'.cell? ⟨x4.w1.heap.size, 1, none⟩ = some (.slice (some ⟨g4, 0, none⟩) nA nA) ∧ w'.cell? ⟨x4.w1.heap.size, 2, none⟩ = some (.int .i64 wdA))
      (first | go_keep | exact ⟨k0_0 y6, k0_1 y6, k0_2 y6, m1_0 y6, m1_1 y6, m1_2 y6⟩)
      (first
        | (go_at_call_of 33 nmA; refine (toChannel_c nmA A nA _ wdA A0 A1 _ nA2 (hA.below x5.below.drew)).mono ?_; rintro e u6 ⟨g6, rfl, F⟩; have hr6 := F.rec; obtain ⟨y6, rfl⟩ : ∃ x : Aft W1, u6 = x.w1 := ⟨⟨u6, held_next x5.below.drew F.bel⟩, rfl⟩; clear F)
        | (go_at_call 35; refine (eqChannel_same nmA _ _ nA _ _ wdA A0 A1 _ nA2 (xa.aft y6) hr6).mono ?_; rintro e u6 ⟨rfl, b6⟩; obtain ⟨y6, rfl⟩ : ∃ x : Aft W1, u6 = x.w1 := ⟨⟨u6, held_next y6.below b6⟩, rfl⟩))
    clear tk0_0
    clear tk0_1
    clear tk0_2
    clear tm1_0
    clear tm1_1
    clear tm1_2
    go_wp2
    go_ret
    exact ⟨rfl, held_next hb y6.below⟩
namespace fnExactChannelLengthDone
open Go.ChangeShapes Go.WideShapes Go.ChangeAt Go.RowKit Go.Joins
open Go.ChangeMaps (open_string shut_string)
theorem arr3 {cs : Array Value} (h : cs.size = 3) : ∃ c0 c1 c2, cs = #[c0, c1, c2] := by
  obtain ⟨l⟩ := cs
  match l, h with
  | [c0, c1, c2], _ => exact ⟨c0, c1, c2, rfl⟩
set_option maxRecDepth 100000 in
theorem lifted (os : Os) (started : os.Started) (H : Type) (enc : TypeId × Value → H) :
    ReturnsInHanded {} Try.checked os 14 .any (Rows.fnExactChannelLengthSpec.pre6 enc Try.prog Try.f14 Rows.fnExactChannelLengthRow.domain false) (Rows.fnExactChannelLengthSpec.post enc Try.prog Try.f14 false true false false) := by
  refine returnsInHanded_of_change (C := Try.checked) lawOwn started (by kernel_rfl) Try.func14
    (ChangeSpec.witness6 (enc := enc) (C := Try.checked) false ⟨#[], #[.agg #[.string ByteArray.empty, .slice none 0 0, .int .i64 0]], []⟩ 8 (by kernel_rfl) (by kernel_rfl) (by kernel_rfl) (by kernel_rfl)) ?_
  intro W base args ds gs before hval0 hW hcnd _
  have hval : ∀ (j : Nat) t v, Try.f14.params[j]? = some t → args[j]? = some v → Value.okWide Try.prog W .any base t v := hval0
  have hW' := hW
  obtain ⟨p, q, hA0, hV, rfl, hfz, hnd⟩ := hW
  have hA : DataW.TrodAll enc Try.prog W 0 (fun _ => true) true Try.f14.params.toList args.toList ds p := hA0
  rw [Try.params14] at hA hval
  obtain ⟨v0, vs0, d0, ds0, p0, q0, hargs, rfl, rfl, h0, r0⟩ := trodAll_cons hA
  obtain ⟨rfl, rfl, rfl⟩ := trodAll_nil r0
  obtain rfl : args = #[v0] := by cases args; simp_all
  obtain ⟨rfl, rfl⟩ := trodVars_none hV
  have k0 := h0
  have lt0 : ∀ x ∈ p0, x.block < W.heap.size := by obtain ⟨m, hm⟩ := k0; exact DataW.trod_lt m _ _ _ hm
  suffices hwalk : Calls Try.prog 14 #[v0] W fun e w' => e = .returned (.bool true) ∧ Below W.heap.size W w' by
    refine hwalk.mono fun e W' ⟨he, bel⟩ => ?_
    subst he
    exact ⟨_, rfl, _, _, _, [], _, [], hW', trodAll_mk1 (shut_bool Try.underlying4 _), (trodAll_cons_mk (Below.trod lawLaid (by kernel_rfl) (of_decide_eq_true (by kernel_rfl)) k0 bel lt0) trodAll_mk0), rfl, bel.frame _, fun h => by cases h⟩
  clear hA0 hval0
  obtain ⟨cs0, rfl, hz0⟩ := okWide_struct Try.underlying42 (hval 0 42 v0 rfl rfl)
  have hq0 := agg_leaves (ks := [1, 42, 0]) 6 (by kernel_rfl) (by kernel_rfl) h0
  obtain ⟨c0_0, c0_1, c0_2, rfl⟩ := arr3 (hz0.trans (by kernel_rfl))
  obtain ⟨u0_0, e0_0, l0_0⟩ := hq0 0 _ rfl
  obtain rfl : c0_0 = u0_0 := Option.some.inj e0_0
  obtain ⟨a0_0, rfl, w0_0⟩ := l0_0.1.2 rfl
  obtain ⟨u0_1, e0_1, l0_1⟩ := hq0 1 _ rfl
  obtain rfl : c0_1 = u0_1 := Option.some.inj e0_1
  obtain ⟨a0_1, len0_1, cap0_1, rfl, w0_1, g0_1⟩ := l0_1.2 40 rfl
  have r0_1 := g0_1 70 [0, 0] Try.underlying40 (by kernel_rfl) (by kernel_rfl) (by decide)
  obtain ⟨u0_2, e0_2, l0_2⟩ := hq0 2 _ rfl
  obtain rfl : c0_2 = u0_2 := Option.some.inj e0_2
  obtain ⟨a0_2, rfl, w0_2⟩ := l0_2.1.1 rfl
  exact fnExactChannelLength_walk (w := W) a0_0 w0_0 a0_1 len0_1 cap0_1 w0_1 r0_1 a0_2 w0_2

theorem over : Rows.fnExactChannelLengthRow.holds Try.pinned (OpenSpec.ofChange Rows.fnExactChannelLengthSpec) :=
  OpenClaim.holds_of_wide 14 Try.f14 rfl rfl rfl rfl rfl rfl rfl ⟨rfl, rfl, rfl, rfl, rfl⟩ rfl rfl rfl rfl rfl (by kernel_rfl) Try.func14 (by kernel_rfl)
    (of_decide_eq_true (by kernel_rfl)) (by unfold Func.isWrapper; first | (rw [if_pos (by decide +kernel)]; kernel_rfl) | (rw [if_neg (by decide +kernel)]; exact ⟨rfl, rfl⟩))
    (fun os started H enc _ => lifted os started H enc)

theorem proved : Rows.FnExactChannelLengthSaid := over
#print axioms proved
end fnExactChannelLengthDone
end Go.Proofs.Ytfmljppofkocmaa
