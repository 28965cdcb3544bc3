/- The program's SideOfChannel answers as the reference's, for all arguments. -/
import Derived.Test.YtimfpnmcdicldaaSideCh
import Derived.Deep.RegionHeld3
namespace Go.Proofs.Ytimfpnmcdicldaa
open Go Go.RowKit
set_option maxHeartbeats 8000000 in
theorem fnExactSideOfChannel_walk {w : World} (nmA : ByteArray) (hsA : nmA.size ≤ maxLen) (A : Option Addr) (nA capA : Nat) (hnA : nA ≤ maxLen) (hrA : Rows0 [0, 0] w A nA) (wdA : Int) (_wwA : (Lit.int .i64 wdA).wf = true) (px : Int) (wpx : (Lit.int .i64 px).wf = true) (py : Int) (wpy : (Lit.int .i64 py).wf = true) :
    Calls Try.prog 5 #[.agg #[.string nmA, .slice A nA capA, .int .i64 wdA], .agg #[.int .i64 px, .int .i64 py]] w fun e w' => e = .returned (.bool true) ∧ Below w.heap.size w w' := by
  obtain ⟨A0, A1, hA, hwA⟩ := rowsPoint hrA
  clear hrA
  obtain ⟨v, cd, HP, HI⟩ : ∃ v cd : Int, Hid (∀ (A : Option Addr) (ca : Nat) (W : World), nA ≤ 1048576 → Rec 2 W A nA (vPoint A0 A1) → Calls Try.prog 19 #[.agg #[.string nmA, .slice A nA ca, .int .i64 wdA], .agg #[.int .i64 px, .int .i64 py]] W fun e w' => e = .returned (.tuple #[.int .i64 v, .int .i64 cd]) ∧ Below W.heap.size W w') ∧ Hid (∀ (A : Option Addr) (ca : Nat) (W : World), nA ≤ 1048576 → Rec 2 W A nA (vPoint A0 A1) → Calls Try.prog 20 #[.agg #[.string nmA, .slice A nA ca, .int .i64 wdA], .agg #[.int .i64 px, .int .i64 py]] W fun e w' => e = .returned (.tuple #[.int .i64 v, .int .i64 cd]) ∧ Below W.heap.size W w') := ⟨_, _, Lib.hid (fun A ca W hA hrA => specSide_c nmA A nA ca wdA A0 A1 px py W hsA hA _ _ rfl rfl hrA), Lib.hid (fun A ca W hA hrA => implSide_c nmA A nA ca wdA A0 A1 px py W hsA hA _ _ rfl rfl hrA)⟩
  have hA := hA.below (w' := ((w.alloc (.cells #[.string nmA, .slice A nA capA, .int .i64 wdA] 24)).alloc (.cells #[.int .i64 px, .int .i64 py] 37))) (by repeat (first | exact Below.refl _ _ | refine Below.alloc ?_ (by simp; try omega) _ | refine Below.drew ?_))
  have k0_0 : ∀ y : Aft ((w.alloc (.cells #[.string nmA, .slice A nA capA, .int .i64 wdA] 24)).alloc (.cells #[.int .i64 px, .int .i64 py] 37)), y.w1.cell? ⟨w.heap.size, 0, none⟩ = some (.string nmA) := fun y => y.cell (by simp; try omega) (by simp [go_sem])
  have k0_1 : ∀ y : Aft ((w.alloc (.cells #[.string nmA, .slice A nA capA, .int .i64 wdA] 24)).alloc (.cells #[.int .i64 px, .int .i64 py] 37)), y.w1.cell? ⟨w.heap.size, 1, none⟩ = some (.slice A nA capA) := fun y => y.cell (by simp; try omega) (by simp [go_sem])
  have k0_2 : ∀ y : Aft ((w.alloc (.cells #[.string nmA, .slice A nA capA, .int .i64 wdA] 24)).alloc (.cells #[.int .i64 px, .int .i64 py] 37)), y.w1.cell? ⟨w.heap.size, 2, none⟩ = some (.int .i64 wdA) := fun y => y.cell (by simp; try omega) (by simp [go_sem])
  have k1_0 : ∀ y : Aft ((w.alloc (.cells #[.string nmA, .slice A nA capA, .int .i64 wdA] 24)).alloc (.cells #[.int .i64 px, .int .i64 py] 37)), y.w1.cell? ⟨w.heap.size + 1, 0, none⟩ = some (.int .i64 px) := fun y => y.cell (by simp; try omega) (by simp [go_sem])
  have k1_1 : ∀ y : Aft ((w.alloc (.cells #[.string nmA, .slice A nA capA, .int .i64 wdA] 24)).alloc (.cells #[.int .i64 px, .int .i64 py] 37)), y.w1.cell? ⟨w.heap.size + 1, 1, none⟩ = some (.int .i64 py) := fun y => y.cell (by simp; try omega) (by simp [go_sem])
  go_enter Try.func5, Try.ntmps5
  go_wp2_with fail
  generalize hW : ((w.alloc (.cells #[.string nmA, .slice A nA capA, .int .i64 wdA] 24)).alloc (.cells #[.int .i64 px, .int .i64 py] 37)) = W0 at *
  have hb : Below w.heap.size w W0 := hW ▸ (by repeat (first | exact Below.refl _ _ | refine Below.alloc ?_ (by simp; try omega) _ | refine Below.drew ?_))
  clear hW
  refine (szChannel_c nmA A nA _ wdA _ hsA hnA (by omega) (by omega) _).mono ?_
  rintro e w1 ⟨rfl | ⟨r, r0, r1, rfl⟩, b1⟩
  · go_wp2
    go_ret
    exact ⟨rfl, held_next hb b1⟩
  · skip
    obtain ⟨x1, rfl⟩ : ∃ x : Aft W0, w1 = x.w1 := ⟨⟨w1, b1⟩, rfl⟩
    have nA2 : nA ≤ 1048576 := by omega
    clear r1
    go_wp2_with fail
    have tk0_0 := k0_0 x1
    have tk0_1 := k0_1 x1
    have tk0_2 := k0_2 x1
    have tk1_0 := k1_0 x1
    have tk1_1 := k1_1 x1
    go_region_held3 (fun w' => w'.cell? ⟨w.heap.size, 0, none⟩ = some (.string nmA) ∧ w'.cell? ⟨w.heap.size, 1, none⟩ = some (.slice A nA capA) ∧ w'.cell? ⟨w.heap.size, 2, none⟩ = some (.int .i64 wdA) ∧ w'.cell? ⟨w.heap.size + 1, 0, none⟩ = some (.int .i64 px) ∧ w'.cell? ⟨w.heap.size + 1, 1, none⟩ = some (.int .i64 py))
      (first | go_keep | exact ⟨k0_0 y2, k0_1 y2, k0_2 y2, k1_0 y2, k1_1 y2⟩)
      (first
        | (go_at_call_of 12 nmA; refine (toChannel_c nmA A nA _ wdA A0 A1 _ nA2 (hA.below x1.below.drew)).mono ?_; rintro e u2 ⟨g2, rfl, F⟩; have rA := F.rec; obtain ⟨y2, rfl⟩ : ∃ x : Aft W0, u2 = x.w1 := ⟨⟨u2, held_next x1.below.drew F.bel⟩, rfl⟩; clear F)
        | (go_at_call 17; refine (toPoint_c px py _).mono ?_; rintro e u2 ⟨rfl, b2⟩; have rA := rA.below b2; obtain ⟨y2, rfl⟩ : ∃ x : Aft W0, u2 = x.w1 := ⟨⟨u2, held_next y2.below b2⟩, rfl⟩)
        | (go_at_call 19; refine (HP.out _ _ _ nA2 rA).mono ?_; rintro e u2 ⟨rfl, b2⟩; obtain ⟨y2, rfl⟩ : ∃ x : Aft W0, u2 = x.w1 := ⟨⟨u2, held_next y2.below b2⟩, rfl⟩))
    clear tk0_0
    clear tk0_1
    clear tk0_2
    clear tk1_0
    clear tk1_1
    go_wp2_with fail
    refine (toChannel_c nmA A nA _ wdA A0 A1 _ nA2 (hA.aft y2)).mono ?_
    rintro e w3 ⟨g3, rfl, F⟩
    have xa := Lib.hid F.rec
    obtain ⟨x3, rfl⟩ : ∃ x : Aft W0, w3 = x.w1 := ⟨⟨w3, (held_next y2.below F.bel)⟩, rfl⟩
    clear F
    have ak0_0 : ∀ o, (x3.w1.alloc o).cell? ⟨w.heap.size, 0, none⟩ = some (.string nmA) := fun o => (cell_past (cell_lt (k0_0 x3)) o 0).trans (k0_0 x3)
    have ak0_1 : ∀ o, (x3.w1.alloc o).cell? ⟨w.heap.size, 1, none⟩ = some (.slice A nA capA) := fun o => (cell_past (cell_lt (k0_1 x3)) o 1).trans (k0_1 x3)
    have ak0_2 : ∀ o, (x3.w1.alloc o).cell? ⟨w.heap.size, 2, none⟩ = some (.int .i64 wdA) := fun o => (cell_past (cell_lt (k0_2 x3)) o 2).trans (k0_2 x3)
    have ak1_0 : ∀ o, (x3.w1.alloc o).cell? ⟨w.heap.size + 1, 0, none⟩ = some (.int .i64 px) := fun o => (cell_past (cell_lt (k1_0 x3)) o 0).trans (k1_0 x3)
    have ak1_1 : ∀ o, (x3.w1.alloc o).cell? ⟨w.heap.size + 1, 1, none⟩ = some (.int .i64 py) := fun o => (cell_past (cell_lt (k1_1 x3)) o 1).trans (k1_1 x3)
    go_wp2_with fail
    clear ak0_0 ak0_1 ak0_2 ak1_0 ak1_1
    generalize hW : x3.w1.alloc (.cells #[.string nmA, .slice (some ⟨g3, 0, none⟩) nA nA, .int .i64 wdA] 32) = W1 at *
    have bb : Below x3.w1.heap.size x3.w1 W1 := hW ▸ (by repeat (first | exact Below.refl _ _ | refine Below.alloc ?_ (by simp; try omega) _ | refine Below.drew ?_))
    have m1_0 : ∀ y : Aft W1, y.w1.cell? ⟨x3.w1.heap.size, 0, none⟩ = some (.string nmA) := by subst hW; exact fun y => y.new rfl
    have m1_1 : ∀ y : Aft W1, y.w1.cell? ⟨x3.w1.heap.size, 1, none⟩ = some (.slice (some ⟨g3, 0, none⟩) nA nA) := by subst hW; exact fun y => y.new rfl
    have m1_2 : ∀ y : Aft W1, y.w1.cell? ⟨x3.w1.heap.size, 2, none⟩ = some (.int .i64 wdA) := by subst hW; exact fun y => y.new rfl
    replace k0_0 : ∀ y : Aft W1, y.w1.cell? ⟨w.heap.size, 0, none⟩ = some (.string nmA) := fun y => k0_0 ⟨y.w1, held_next (held_next x3.below bb) y.below⟩
    replace k0_1 : ∀ y : Aft W1, y.w1.cell? ⟨w.heap.size, 1, none⟩ = some (.slice A nA capA) := fun y => k0_1 ⟨y.w1, held_next (held_next x3.below bb) y.below⟩
    replace k0_2 : ∀ y : Aft W1, y.w1.cell? ⟨w.heap.size, 2, none⟩ = some (.int .i64 wdA) := fun y => k0_2 ⟨y.w1, held_next (held_next x3.below bb) y.below⟩
    replace k1_0 : ∀ y : Aft W1, y.w1.cell? ⟨w.heap.size + 1, 0, none⟩ = some (.int .i64 px) := fun y => k1_0 ⟨y.w1, held_next (held_next x3.below bb) y.below⟩
    replace k1_1 : ∀ y : Aft W1, y.w1.cell? ⟨w.heap.size + 1, 1, none⟩ = some (.int .i64 py) := fun y => k1_1 ⟨y.w1, held_next (held_next x3.below bb) y.below⟩
    replace hA := (hA.aft x3).below bb
    replace xa := xa.out.below bb
    replace hb := held_next (held_next hb x3.below) bb
    clear hW bb
    have zk0_0 : W1.cell? ⟨w.heap.size, 0, none⟩ = some (.string nmA) := k0_0 ⟨W1, Below.refl _ _⟩
    have zk0_1 : W1.cell? ⟨w.heap.size, 1, none⟩ = some (.slice A nA capA) := k0_1 ⟨W1, Below.refl _ _⟩
    have zk0_2 : W1.cell? ⟨w.heap.size, 2, none⟩ = some (.int .i64 wdA) := k0_2 ⟨W1, Below.refl _ _⟩
    have zk1_0 : W1.cell? ⟨w.heap.size + 1, 0, none⟩ = some (.int .i64 px) := k1_0 ⟨W1, Below.refl _ _⟩
    have zk1_1 : W1.cell? ⟨w.heap.size + 1, 1, none⟩ = some (.int .i64 py) := k1_1 ⟨W1, Below.refl _ _⟩
    have zm1_0 : W1.cell? ⟨x3.w1.heap.size, 0, none⟩ = some (.string nmA) := m1_0 ⟨W1, Below.refl _ _⟩
    have zm1_1 : W1.cell? ⟨x3.w1.heap.size, 1, none⟩ = some (.slice (some ⟨g3, 0, none⟩) nA nA) := m1_1 ⟨W1, Below.refl _ _⟩
    have zm1_2 : W1.cell? ⟨x3.w1.heap.size, 2, none⟩ = some (.int .i64 wdA) := m1_2 ⟨W1, Below.refl _ _⟩
    go_region_held3 (fun w' => w'.cell? ⟨w.heap.size, 0, none⟩ = some (.string nmA) ∧ w'.cell? ⟨w.heap.size, 1, none⟩ = some (.slice A nA capA) ∧ w'.cell? ⟨w.heap.size, 2, none⟩ = some (.int .i64 wdA) ∧ w'.cell? ⟨w.heap.size + 1, 0, none⟩ = some (.int .i64 px) ∧ w'.cell? ⟨w.heap.size + 1, 1, none⟩ = some (.int .i64 py) ∧ w'.cell? ⟨x3.w1.heap.size, 0, none⟩ = some (.string nmA) ∧ w'.cell? ⟨x3.w1.heap.size, 1, none⟩ = some (.slice (some ⟨g3, 0, none⟩) nA nA) ∧ w'.cell? ⟨x3.w1.heap.size, 2, none⟩ = some (.int .i64 wdA))
      (first | go_keep | exact ⟨k0_0 y4, k0_1 y4, k0_2 y4, k1_0 y4, k1_1 y4, m1_0 y4, m1_1 y4, m1_2 y4⟩)
      (first
        | (go_at_call 17; refine (toPoint_c px py _).mono ?_; rintro e u4 ⟨rfl, b4⟩; obtain ⟨y4, rfl⟩ : ∃ x : Aft W1, u4 = x.w1 := ⟨⟨u4, held_next ((Below.refl W1.heap.size W1).drew) b4⟩, rfl⟩)
        | (go_at_call 20; refine (HI.out _ _ _ nA2 (xa.aft y4)).mono ?_; rintro e u4 ⟨rfl, b4⟩; obtain ⟨y4, rfl⟩ : ∃ x : Aft W1, u4 = x.w1 := ⟨⟨u4, held_next y4.below b4⟩, rfl⟩))
    clear zk0_0 zk0_1 zk0_2 zk1_0 zk1_1 zm1_0 zm1_1 zm1_2
    go_wp2_with fail
    have tk0_0 := k0_0 y4
    have tk0_1 := k0_1 y4
    have tk0_2 := k0_2 y4
    have tk1_0 := k1_0 y4
    have tk1_1 := k1_1 y4
    have tm1_0 := m1_0 y4
    have tm1_1 := m1_1 y4
    have tm1_2 := m1_2 y4
    go_region_held3 (fun w' => w'.cell? ⟨w.heap.size, 0, none⟩ = some (.string nmA) ∧ w'.cell? ⟨w.heap.size, 1, none⟩ = some (.slice A nA capA) ∧ w'.cell? ⟨w.heap.size, 2, none⟩ = some (.int .i64 wdA) ∧ w'.cell? ⟨w.heap.size + 1, 0, none⟩ = some (.int .i64 px) ∧ w'.cell? ⟨w.heap.size + 1, 1, none⟩ = some (.int .i64 py) ∧ w'.cell? ⟨x3.w1.heap.size, 0, none⟩ = some (.string nmA) ∧ w'.cell? ⟨x3.w1.heap.size, 1, none⟩ = some (.slice (some ⟨g3, 0, none⟩) nA nA) ∧ w'.cell? ⟨x3.w1.heap.size, 2, none⟩ = some (.int .i64 wdA))
      (first | go_keep | exact ⟨k0_0 y5, k0_1 y5, k0_2 y5, k1_0 y5, k1_1 y5, m1_0 y5, m1_1 y5, m1_2 y5⟩)
      (first
        | (go_at_call_of 12 nmA; refine (toChannel_c nmA A nA _ wdA A0 A1 _ nA2 (hA.below y4.below.drew)).mono ?_; rintro e u5 ⟨g5, rfl, F⟩; have hr5 := F.rec; obtain ⟨y5, rfl⟩ : ∃ x : Aft W1, u5 = x.w1 := ⟨⟨u5, held_next y4.below.drew F.bel⟩, rfl⟩; clear F)
        | (go_at_call 15; refine (eqChannel_same nmA _ _ nA _ _ wdA A0 A1 _ nA2 (xa.aft y5) hr5).mono ?_; rintro e u5 ⟨rfl, b5⟩; obtain ⟨y5, rfl⟩ : ∃ x : Aft W1, u5 = x.w1 := ⟨⟨u5, held_next y5.below b5⟩, rfl⟩))
    clear tk0_0
    clear tk0_1
    clear tk0_2
    clear tk1_0
    clear tk1_1
    clear tm1_0
    clear tm1_1
    clear tm1_2
    go_wp2
    go_ret
    exact ⟨rfl, held_next hb y5.below⟩
namespace fnExactSideOfChannelDone
open Go.ChangeShapes Go.WideShapes Go.ChangeAt Go.RowKit Go.Joins
open Go.ChangeMaps (open_string shut_string)
theorem arr3 {cs : Array Value} (h : cs.size = 3) : ∃ c0 c1 c2, cs = #[c0, c1, c2] := by
  obtain ⟨l⟩ := cs
  match l, h with
  | [c0, c1, c2], _ => exact ⟨c0, c1, c2, rfl⟩
set_option maxRecDepth 100000 in
theorem lifted (os : Os) (started : os.Started) (H : Type) (enc : TypeId × Value → H) :
    ReturnsInHanded {} Try.checked os 5 .any (Rows.fnExactSideOfChannelSpec.pre6 enc Try.prog Try.f5 Rows.fnExactSideOfChannelRow.domain false) (Rows.fnExactSideOfChannelSpec.post enc Try.prog Try.f5 false true false false) := by
  refine returnsInHanded_of_change (C := Try.checked) lawOwn started (by kernel_rfl) Try.func5
    (ChangeSpec.witness6 (enc := enc) (C := Try.checked) false ⟨#[], #[.agg #[.string ByteArray.empty, .slice none 0 0, .int .i64 0], .agg #[.int .i64 0, .int .i64 0]], []⟩ 8 (by kernel_rfl) (by kernel_rfl) (by kernel_rfl) (by kernel_rfl)) ?_
  intro W base args ds gs before hval0 hW hcnd _
  have hval : ∀ (j : Nat) t v, Try.f5.params[j]? = some t → args[j]? = some v → Value.okWide Try.prog W .any base t v := hval0
  have hW' := hW
  obtain ⟨p, q, hA0, hV, rfl, hfz, hnd⟩ := hW
  have hA : DataW.TrodAll enc Try.prog W 0 (fun _ => true) true Try.f5.params.toList args.toList ds p := hA0
  rw [Try.params5] at hA hval
  obtain ⟨v0, vs0, d0, ds0, p0, q0, hargs, rfl, rfl, h0, r0⟩ := trodAll_cons hA
  obtain ⟨v1, vs1, d1, ds1, p1, q1, rfl, rfl, rfl, h1, r1⟩ := trodAll_cons r0
  obtain ⟨rfl, rfl, rfl⟩ := trodAll_nil r1
  obtain rfl : args = #[v0, v1] := by cases args; simp_all
  obtain ⟨rfl, rfl⟩ := trodVars_none hV
  have k0 := h0
  have lt0 : ∀ x ∈ p0, x.block < W.heap.size := by obtain ⟨m, hm⟩ := k0; exact DataW.trod_lt m _ _ _ hm
  have k1 := h1
  have lt1 : ∀ x ∈ p1, x.block < W.heap.size := by obtain ⟨m, hm⟩ := k1; exact DataW.trod_lt m _ _ _ hm
  suffices hwalk : Calls Try.prog 5 #[v0, v1] W fun e w' => e = .returned (.bool true) ∧ Below W.heap.size W w' by
    refine hwalk.mono fun e W' ⟨he, bel⟩ => ?_
    subst he
    exact ⟨_, rfl, _, _, _, [], _, [], hW', trodAll_mk1 (shut_bool Try.underlying4 _), (trodAll_cons_mk (Below.trod lawLaid (by kernel_rfl) (of_decide_eq_true (by kernel_rfl)) k0 bel lt0) (trodAll_cons_mk (Below.trod lawLaid (by kernel_rfl) (of_decide_eq_true (by kernel_rfl)) k1 bel lt1) trodAll_mk0)), rfl, bel.frame _, fun h => by cases h⟩
  clear hA0 hval0
  obtain ⟨cs0, rfl, hz0⟩ := okWide_struct Try.underlying24 (hval 0 24 v0 rfl rfl)
  have hq0 := agg_leaves (ks := [1, 24, 0]) 6 (by kernel_rfl) (by kernel_rfl) h0
  obtain ⟨c0_0, c0_1, c0_2, rfl⟩ := arr3 (hz0.trans (by kernel_rfl))
  obtain ⟨u0_0, e0_0, l0_0⟩ := hq0 0 _ rfl
  obtain rfl : c0_0 = u0_0 := Option.some.inj e0_0
  obtain ⟨a0_0, rfl, w0_0⟩ := l0_0.1.2 rfl
  obtain ⟨u0_1, e0_1, l0_1⟩ := hq0 1 _ rfl
  obtain rfl : c0_1 = u0_1 := Option.some.inj e0_1
  obtain ⟨a0_1, len0_1, cap0_1, rfl, w0_1, g0_1⟩ := l0_1.2 22 rfl
  have r0_1 := g0_1 37 [0, 0] Try.underlying22 (by kernel_rfl) (by kernel_rfl) (by decide)
  obtain ⟨u0_2, e0_2, l0_2⟩ := hq0 2 _ rfl
  obtain rfl : c0_2 = u0_2 := Option.some.inj e0_2
  obtain ⟨a0_2, rfl, w0_2⟩ := l0_2.1.1 rfl
  obtain ⟨c1_0, c1_1, y1_0, y1_1, n1, rfl, hd1, hp1, e1_0, e1_1⟩ := open_agg2 Try.underlying37 (by kernel_rfl) (by kernel_rfl) (hval 1 37 v1 rfl rfl) h1
  obtain ⟨a1_0, g1_0, x1_0, w1_0⟩ := DataW.trod_int Try.underlying2 e1_0
  simp only [List.cons.injEq, and_true] at g1_0; subst g1_0
  obtain ⟨a1_1, g1_1, x1_1, w1_1⟩ := DataW.trod_int Try.underlying2 e1_1
  simp only [List.cons.injEq, and_true] at g1_1; subst g1_1
  exact fnExactSideOfChannel_walk (w := W) a0_0 w0_0 a0_1 len0_1 cap0_1 w0_1 r0_1 a0_2 w0_2 a1_0 w1_0 a1_1 w1_1

theorem over : Rows.fnExactSideOfChannelRow.holds Try.pinned (OpenSpec.ofChange Rows.fnExactSideOfChannelSpec) :=
  OpenClaim.holds_of_wide 5 Try.f5 rfl rfl rfl rfl rfl rfl rfl ⟨rfl, rfl, rfl, rfl, rfl⟩ rfl rfl rfl rfl rfl (by kernel_rfl) Try.func5 (by kernel_rfl)
    (of_decide_eq_true (by kernel_rfl)) (by unfold Func.isWrapper; first | (rw [if_pos (by decide +kernel)]; kernel_rfl) | (rw [if_neg (by decide +kernel)]; exact ⟨rfl, rfl⟩))
    (fun os started H enc _ => lifted os started H enc)

theorem proved : Rows.FnExactSideOfChannelSaid := over
#print axioms proved
end fnExactSideOfChannelDone
end Go.Proofs.Ytimfpnmcdicldaa
