/- The program's ChannelText answers as the reference's, for all arguments, where the listed tables of Go's library hold what its text lays (the card ties them). -/
import Derived.Test.YtimfpnmcdicldaaDoorChU
import Derived.Deep.RegionHeld3
namespace Go.Proofs.YtimfpnmcdicldaaDoor
open Go Go.RowKit Go.Shelf
set_option maxHeartbeats 4000000 in
theorem fnExactChannelText_walk {w : World} (nm : ByteArray) (hs : nm.size ≤ maxLen) (A : Option Addr) (n cap : Nat) (hn : n ≤ maxLen) (hr : Rows0 [0, 0] w A n) (wd : Int) (_ww : (Lit.int .i64 wd).wf = true) (hT : Pows w) :
    Calls Tryd.prog 3 #[.agg #[.string nm, .slice A n cap, .int .i64 wd]] w fun e w' => e = .returned (.bool true) ∧ Below w.heap.size w w' := by
  obtain ⟨X, Y, hA, _⟩ := rowsPoint hr
  clear hr _ww
  have HP := Lib.hid (fun A cap W hn hR => specChannelText_c nm A n cap wd X Y W hs hn hR)
  have HI := Lib.hid (fun A cap W hn hR hW => implChannelText_c nm A n cap wd X Y W hs hn hR hW)
  generalize chTextS nm n X Y wd = v at HP HI
  have k0 : ∀ y : Aft (w.alloc (.cells #[.string nm, .slice A n cap, .int .i64 wd] 24)), y.w1.cell? ⟨w.heap.size, 0, none⟩ = some (.string nm) := fun y => y.new rfl
  have k1 : ∀ y : Aft (w.alloc (.cells #[.string nm, .slice A n cap, .int .i64 wd] 24)), y.w1.cell? ⟨w.heap.size, 1, none⟩ = some (.slice A n cap) := fun y => y.new rfl
  have k2 : ∀ y : Aft (w.alloc (.cells #[.string nm, .slice A n cap, .int .i64 wd] 24)), y.w1.cell? ⟨w.heap.size, 2, none⟩ = some (.int .i64 wd) := fun y => y.new rfl
  have hA2 := hA.below (w' := w.alloc (.cells #[.string nm, .slice A n cap, .int .i64 wd] 24)) (by repeat (first | exact Below.refl _ _ | refine Below.alloc ?_ (by simp; try omega) _ | refine Below.drew ?_))
  go_enter Tryd.func3, Tryd.ntmps3
  go_wp2_with fail
  generalize hW : w.alloc (.cells #[.string nm, .slice A n cap, .int .i64 wd] 24) = W at *
  have hbW : Below w.heap.size w W := hW ▸ (by repeat (first | exact Below.refl _ _ | refine Below.alloc ?_ (by simp; try omega) _ | refine Below.drew ?_))
  have HTW := Lib.hid (hT.below hbW)
  clear hW hT
  refine (szChannel_c nm A n _ wd _ hs hn (by omega) (by omega) _).mono ?_
  rintro e w1 ⟨rfl | ⟨r, r0, r1, rfl⟩, b1⟩
  · go_wp2
    go_ret
    exact ⟨rfl, held_next hbW b1⟩
  · obtain ⟨x1, rfl⟩ : ∃ x : Aft W, w1 = x.w1 := ⟨⟨w1, b1⟩, rfl⟩
    have hn2 : n ≤ 1048576 := by omega
    go_wp2_with fail
    refine (toChannel_c nm A n _ wd X Y _ hn2 (hA2.aft x1)).mono ?_
    rintro e w2 ⟨g2, rfl, F⟩
    have hr2 := Lib.hid F.rec
    obtain ⟨x2, rfl⟩ : ∃ x : Aft W, w2 = x.w1 := ⟨⟨w2, held_next x1.below F.bel⟩, rfl⟩
    clear F
    go_wp2_with fail
    refine (HP.out _ _ _ hn2 hr2.out).mono ?_
    rintro e w3 ⟨rfl, b3⟩
    obtain ⟨x3, rfl⟩ : ∃ x : Aft W, w3 = x.w1 := ⟨⟨w3, held_next x2.below b3⟩, rfl⟩
    clear hr2 b3
    go_wp2_with fail
    refine (toChannel_c nm A n _ wd X Y _ hn2 (hA2.aft x3)).mono ?_
    rintro e w4 ⟨g4, rfl, F⟩
    have hr4 := Lib.hid F.rec
    obtain ⟨x4, rfl⟩ : ∃ x : Aft W, w4 = x.w1 := ⟨⟨w4, held_next x3.below F.bel⟩, rfl⟩
    clear F
    go_wp2_with fail
    generalize hW5 : x4.w1.alloc (.cells #[.string nm, .slice (some ⟨g4, 0, none⟩) n n, .int .i64 wd] 29) = W5 at *
    have b5 : Below x4.w1.heap.size x4.w1 W5 := hW5 ▸ (by repeat (first | exact Below.refl _ _ | refine Below.alloc ?_ (by simp; try omega) _ | refine Below.drew ?_))
    have d0 : ∀ y : Aft W5, y.w1.cell? ⟨x4.w1.heap.size, 0, none⟩ = some (.string nm) := by subst hW5; exact fun y => y.new rfl
    have d1 : ∀ y : Aft W5, y.w1.cell? ⟨x4.w1.heap.size, 1, none⟩ = some (.slice (some ⟨g4, 0, none⟩) n n) := by subst hW5; exact fun y => y.new rfl
    have d2 : ∀ y : Aft W5, y.w1.cell? ⟨x4.w1.heap.size, 2, none⟩ = some (.int .i64 wd) := by subst hW5; exact fun y => y.new rfl
    have e0 : ∀ y : Aft W5, y.w1.cell? ⟨w.heap.size, 0, none⟩ = some (.string nm) := fun y => k0 ⟨y.w1, held_next (held_next x4.below b5) y.below⟩
    have e1 : ∀ y : Aft W5, y.w1.cell? ⟨w.heap.size, 1, none⟩ = some (.slice A n cap) := fun y => k1 ⟨y.w1, held_next (held_next x4.below b5) y.below⟩
    have e2 : ∀ y : Aft W5, y.w1.cell? ⟨w.heap.size, 2, none⟩ = some (.int .i64 wd) := fun y => k2 ⟨y.w1, held_next (held_next x4.below b5) y.below⟩
    have hr5 := hr4.out.below b5
    have hA5 := (hA2.aft x4).below b5
    have hbW5 := held_next (held_next hbW x4.below) b5
    have hT5 := HTW.out.below (held_next x4.below b5)
    clear hW5 hr4 b5 k0 k1 k2 hA2
    refine (HI.out _ _ _ hn2 hr5 hT5).mono ?_
    rintro e w6 ⟨rfl, b6⟩
    obtain ⟨x6, rfl⟩ : ∃ x : Aft W5, w6 = x.w1 := ⟨⟨w6, b6⟩, rfl⟩
    clear b6
    go_wp2_with fail
    have t0 := d0 x6
    have t1 := d1 x6
    have t2 := d2 x6
    have t3 := e0 x6
    have t4 := e1 x6
    have t5 := e2 x6
    go_region_held3 (fun w' => w'.cell? ⟨x4.w1.heap.size, 0, none⟩ = some (.string nm) ∧ w'.cell? ⟨x4.w1.heap.size, 1, none⟩ = some (.slice (some ⟨g4, 0, none⟩) n n) ∧ w'.cell? ⟨x4.w1.heap.size, 2, none⟩ = some (.int .i64 wd) ∧
        w'.cell? ⟨w.heap.size, 0, none⟩ = some (.string nm) ∧ w'.cell? ⟨w.heap.size, 1, none⟩ = some (.slice A n cap) ∧ w'.cell? ⟨w.heap.size, 2, none⟩ = some (.int .i64 wd))
      (first | go_keep | exact ⟨d0 x7, d1 x7, d2 x7, e0 x7, e1 x7, e2 x7⟩)
      (first
        | (go_at_call 10; refine (toChannel_c nm A n _ wd X Y _ hn2 (hA5.below x6.below.drew)).mono ?_; rintro e w7 ⟨g7, rfl, F⟩; have hr7 := F.rec; obtain ⟨x7, rfl⟩ : ∃ x : Aft W5, w7 = x.w1 := ⟨⟨w7, held_next x6.below.drew F.bel⟩, rfl⟩; clear F)
        | (go_at_call 12; refine (eqChannel_same nm _ _ n _ _ wd X Y _ hn2 (hr5.aft x7) hr7).mono ?_; rintro e w8 ⟨rfl, b8⟩; obtain ⟨x7, rfl⟩ : ∃ x : Aft W5, w8 = x.w1 := ⟨⟨w8, held_next x7.below b8⟩, rfl⟩))
    go_wp2
    go_ret
    exact ⟨rfl, held_next hbW5 x7.below⟩
namespace fnExactChannelTextDone
open Go.ChangeShapes Go.WideShapes Go.ChangeAt Go.RowKit Go.Joins
open Go.ChangeMaps (open_string shut_string)
theorem arr3 {cs : Array Value} (h : cs.size = 3) : ∃ c0 c1 c2, cs = #[c0, c1, c2] := by
  obtain ⟨l⟩ := cs
  match l, h with
  | [c0, c1, c2], _ => exact ⟨c0, c1, c2, rfl⟩
set_option maxRecDepth 100000 in
theorem lifted (os : Os) (started : os.Started) (H : Type) (enc : TypeId × Value → H) :
    ReturnsInHanded {} Tryd.checked os 3 .any (fun w args => (Rows.fnExactChannelTextSpec.pre enc Tryd.prog Tryd.f3 Rows.fnExactChannelTextRow.domain false w args ∧ laidMetH Tryd.prog Rows.fnExactChannelTextRow.laid w) ∧ sizedMet enc Tryd.prog Tryd.f3 (OpenSpec.ofChange Rows.fnExactChannelTextSpec) false w args)
      (Rows.fnExactChannelTextSpec.post enc Tryd.prog Tryd.f3 false true false false) := by
  refine returnsInHanded_of_change_and (C := Tryd.checked) (X := fun w _ => laidMetH Tryd.prog Rows.fnExactChannelTextRow.laid w) (fun _ _ _ hh h => h.of_heap hh) lawOwn started (by kernel_rfl) Tryd.func3
    (ChangeSpec.witness_shaped (enc := enc) (C := Tryd.checked) (os := os) (X := fun w _ => laidMetH Tryd.prog Rows.fnExactChannelTextRow.laid w) false (World.laidAll Tryd.prog os Rows.fnExactChannelTextRow.laid) #[.agg #[.string ByteArray.empty, .slice none 0 0, .int .i64 0]] 8 (World.laidAll_os _ _ _)
      (World.shaped_of_ZipB (by kernel_rfl) (by kernel_rfl)) (by kernel_rfl) (by kernel_rfl) (by kernel_rfl)
      (by rw [MakeChecks.laidMetH_plain _ _ _ (by kernel_rfl)]; exact laidMet_laidAll _ (by kernel_rfl) (by kernel_rfl))) ?_
  intro W base args ds gs before hval0 hW _ _ hL _
  have hval : ∀ (j : Nat) t v, Tryd.f3.params[j]? = some t → args[j]? = some v → Value.okWide Tryd.prog W .any base t v := hval0
  have hW' := hW
  obtain ⟨p, q, hA0, hV, rfl, hfz, hnd⟩ := hW
  have hA : DataW.TrodAll enc Tryd.prog W 0 (fun _ => true) true Tryd.f3.params.toList args.toList ds p := hA0
  rw [Tryd.params3] at hA hval
  obtain ⟨v0, vs0, d0, ds0, p0, q0, hargs, rfl, rfl, h0, r0⟩ := trodAll_cons hA
  obtain ⟨rfl, rfl, rfl⟩ := trodAll_nil r0
  obtain rfl : args = #[v0] := by cases args; simp_all
  obtain ⟨rfl, rfl⟩ := trodVars_none hV
  have k0 := h0
  have lt0 : ∀ x ∈ p0, x.block < W.heap.size := by obtain ⟨m, hm⟩ := k0; exact DataW.trod_lt m _ _ _ hm
  suffices hwalk : Calls Tryd.prog 3 #[v0] W fun e w' => e = .returned (.bool true) ∧ Below W.heap.size W w' by
    refine hwalk.mono fun e W' ⟨he, bel⟩ => ?_
    subst he
    exact ⟨_, rfl, _, _, _, [], _, [], hW', trodAll_mk1 (shut_bool Tryd.underlying4 _), (trodAll_cons_mk (Below.trod lawLaid (by kernel_rfl) (of_decide_eq_true (by kernel_rfl)) k0 bel lt0) trodAll_mk0), rfl, bel.frame _, fun h => by cases h⟩
  clear hA0 hval0
  obtain ⟨cs0, rfl, hz0⟩ := okWide_struct Tryd.underlying24 (hval 0 24 v0 rfl rfl)
  have hq0 := agg_leaves (ks := [1, 24, 0]) 6 (by kernel_rfl) (by kernel_rfl) h0
  obtain ⟨c0_0, c0_1, c0_2, rfl⟩ := arr3 (hz0.trans (by kernel_rfl))
  obtain ⟨u0_0, e0_0, l0_0⟩ := hq0 0 _ rfl
  obtain rfl : c0_0 = u0_0 := Option.some.inj e0_0
  obtain ⟨a0_0, rfl, w0_0⟩ := l0_0.1.2 rfl
  obtain ⟨u0_1, e0_1, l0_1⟩ := hq0 1 _ rfl
  obtain rfl : c0_1 = u0_1 := Option.some.inj e0_1
  obtain ⟨a0_1, len0_1, cap0_1, rfl, w0_1, g0_1⟩ := l0_1.2 22 rfl
  have r0_1 := g0_1 92 [0, 0] Tryd.underlying22 (by kernel_rfl) (by kernel_rfl) (by decide)
  obtain ⟨u0_2, e0_2, l0_2⟩ := hq0 2 _ rfl
  obtain rfl : c0_2 = u0_2 := Option.some.inj e0_2
  obtain ⟨a0_2, rfl, w0_2⟩ := l0_2.1.1 rfl
  rw [MakeChecks.laidMetH_plain _ _ _ (by kernel_rfl)] at hL
  have hTab := powTab_of (Lib.laidMet.reads hL (.tail _ (.tail _ (.head _))))
  exact fnExactChannelText_walk (w := W) a0_0 w0_0 a0_1 len0_1 cap0_1 w0_1 r0_1 a0_2 w0_2 hTab

theorem over : Rows.fnExactChannelTextRow.holds Tryd.pinned (OpenSpec.ofChange Rows.fnExactChannelTextSpec) :=
  OpenClaim.holds_of_wide 3 Tryd.f3 rfl rfl rfl rfl rfl rfl rfl ⟨rfl, rfl, rfl, rfl, rfl⟩ rfl rfl rfl rfl rfl (by kernel_rfl) Tryd.func3 (by kernel_rfl)
    (of_decide_eq_true (by kernel_rfl)) (by unfold Func.isWrapper; first | (rw [if_pos (by decide +kernel)]; kernel_rfl) | (rw [if_neg (by decide +kernel)]; exact ⟨rfl, rfl⟩))
    (fun os started H enc _ => lifted os started H enc)

theorem proved : Rows.FnExactChannelTextCardSaid :=
  Claim7.holds_tied_plain_at .later [] [.data, .data, .data] true (true, "3c5d1abde885b458624fa97d3f925a85800a0aa273fad69290f9f40679c14aa5") true over (fun _ h => by cases h) (by kernel_rfl) (fun _ h => by cases h) fnExactChannelText_row_tie rfl ⟨rfl, rfl⟩ (by kernel_rfl) rfl
    (fun f fn hf hfn => by
      obtain rfl : f = 3 := Option.some.inj ((show Tryd.prog.funcNamed "loop.example/g00953/laws.FnExactChannelText" = some 3 by kernel_rfl).symm.trans hf) |>.symm
      obtain rfl : fn = Tryd.f3 := (Option.some.inj (Tryd.func3.symm.trans hfn)).symm
      exact ⟨by kernel_rfl, fun j t ht => by
        rw [Tryd.params3] at ht
        have hm : t ∈ [24] := by simpa using Array.mem_of_getElem? ht
        have hall : ([24].all fun u => !Tryd.prog.wantsStandIn u) = true := by kernel_rfl
        exact (show Tryd.prog.wantsStandIn t = false by simpa using List.all_eq_true.1 hall t hm)⟩)
    (by kernel_rfl)
#print axioms proved
end fnExactChannelTextDone
end Go.Proofs.YtimfpnmcdicldaaDoor
