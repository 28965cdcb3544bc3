/- The program's PhasesText answers as the reference's, for all arguments, where the listed tables of Go's library hold what its text lays (the card ties them). -/
import Derived.Test.YtimfpnmcdicldaaDoorPhT
namespace Go.Proofs.YtimfpnmcdicldaaDoor
open Go Go.RowKit Go.Shelf
def phTextS (n : Nat) (C : Nat → ByteArray) (L : Nat → Int) : ByteArray := if okPhs n C L = true then phsT C L n else ⟨#[]⟩
set_option maxHeartbeats 2000000 in
theorem specPhasesText_c (A : Option Addr) (n cap : Nat) (C : Nat → ByteArray) (L : Nat → Int) (w : World) (hn : n ≤ 1048576) (hR : Rec 2 w A n (vPhase C L)) :
    Calls Tryd.prog 17 #[.slice A n cap] w fun e w' => e = .returned (.string (phTextS n C L)) ∧ Below w.heap.size w w' := by
  have HV := Lib.hid (l06Ok_c A n cap C L w hn hR)
  cases hv : okPhs n C L
  · rw [hv] at HV
    have hX : phTextS n C L = ⟨#[]⟩ := if_neg (by rw [hv]; simp)
    rw [hX]
    clear hX hv
    go_enter Tryd.func17, Tryd.ntmps17
    go_wp2_with fail
    refine HV.out.mono ?_
    rintro e _ ⟨rfl, rfl⟩
    go_wp2
    go_ret
    exact ⟨rfl, Below.refl _ _⟩
  · rw [hv] at HV
    obtain ⟨hn1, _, hCL⟩ := okPhs_yes hv
    have hX : phTextS n C L = phsT C L n := if_pos hv
    rw [hX]
    have HT := Lib.hid (l06Text_c A n cap C L w hn1.2 hCL hR)
    clear hX hv
    generalize phsT C L n = X at *
    go_enter Tryd.func17, Tryd.ntmps17
    go_wp2_with fail
    refine HV.out.mono ?_
    rintro e _ ⟨rfl, rfl⟩
    go_wp2_with fail
    refine HT.out.mono ?_
    rintro e w1 ⟨rfl, hb1⟩
    go_wp2
    go_ret
    exact ⟨rfl, hb1⟩
set_option maxHeartbeats 4000000 in
theorem fnExactPhasesText_walk {w : World} (A : Option Addr) (n cap : Nat) (hl : n ≤ maxLen) (hrow : Rows0 [1, 0] w A n) (hT : Pows w) :
    Calls Tryd.prog 5 #[.slice A n cap] w fun e w' => e = .returned (.bool true) ∧ Below w.heap.size w w' := by
  obtain ⟨X, Y, hR, hXY⟩ := rowsPhase hrow
  clear hrow
  have HSz := Lib.hid (fun W hW => szPhaseS_c A n cap X Y 1048576 hl (fun i hi => (hXY i hi).1) (by omega) (by omega) W hW)
  have HX := Lib.hid (fun i hi => (hXY i hi).1)
  have HTP := Lib.hid hT
  clear hXY hT
  go_enter Tryd.func5, Tryd.ntmps5
  go_wp2_with fail
  refine (HSz.out _ hR).mono ?_
  rintro e w2 ⟨rfl | ⟨r, q0, q1, rfl⟩, b2⟩
  · go_wp2
    go_ret
    exact ⟨rfl, b2⟩
  have hn : n ≤ 1048576 := by omega
  have HP := Lib.hid (fun A cap W hR => specPhasesText_c A n cap X Y W hn hR)
  have HI := Lib.hid (fun A cap W hR hW => implPhasesText_c A n cap X Y W hn HX.out hR hW)
  have hv : (if okPhs n X Y = true then phsT X Y n else ⟨#[]⟩) = phTextS n X Y := rfl
  rw [hv] at HI
  clear hv
  generalize phTextS n X Y = v at *
  have hR2 := hR.below b2
  go_wp2_with fail
  refine (toPhaseS_c A n cap X Y _ hn hR2).mono ?_
  rintro e w3 ⟨g3, rfl, F3⟩
  have b3 := F3.bel
  have r3 := F3.rec
  go_wp2_with fail
  refine (HP.out _ _ _ r3).mono ?_
  rintro e w4 ⟨rfl, b4⟩
  clear F3 r3
  have hb4 := held_next b2 (held_next b3 b4)
  go_wp2_with fail
  refine (toPhaseS_c A n cap X Y _ hn (hR.below hb4)).mono ?_
  rintro e w5 ⟨g5, rfl, F5⟩
  have b5 := F5.bel
  have r5 := Lib.hid F5.rec
  have hb5 := held_next hb4 b5
  clear F5
  go_wp2_with fail
  refine (HI.out _ _ _ r5.out (HTP.out.below hb5)).mono ?_
  rintro e w6 ⟨rfl, b6⟩
  have r6 := Lib.hid (r5.out.below b6)
  have hb6 := held_next hb5 b6
  clear r5
  go_wp2_with fail
  refine (toPhaseS_c A n cap X Y _ hn (hR.below hb6)).mono ?_
  rintro e w7 ⟨g7, rfl, F7⟩
  have b7 := F7.bel
  have r7 := Lib.hid (r6.out.below b7)
  have q7 := Lib.hid F7.rec
  have hb7 := held_next hb6 b7
  clear F7 r6
  go_wp2_with fail
  refine (eqPhaseS_same _ _ n _ _ X Y _ hn r7.out q7.out).mono ?_
  rintro e w8 ⟨rfl, b8⟩
  go_wp2
  go_ret
  exact ⟨rfl, held_next hb7 b8⟩
namespace fnExactPhasesTextDone
open Go.ChangeShapes Go.WideShapes Go.ChangeAt Go.RowKit Go.Joins
open Go.ChangeMaps (open_string shut_string)
set_option maxRecDepth 100000 in
theorem lifted (os : Os) (started : os.Started) (H : Type) (enc : TypeId × Value → H) :
    ReturnsInHanded {} Tryd.checked os 5 .any (fun w args => (Rows.fnExactPhasesTextSpec.pre enc Tryd.prog Tryd.f5 Rows.fnExactPhasesTextRow.domain false w args ∧ laidMetH Tryd.prog Rows.fnExactPhasesTextRow.laid w) ∧ sizedMet enc Tryd.prog Tryd.f5 (OpenSpec.ofChange Rows.fnExactPhasesTextSpec) false w args)
      (Rows.fnExactPhasesTextSpec.post enc Tryd.prog Tryd.f5 false true false false) := by
  refine returnsInHanded_of_change_and (C := Tryd.checked) (X := fun w _ => laidMetH Tryd.prog Rows.fnExactPhasesTextRow.laid w) (fun _ _ _ hh h => h.of_heap hh) lawOwn started (by kernel_rfl) Tryd.func5
    (ChangeSpec.witness_shaped (enc := enc) (C := Tryd.checked) (os := os) (X := fun w _ => laidMetH Tryd.prog Rows.fnExactPhasesTextRow.laid w) false (World.laidAll Tryd.prog os Rows.fnExactPhasesTextRow.laid) #[.slice none 0 0] 8 (World.laidAll_os _ _ _)
      (World.shaped_of_ZipB (by kernel_rfl) (by kernel_rfl)) (by kernel_rfl) (by kernel_rfl) (by kernel_rfl)
      (by rw [MakeChecks.laidMetH_plain _ _ _ (by kernel_rfl)]; exact laidMet_laidAll _ (by kernel_rfl) (by kernel_rfl))) ?_
  intro W base args ds gs before hval0 hW _ _ hL _
  have hval : ∀ (j : Nat) t v, Tryd.f5.params[j]? = some t → args[j]? = some v → Value.okWide Tryd.prog W .any base t v := hval0
  have hW' := hW
  obtain ⟨p, q, hA0, hV, rfl, hfz, hnd⟩ := hW
  have hA : DataW.TrodAll enc Tryd.prog W 0 (fun _ => true) true Tryd.f5.params.toList args.toList ds p := hA0
  rw [Tryd.params5] at hA hval
  obtain ⟨v0, vs0, d0, ds0, p0, q0, hargs, rfl, rfl, h0, r0⟩ := trodAll_cons hA
  obtain ⟨rfl, rfl, rfl⟩ := trodAll_nil r0
  obtain rfl : args = #[v0] := by cases args; simp_all
  obtain ⟨rfl, rfl⟩ := trodVars_none hV
  have k0 := h0
  have lt0 : ∀ x ∈ p0, x.block < W.heap.size := by obtain ⟨m, hm⟩ := k0; exact DataW.trod_lt m _ _ _ hm
  suffices hwalk : Calls Tryd.prog 5 #[v0] W fun e w' => e = .returned (.bool true) ∧ Below W.heap.size W w' by
    refine hwalk.mono fun e W' ⟨he, bel⟩ => ?_
    subst he
    exact ⟨_, rfl, _, _, _, [], _, [], hW', trodAll_mk1 (shut_bool Tryd.underlying4 _), (trodAll_cons_mk (Below.trod lawLaid (by kernel_rfl) (of_decide_eq_true (by kernel_rfl)) k0 bel lt0) trodAll_mk0), rfl, bel.frame _, fun h => by cases h⟩
  clear hA0 hval0
  obtain ⟨a0, len0, cap0, rfl, wl0, rw0⟩ := slice_leaves (ks := [1, 0]) 6 Tryd.underlying39 (by kernel_rfl) (by kernel_rfl) (by decide) (okWide_slice Tryd.underlying39 (hval 0 39 v0 rfl rfl)) h0
  rw [MakeChecks.laidMetH_plain _ _ _ (by kernel_rfl)] at hL
  have hTab := powTab_of (Lib.laidMet.reads hL (.tail _ (.tail _ (.head _))))
  exact fnExactPhasesText_walk (w := W) a0 len0 cap0 wl0 rw0.to0 hTab

theorem over : Rows.fnExactPhasesTextRow.holds Tryd.pinned (OpenSpec.ofChange Rows.fnExactPhasesTextSpec) :=
  OpenClaim.holds_of_wide 5 Tryd.f5 rfl rfl rfl rfl rfl rfl rfl ⟨rfl, rfl, rfl, rfl, rfl⟩ rfl rfl rfl rfl rfl (by kernel_rfl) Tryd.func5 (by kernel_rfl)
    (of_decide_eq_true (by kernel_rfl)) (by unfold Func.isWrapper; first | (rw [if_pos (by decide +kernel)]; kernel_rfl) | (rw [if_neg (by decide +kernel)]; exact ⟨rfl, rfl⟩))
    (fun os started H enc _ => lifted os started H enc)

theorem proved : Rows.FnExactPhasesTextCardSaid :=
  Claim7.holds_tied_plain_at .later [] [.data, .data, .data] true (true, "3c5d1abde885b458624fa97d3f925a85800a0aa273fad69290f9f40679c14aa5") true over (fun _ h => by cases h) (by kernel_rfl) (fun _ h => by cases h) fnExactPhasesText_row_tie rfl ⟨rfl, rfl⟩ (by kernel_rfl) rfl
    (fun f fn hf hfn => by
      obtain rfl : f = 5 := Option.some.inj ((show Tryd.prog.funcNamed "loop.example/g00953/laws.FnExactPhasesText" = some 5 by kernel_rfl).symm.trans hf) |>.symm
      obtain rfl : fn = Tryd.f5 := (Option.some.inj (Tryd.func5.symm.trans hfn)).symm
      exact ⟨by kernel_rfl, fun j t ht => by
        rw [Tryd.params5] at ht
        have hm : t ∈ [39] := by simpa using Array.mem_of_getElem? ht
        have hall : ([39].all fun u => !Tryd.prog.wantsStandIn u) = true := by kernel_rfl
        exact (show Tryd.prog.wantsStandIn t = false by simpa using List.all_eq_true.1 hall t hm)⟩)
    (by kernel_rfl)
#print axioms proved
end fnExactPhasesTextDone
end Go.Proofs.YtimfpnmcdicldaaDoor
