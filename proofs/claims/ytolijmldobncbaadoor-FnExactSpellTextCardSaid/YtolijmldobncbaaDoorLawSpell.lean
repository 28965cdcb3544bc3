/- The program's SpellText answers as the reference's, for all texts, where the listed tables of Go's library hold what its text lays (the card ties them). -/
import Derived.Test.YtolijmldobncbaaDoorSpell
namespace Go.Proofs.YtolijmldobncbaaDoor
open Go Go.RowKit
set_option maxHeartbeats 2000000 in
theorem fnExactSpellText_walk {w : World} (s : ByteArray) (hs : s.size ≤ maxLen) (hM : MaxL w) :
    Calls Tryd.prog 8 #[.string s] w fun e w' => e = .returned (.bool true) ∧ Below w.heap.size w w' := by
  have HM := Lib.hid hs
  have HX := Lib.hid (fun y : Aft w => hM.below y.below)
  unfold maxLen at hs
  by_cases hlong : 1048576 < (s.size : Int)
  · go_enter Tryd.func8, Tryd.ntmps8
    go_wp2
    go_ret
    exact ⟨rfl, Below.refl _ _⟩
  · have H1 := Lib.hid (show s.size ≤ 1048576 by omega)
    cases h : okText s
    · have H := Lib.hid h
      clear h
      go_enter Tryd.func8, Tryd.ntmps8
      go_wp2_with (first
        | (go_at_call 28; refine (Aft.first (specSpell_bad _ HM.out H.out _)).mono ?_; rintro e _ ⟨rfl, y, rfl⟩)
        | (go_at_call 29; refine (Aft.call (implSpell_bad _ H1.out H.out _ (HX.out _))).mono ?_; rintro e _ ⟨rfl, z, rfl⟩))
      go_ret
      exact ⟨rfl, Aft.below _⟩
    · have H := Lib.hid h
      clear h
      go_enter Tryd.func8, Tryd.ntmps8
      go_wp2_with (first
        | (go_at_call 28; refine (Aft.first (specSpell_good _ HM.out H.out _)).mono ?_; rintro e _ ⟨rfl, y, rfl⟩)
        | (go_at_call 29; refine (Aft.call (implSpell_good _ H1.out H.out _ (HX.out _))).mono ?_; rintro e _ ⟨rfl, z, rfl⟩))
      go_ret
      exact ⟨rfl, Aft.below _⟩
namespace fnExactSpellTextDone
open Go.ChangeShapes Go.WideShapes Go.ChangeAt Go.RowKit Go.Joins
open Go.ChangeMaps (open_string shut_string)
set_option maxRecDepth 100000 in
theorem lifted (os : Os) (started : os.Started) (H : Type) (enc : TypeId × Value → H) :
    ReturnsInHanded {} Tryd.checked os 8 .any (fun w args => (Rows.fnExactSpellTextSpec.pre enc Tryd.prog Tryd.f8 Rows.fnExactSpellTextRow.domain false w args ∧ laidMetH Tryd.prog Rows.fnExactSpellTextRow.laid w) ∧ sizedMet enc Tryd.prog Tryd.f8 (OpenSpec.ofChange Rows.fnExactSpellTextSpec) false w args)
      (Rows.fnExactSpellTextSpec.post enc Tryd.prog Tryd.f8 false true false false) := by
  refine returnsAndShaped (C := Tryd.checked) (X := fun w _ => laidMetH Tryd.prog Rows.fnExactSpellTextRow.laid w) (fun _ _ _ hh h => h.of_heap hh) lawOwn started (by kernel_rfl) Tryd.func8
    (ChangeSpec.witness_shaped (enc := enc) (C := Tryd.checked) (os := os) (X := fun w _ => laidMetH Tryd.prog Rows.fnExactSpellTextRow.laid w) false (World.laidAll Tryd.prog os Rows.fnExactSpellTextRow.laid) #[.string ByteArray.empty] 8 (World.laidAll_os _ _ _)
      (World.shaped_of_ZipB (by kernel_rfl) (by kernel_rfl)) (by kernel_rfl) (by kernel_rfl) (by kernel_rfl)
      (by rw [MakeChecks.laidMetH_plain _ _ _ (by kernel_rfl)]; exact laidMet_laidAll _ (by kernel_rfl) (by kernel_rfl))) ?_
  intro W base args ds gs before hval0 hW hsh hL
  have hval : ∀ (j : Nat) t v, Tryd.f8.params[j]? = some t → args[j]? = some v → Value.okWide Tryd.prog W .any base t v := hval0
  have hW' := hW
  obtain ⟨p, q, hA0, hV, rfl, hfz, hnd⟩ := hW
  have hA : DataW.TrodAll enc Tryd.prog W 0 (fun _ => true) true Tryd.f8.params.toList args.toList ds p := hA0
  rw [Tryd.params8] at hA hval
  obtain ⟨v0, vs0, d0, ds0, p0, q0, hargs, rfl, rfl, h0, r0⟩ := trodAll_cons hA
  obtain ⟨rfl, rfl, rfl⟩ := trodAll_nil r0
  obtain rfl : args = #[v0] := by cases args; simp_all
  obtain ⟨rfl, rfl⟩ := trodVars_none hV
  have k0 := h0
  have lt0 : ∀ x ∈ p0, x.block < W.heap.size := by obtain ⟨m, hm⟩ := k0; exact DataW.trod_lt m _ _ _ hm
  suffices hwalk : Calls Tryd.prog 8 #[v0] W fun e w' => e = .returned (.bool true) ∧ Below W.heap.size W w' by
    refine hwalk.mono fun e W' ⟨he, bel⟩ => ?_
    subst he
    exact ⟨_, rfl, _, _, _, [], _, [], hW', trodAll_mk1 (shut_bool Tryd.underlying4 _), (trodAll_cons_mk (Below.trod lawLaid (by kernel_rfl) (of_decide_eq_true (by kernel_rfl)) k0 bel lt0) trodAll_mk0), rfl, bel.frame _, fun h => by cases h⟩
  clear hA0 hval0
  obtain ⟨s0, rfl, rfl, rfl, w0⟩ := open_string Tryd.underlying9 (hval 0 9 v0 rfl rfl) h0
  have hMax := maxL_of hsh
  exact fnExactSpellText_walk (w := W) s0 w0 hMax

theorem over : Rows.fnExactSpellTextRow.holds Tryd.pinned (OpenSpec.ofChange Rows.fnExactSpellTextSpec) :=
  OpenClaim.holds_of_wide 8 Tryd.f8 rfl rfl rfl rfl rfl rfl rfl ⟨rfl, rfl, rfl, rfl, rfl⟩ rfl rfl rfl rfl rfl (by kernel_rfl) Tryd.func8 (by kernel_rfl)
    (of_decide_eq_true (by kernel_rfl)) (by unfold Func.isWrapper; first | (rw [if_pos (by decide +kernel)]; kernel_rfl) | (rw [if_neg (by decide +kernel)]; exact ⟨rfl, rfl⟩))
    (fun os started H enc _ => lifted os started H enc)

theorem proved : Rows.FnExactSpellTextCardSaid :=
  Claim7.holds_tied_plain_at .later [] [.data, .pinned] true (true, "a6357595bf9999fd0109d346879aa51bdc7c32d128cba37b7695526da005853e") false over (fun _ h => by cases h) (by kernel_rfl) (fun _ h => by cases h) fnExactSpellText_row_tie rfl ⟨rfl, rfl⟩ (by kernel_rfl) rfl
    (fun f fn hf hfn => by
      obtain rfl : f = 8 := Option.some.inj ((show Tryd.prog.funcNamed "loop.example/g00953/laws.FnExactSpellText" = some 8 by kernel_rfl).symm.trans hf) |>.symm
      obtain rfl : fn = Tryd.f8 := (Option.some.inj (Tryd.func8.symm.trans hfn)).symm
      exact ⟨by kernel_rfl, fun j t ht => by
        rw [Tryd.params8] at ht
        have hm : t ∈ [9] := by simpa using Array.mem_of_getElem? ht
        have hall : ([9].all fun u => !Tryd.prog.wantsStandIn u) = true := by kernel_rfl
        exact (show Tryd.prog.wantsStandIn t = false by simpa using List.all_eq_true.1 hall t hm)⟩)
    (by kernel_rfl)
#print axioms proved
end fnExactSpellTextDone
end Go.Proofs.YtolijmldobncbaaDoor
