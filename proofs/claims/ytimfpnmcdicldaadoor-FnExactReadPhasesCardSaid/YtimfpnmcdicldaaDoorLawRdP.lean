/- The program's ReadPhases answers as the reference's, for all arguments, and keeps nothing of what it hands out, where the listed variables of Go's library hold what its text lays (the card ties them). -/
import Derived.Test.YtimfpnmcdicldaaDoorRdB
import Derived.Test.YtimfpnmcdicldaaDoorMarkPh
namespace Go.Proofs.YtimfpnmcdicldaaDoor
open Go Go.RowKit Go.Shelf
theorem far_apart {v1 v2 : Value} {b : Nat} (h1 : ∀ k, v1.ownBlock = some k → k < b) (h2 : ∀ k, v2.ownBlock = some k → b ≤ k) : v1.ownBlock = none ∨ v1.ownBlock ≠ v2.ownBlock := by
  cases h : v1.ownBlock with
  | none => exact .inl rfl
  | some k => exact .inr (fun e => by have := h1 k h; have := h2 k e.symm; omega)
theorem so_low {w w' : World} {base e m n : Nat} {v : Value} {f : Nat → Nat → Value} (h : SO w base e m v n f) {b : Nat} (hlt : ∀ k, v.ownBlock = some k → k < b) (hb : Below b w w') : SO w' base e m v n f := by
  obtain ⟨xs, h1, h2⟩ := h
  refine ⟨xs, ⟨h1.1, ?_⟩, h2⟩
  rcases h1.2 with h0 | ⟨g, cap, cur, e1, e2, e3, e4⟩
  · exact .inl h0
  · exact .inr ⟨g, cap, cur, e1, e2, (hb.block g (hlt g (by rw [e1]; rfl))).trans e3, e4⟩
set_option maxRecDepth 100000 in
set_option maxHeartbeats 8000000 in
theorem fnExactReadPhases_walk {w : World} (s : ByteArray) (_hs : s.size ≤ maxLen) (hT : Pows w) (hE : Errs w) (hM : MaxL w) :
    Calls Tryd.prog 6 #[.string s] w fun e w' => e = .returned (.bool true) ∧ Below w.heap.size w w' := by
  by_cases h : 1048576 < s.size
  · have hi : (1048576 : Int) < (s.size : Int) := by omega
    go_enter Tryd.func6, Tryd.ntmps6
    go_wp2
    go_ret
    exact ⟨rfl, Below.refl _ _⟩
  · have hi : ¬ (1048576 : Int) < (s.size : Int) := by omega
    have hs : s.size ≤ 1048576 := by omega
    have HP := Lib.hid (fun W => specRead_c s hs W)
    have HI := Lib.hid (fun W hT hE hM => implReadPh_c s hs W hT hE hM)
    have HT := Lib.hid (And.intro hT (And.intro hE hM))
    have hn := rdN_le s
    have hni : ¬ (1 + 2 * (rdN s : Int) < 0) := by omega
    clear hT hE hM
    unfold RdPost at HP HI
    generalize rdN s = n at *
    generalize rdOk s = ok at *
    generalize rC s = X at *
    generalize rL s = Y at *
    go_enter Tryd.func6, Tryd.ntmps6
    go_wp2_with fail
    refine (HP.out _).mono ?_
    rintro e w1 ⟨A1, c1, rfl, S1, b1⟩
    have rw := Lib.hid S1
    have orw : Hid (∀ k, (.slice A1 n c1 : Value).ownBlock = some k → k < w1.heap.size) := Lib.hid (fun k hk => (S1.lt k hk).2)
    clear S1
    go_wp2_with fail
    refine (HI.out _ (HT.out.1.below b1) (HT.out.2.1.below b1) (HT.out.2.2.below b1)).mono ?_
    rintro e w2 ⟨A2, c2, rfl, S2, b2⟩
    have rg := Lib.hid S2
    replace rw := Lib.hid (rw.out.below b2)
    have hb2 := held_next b1 b2
    clear S2
    go_wp2_with fail
    refine (eqPhaseS_same _ _ n _ _ X Y _ (by omega) rg.out.rec rw.out.rec).mono ?_
    rintro e w3 ⟨rfl, b3⟩
    replace rw := Lib.hid (rw.out.below b3)
    replace rg := Lib.hid (rg.out.below b3)
    have hb3 := held_next hb2 b3
    have h13 : w1.heap.size ≤ w3.heap.size := Nat.le_trans b2.size b3.size
    go_wp2_with fail
    refine (markPhaseS_c _ n _ 1 _ _ _ (by omega) (by omega) (by omega) rg.out h13).mono ?_
    rintro e w4 ⟨rfl, m4, S4⟩
    replace rw := Lib.hid (so_low rw.out orw.out m4)
    have hb4 : Below w.heap.size w w4 := hb3.trans (m4.mono b1.size)
    replace rg := Lib.hid S4
    clear S4
    go_wp2_with fail
    refine (heldPhaseS_c _ n _ 1 _ (by omega) (by omega) (by omega) rg.out.rec).mono ?_
    rintro e w5 ⟨rfl, b5⟩
    replace rw := Lib.hid (rw.out.below b5)
    replace rg := Lib.hid (rg.out.below b5)
    have hb5 := held_next hb4 b5
    go_wp2_with fail
    refine (HI.out _ (HT.out.1.below hb5) (HT.out.2.1.below hb5) (HT.out.2.2.below hb5)).mono ?_
    rintro e w6 ⟨A6, c6, rfl, S6, b6⟩
    have rh := Lib.hid S6
    replace rw := Lib.hid (rw.out.below b6)
    replace rg := Lib.hid (rg.out.below b6)
    have hb6 := held_next hb5 b6
    clear S6
    go_wp2_with fail
    refine (eqPhaseS_same _ _ n _ _ X Y _ (by omega) rh.out.rec rw.out.rec).mono ?_
    rintro e w7 ⟨rfl, b7⟩
    replace rg := Lib.hid (rg.out.below b7)
    have hb7 := held_next hb6 b7
    go_wp2_with fail
    refine (heldPhaseS_c _ n _ 1 _ (by omega) (by omega) (by omega) rg.out.rec).mono ?_
    rintro e w8 ⟨rfl, b8⟩
    go_wp2
    go_ret
    exact ⟨rfl, held_next hb7 b8⟩
namespace fnExactReadPhasesDone
open Go.ChangeShapes Go.WideShapes Go.ChangeAt Go.RowKit Go.Joins
open Go.ChangeMaps (open_string shut_string)
set_option maxRecDepth 100000 in
theorem lifted (os : Os) (started : os.Started) (H : Type) (enc : TypeId × Value → H) :
    ReturnsInHanded {} Tryd.checked os 6 .any (fun w args => (Rows.fnExactReadPhasesSpec.pre enc Tryd.prog Tryd.f6 Rows.fnExactReadPhasesRow.domain false w args ∧ laidMetH Tryd.prog Rows.fnExactReadPhasesRow.laid w) ∧ sizedMet enc Tryd.prog Tryd.f6 (OpenSpec.ofChange Rows.fnExactReadPhasesSpec) false w args)
      (Rows.fnExactReadPhasesSpec.post enc Tryd.prog Tryd.f6 false true false false) := by
  refine returnsAndShaped (C := Tryd.checked) (X := fun w _ => laidMetH Tryd.prog Rows.fnExactReadPhasesRow.laid w) (fun _ _ _ hh h => h.of_heap hh) lawOwn started (by kernel_rfl) Tryd.func6
    (ChangeSpec.witness_shaped (enc := enc) (C := Tryd.checked) (os := os) (X := fun w _ => laidMetH Tryd.prog Rows.fnExactReadPhasesRow.laid w) false (World.laidAll Tryd.prog os Rows.fnExactReadPhasesRow.laid) #[.string ByteArray.empty] 8 (World.laidAll_os _ _ _)
      (World.shaped_of_ZipB (by kernel_rfl) (by kernel_rfl)) (by kernel_rfl) (by kernel_rfl) (by kernel_rfl)
      (by rw [MakeChecks.laidMetH_plain _ _ _ (by kernel_rfl)]; exact laidMet_laidAll _ (by kernel_rfl) (by kernel_rfl))) ?_
  intro W base args ds gs before hval0 hW hsh hL
  have hval : ∀ (j : Nat) t v, Tryd.f6.params[j]? = some t → args[j]? = some v → Value.okWide Tryd.prog W .any base t v := hval0
  have hW' := hW
  obtain ⟨p, q, hA0, hV, rfl, hfz, hnd⟩ := hW
  have hA : DataW.TrodAll enc Tryd.prog W 0 (fun _ => true) true Tryd.f6.params.toList args.toList ds p := hA0
  rw [Tryd.params6] at hA hval
  obtain ⟨v0, vs0, d0, ds0, p0, q0, hargs, rfl, rfl, h0, r0⟩ := trodAll_cons hA
  obtain ⟨rfl, rfl, rfl⟩ := trodAll_nil r0
  obtain rfl : args = #[v0] := by cases args; simp_all
  obtain ⟨rfl, rfl⟩ := trodVars_none hV
  have k0 := h0
  have lt0 : ∀ x ∈ p0, x.block < W.heap.size := by obtain ⟨m, hm⟩ := k0; exact DataW.trod_lt m _ _ _ hm
  suffices hwalk : Calls Tryd.prog 6 #[v0] W fun e w' => e = .returned (.bool true) ∧ Below W.heap.size W w' by
    refine hwalk.mono fun e W' ⟨he, bel⟩ => ?_
    subst he
    exact ⟨_, rfl, _, _, _, [], _, [], hW', trodAll_mk1 (shut_bool Tryd.underlying4 _), (trodAll_cons_mk (Below.trod lawLaid (by kernel_rfl) (of_decide_eq_true (by kernel_rfl)) k0 bel lt0) trodAll_mk0), rfl, bel.frame _, fun h => by cases h⟩
  clear hA0 hval0
  obtain ⟨s0, rfl, rfl, rfl, w0⟩ := open_string Tryd.underlying9 (hval 0 9 v0 rfl rfl) h0
  rw [MakeChecks.laidMetH_plain _ _ _ (by kernel_rfl)] at hL
  have hTab := powTab_of (Lib.laidMet.reads hL (.tail _ (.tail _ (.head _))))
  have hErr := errs_of (Lib.laidMet.reads hL (.tail _ (.tail _ (.tail _ (.tail _ (.tail _ (.head _))))))) (Lib.laidMet.reads hL (.tail _ (.tail _ (.tail _ (.tail _ (.head _))))))
  have hMax := maxL_of hsh
  exact fnExactReadPhases_walk (w := W) s0 w0 hTab hErr hMax

theorem over : Rows.fnExactReadPhasesRow.holds Tryd.pinned (OpenSpec.ofChange Rows.fnExactReadPhasesSpec) :=
  OpenClaim.holds_of_wide 6 Tryd.f6 rfl rfl rfl rfl rfl rfl rfl ⟨rfl, rfl, rfl, rfl, rfl⟩ rfl rfl rfl rfl rfl (by kernel_rfl) Tryd.func6 (by kernel_rfl)
    (of_decide_eq_true (by kernel_rfl)) (by unfold Func.isWrapper; first | (rw [if_pos (by decide +kernel)]; kernel_rfl) | (rw [if_neg (by decide +kernel)]; exact ⟨rfl, rfl⟩))
    (fun os started H enc _ => lifted os started H enc)

theorem proved : Rows.FnExactReadPhasesCardSaid :=
  Claim7.holds_tied_plain_at .later [] [.data, .data, .data, .data, .sentinel, .sentinel, .pinned] true (true, "3c5d1abde885b458624fa97d3f925a85800a0aa273fad69290f9f40679c14aa5") true over (fun _ h => by cases h) (by kernel_rfl) (fun _ h => by cases h) fnExactReadPhases_row_tie rfl ⟨rfl, rfl⟩ (by kernel_rfl) rfl
    (fun f fn hf hfn => by
      obtain rfl : f = 6 := Option.some.inj ((show Tryd.prog.funcNamed "loop.example/g00953/laws.FnExactReadPhases" = some 6 by kernel_rfl).symm.trans hf) |>.symm
      obtain rfl : fn = Tryd.f6 := (Option.some.inj (Tryd.func6.symm.trans hfn)).symm
      exact ⟨by kernel_rfl, fun j t ht => by
        rw [Tryd.params6] at ht
        have hm : t ∈ [9] := by simpa using Array.mem_of_getElem? ht
        have hall : ([9].all fun u => !Tryd.prog.wantsStandIn u) = true := by kernel_rfl
        exact (show Tryd.prog.wantsStandIn t = false by simpa using List.all_eq_true.1 hall t hm)⟩)
    (by kernel_rfl)
#print axioms proved
end fnExactReadPhasesDone
end Go.Proofs.YtimfpnmcdicldaaDoor
