/- The program's KindsLike answers as the reference's, for all texts, and keeps nothing of what it hands out, where the listed tables of Go's library hold what its text lays (the card ties them). -/
import Derived.Test.YtolijmldobncbaaDoorKindsI
namespace Go.Proofs.YtolijmldobncbaaDoor
open Go Go.RowKit Go.Shelf
theorem vals_so {w : World} {base : Nat} {v : Value} {L : List Int} (h : w.ownsRow base 2 1 v L.length (vals L)) : ∃ A cap, v = .slice A L.length cap ∧ SO w base 2 1 (.slice A L.length cap) L.length (nuF (fun i => L.getD i 0)) := by
  have hs : SO w base 2 1 v L.length (nuF (fun i => L.getD i 0)) := by
    refine ⟨_, h, fun i hi j hj => ?_⟩
    obtain rfl : j = 0 := by omega
    simp [vals, nuF, List.getD_eq_getElem?_getD, hi]
  obtain ⟨A, cap, rfl⟩ := hs.form
  exact ⟨A, cap, rfl, hs⟩
set_option maxRecDepth 100000 in
set_option maxHeartbeats 8000000 in
theorem fnExactKindsLike_walk {w : World} (c : ByteArray) (hc : c.size ≤ maxLen) (sh : ByteArray) (hsh : sh.size ≤ maxLen) (t : ByteArray) (ht : t.size ≤ maxLen) (hT : Spaces w) :
    Calls Tryd.prog 5 #[.string c, .string sh, .string t] w fun e w' => e = .returned (.bool true) ∧ Below w.heap.size w w' := by
  unfold maxLen at hc hsh ht
  have hnn : (kindsTo c sh t 9).length ≤ 1048576 := by have := kindsTo_len c sh t 9; omega
  have HP : Hid (∀ W, Calls Tryd.prog 19 #[.string c, .string sh, .string t] W fun e w' => ∃ A cap, e = .returned (.slice A (kindsTo c sh t 9).length cap) ∧ SO w' W.heap.size 2 1 (.slice A (kindsTo c sh t 9).length cap) (kindsTo c sh t 9).length (nuF (fun i => (kindsTo c sh t 9).getD i 0)) ∧ Below W.heap.size W w') :=
    Lib.hid (fun W => (specKinds_c c sh t W).mono fun e w' ⟨v, he, ho, hb⟩ => by
      obtain ⟨A, cap, rfl, hs⟩ := vals_so ho
      exact ⟨A, cap, he, hs, hb⟩)
  have HI : Hid (∀ W, Spaces W → Calls Tryd.prog 20 #[.string c, .string sh, .string t] W fun e w' => ∃ A cap, e = .returned (.slice A (kindsTo c sh t 9).length cap) ∧ SO w' W.heap.size 2 1 (.slice A (kindsTo c sh t 9).length cap) (kindsTo c sh t 9).length (nuF (fun i => (kindsTo c sh t 9).getD i 0)) ∧ Below W.heap.size W w') :=
    Lib.hid (fun W hW => (implKinds_c c sh t W hW).mono fun e w' ⟨v, he, ho, hb⟩ => by
      obtain ⟨A, cap, rfl, hs⟩ := vals_so ho
      exact ⟨A, cap, he, hs, hb⟩)
  generalize kindsTo c sh t 9 = L at *
  have hL : (L.length : Int) ≤ 1048576 := by omega
  by_cases l1 : 1048576 < (c.size : Int)
  · go_enter Tryd.func5, Tryd.ntmps5
    go_wp2
    go_ret
    exact ⟨rfl, Below.refl _ _⟩
  by_cases l2 : 1048576 < (sh.size : Int)
  · go_enter Tryd.func5, Tryd.ntmps5
    go_wp2
    go_ret
    exact ⟨rfl, Below.refl _ _⟩
  by_cases l3 : 1048576 < (t.size : Int)
  · go_enter Tryd.func5, Tryd.ntmps5
    go_wp2
    go_ret
    exact ⟨rfl, Below.refl _ _⟩
  go_enter Tryd.func5, Tryd.ntmps5
  go_wp2_with fail
  refine (HP.out _).mono ?_
  rintro e w3 ⟨A3, c3, rfl, R3, b3⟩
  have HT3 := Lib.hid (hT.below b3)
  have R3 := Lib.hid R3.rec
  go_wp2_with fail
  refine (HI.out _ HT3.out).mono ?_
  rintro e w4 ⟨A4, c4, rfl, R4, b4⟩
  obtain ⟨y4, rfl⟩ : ∃ y : Aft w3, w4 = y.w1 := ⟨⟨w4, b4⟩, rfl⟩
  have R4 := Lib.hid R4
  have RW : Hid (∀ y : Aft w3, Rec 1 y.w1 _ _ _) := Lib.hid (fun y : Aft w3 => R3.out.aft y)
  go_wp2_with fail
  refine (eqInt64S_same _ _ L.length _ _ _ _ hnn R4.out.rec (RW.out y4)).mono ?_
  rintro e w5 ⟨rfl, b5⟩
  have R5 := Lib.hid (R4.out.below b5)
  obtain ⟨y5, rfl⟩ : ∃ y : Aft w3, w5 = y.w1 := ⟨⟨w5, held_next y4.below b5⟩, rfl⟩
  clear R4
  go_wp2_with fail
  refine (markInt64S_c _ L.length _ 1 _ _ _ hnn (by omega) (by omega) R5.out).mono ?_
  rintro e w6 ⟨rfl, b6, R6⟩
  obtain ⟨y6, rfl⟩ : ∃ y : Aft w3, w6 = y.w1 := ⟨⟨w6, grown_below y5.below b6 (fun k hk => (R5.out.lt k hk).1)⟩, rfl⟩
  have R6 := Lib.hid R6
  clear R5
  go_wp2_with fail
  refine (heldInt64S_c _ L.length _ 1 _ hnn (by omega) (by omega) R6.out.rec).mono ?_
  rintro e _ ⟨rfl, rfl⟩
  have HT6 := Lib.hid (HT3.out.below y6.below)
  go_wp2_with fail
  refine (HI.out _ HT6.out).mono ?_
  rintro e w8 ⟨A8, c8, rfl, R8, b8⟩
  have R8 := Lib.hid R8
  have R9 := Lib.hid (R6.out.below b8)
  obtain ⟨y8, rfl⟩ : ∃ y : Aft w3, w8 = y.w1 := ⟨⟨w8, held_next y6.below b8⟩, rfl⟩
  clear R6
  go_wp2_with fail
  refine (eqInt64S_same _ _ L.length _ _ _ _ hnn R8.out.rec (RW.out y8)).mono ?_
  rintro e w9 ⟨rfl, b9⟩
  have R10 := Lib.hid (R9.out.below b9)
  obtain ⟨y9, rfl⟩ : ∃ y : Aft w3, w9 = y.w1 := ⟨⟨w9, held_next y8.below b9⟩, rfl⟩
  clear R8 R9
  go_wp2_with fail
  refine (heldInt64S_c _ L.length _ 1 _ hnn (by omega) (by omega) R10.out.rec).mono ?_
  rintro e _ ⟨rfl, rfl⟩
  go_wp2
  go_ret
  exact ⟨rfl, held_next b3 y9.below⟩
namespace fnExactKindsLikeDone
open Go.ChangeShapes Go.WideShapes Go.ChangeAt Go.RowKit Go.Joins
open Go.ChangeMaps (open_string shut_string)
set_option maxRecDepth 100000 in
theorem lifted (os : Os) (started : os.Started) (H : Type) (enc : TypeId × Value → H) :
    ReturnsInHanded {} Tryd.checked os 5 .any (fun w args => (Rows.fnExactKindsLikeSpec.pre enc Tryd.prog Tryd.f5 Rows.fnExactKindsLikeRow.domain false w args ∧ laidMetH Tryd.prog Rows.fnExactKindsLikeRow.laid w) ∧ sizedMet enc Tryd.prog Tryd.f5 (OpenSpec.ofChange Rows.fnExactKindsLikeSpec) false w args)
      (Rows.fnExactKindsLikeSpec.post enc Tryd.prog Tryd.f5 false true false false) := by
  refine returnsInHanded_of_change_and (C := Tryd.checked) (X := fun w _ => laidMetH Tryd.prog Rows.fnExactKindsLikeRow.laid w) (fun _ _ _ hh h => h.of_heap hh) lawOwn started (by kernel_rfl) Tryd.func5
    (ChangeSpec.witness_shaped (enc := enc) (C := Tryd.checked) (os := os) (X := fun w _ => laidMetH Tryd.prog Rows.fnExactKindsLikeRow.laid w) false (World.laidAll Tryd.prog os Rows.fnExactKindsLikeRow.laid) #[.string ByteArray.empty, .string ByteArray.empty, .string ByteArray.empty] 8 (World.laidAll_os _ _ _)
      (World.shaped_of_ZipB (by kernel_rfl) (by kernel_rfl)) (by kernel_rfl) (by kernel_rfl) (by kernel_rfl)
      (by rw [MakeChecks.laidMetH_plain _ _ _ (by kernel_rfl)]; exact laidMet_laidAll _ (by kernel_rfl) (by kernel_rfl))) ?_
  intro W base args ds gs before hval0 hW _ _ hL _
  have hval : ∀ (j : Nat) t v, Tryd.f5.params[j]? = some t → args[j]? = some v → Value.okWide Tryd.prog W .any base t v := hval0
  have hW' := hW
  obtain ⟨p, q, hA0, hV, rfl, hfz, hnd⟩ := hW
  have hA : DataW.TrodAll enc Tryd.prog W 0 (fun _ => true) true Tryd.f5.params.toList args.toList ds p := hA0
  rw [Tryd.params5] at hA hval
  obtain ⟨v0, vs0, d0, ds0, p0, q0, hargs, rfl, rfl, h0, r0⟩ := trodAll_cons hA
  obtain ⟨v1, vs1, d1, ds1, p1, q1, rfl, rfl, rfl, h1, r1⟩ := trodAll_cons r0
  obtain ⟨v2, vs2, d2, ds2, p2, q2, rfl, rfl, rfl, h2, r2⟩ := trodAll_cons r1
  obtain ⟨rfl, rfl, rfl⟩ := trodAll_nil r2
  obtain rfl : args = #[v0, v1, v2] := by cases args; simp_all
  obtain ⟨rfl, rfl⟩ := trodVars_none hV
  have k0 := h0
  have lt0 : ∀ x ∈ p0, x.block < W.heap.size := by obtain ⟨m, hm⟩ := k0; exact DataW.trod_lt m _ _ _ hm
  have k1 := h1
  have lt1 : ∀ x ∈ p1, x.block < W.heap.size := by obtain ⟨m, hm⟩ := k1; exact DataW.trod_lt m _ _ _ hm
  have k2 := h2
  have lt2 : ∀ x ∈ p2, x.block < W.heap.size := by obtain ⟨m, hm⟩ := k2; exact DataW.trod_lt m _ _ _ hm
  suffices hwalk : Calls Tryd.prog 5 #[v0, v1, v2] W fun e w' => e = .returned (.bool true) ∧ Below W.heap.size W w' by
    refine hwalk.mono fun e W' ⟨he, bel⟩ => ?_
    subst he
    exact ⟨_, rfl, _, _, _, [], _, [], hW', trodAll_mk1 (shut_bool Tryd.underlying4 _), (trodAll_cons_mk (Below.trod lawLaid (by kernel_rfl) (of_decide_eq_true (by kernel_rfl)) k0 bel lt0) (trodAll_cons_mk (Below.trod lawLaid (by kernel_rfl) (of_decide_eq_true (by kernel_rfl)) k1 bel lt1) (trodAll_cons_mk (Below.trod lawLaid (by kernel_rfl) (of_decide_eq_true (by kernel_rfl)) k2 bel lt2) trodAll_mk0))), rfl, bel.frame _, fun h => by cases h⟩
  clear hA0 hval0
  obtain ⟨s0, rfl, rfl, rfl, w0⟩ := open_string Tryd.underlying9 (hval 0 9 v0 rfl rfl) h0
  obtain ⟨s1, rfl, rfl, rfl, w1⟩ := open_string Tryd.underlying9 (hval 1 9 v1 rfl rfl) h1
  obtain ⟨s2, rfl, rfl, rfl, w2⟩ := open_string Tryd.underlying9 (hval 2 9 v2 rfl rfl) h2
  rw [MakeChecks.laidMetH_plain _ _ _ (by kernel_rfl)] at hL
  have hTab := asciiTab_of (Lib.laidMet.reads hL (.tail _ (.head _)))
  exact fnExactKindsLike_walk (w := W) s0 w0 s1 w1 s2 w2 hTab

theorem over : Rows.fnExactKindsLikeRow.holds Tryd.pinned (OpenSpec.ofChange Rows.fnExactKindsLikeSpec) :=
  OpenClaim.holds_of_wide 5 Tryd.f5 rfl rfl rfl rfl rfl rfl rfl ⟨rfl, rfl, rfl, rfl, rfl⟩ rfl rfl rfl rfl rfl (by kernel_rfl) Tryd.func5 (by kernel_rfl)
    (of_decide_eq_true (by kernel_rfl)) (by unfold Func.isWrapper; first | (rw [if_pos (by decide +kernel)]; kernel_rfl) | (rw [if_neg (by decide +kernel)]; exact ⟨rfl, rfl⟩))
    (fun os started H enc _ => lifted os started H enc)

theorem proved : Rows.FnExactKindsLikeCardSaid :=
  Claim7.holds_tied_plain_at .later [] [.listed, .data] true (true, "a6357595bf9999fd0109d346879aa51bdc7c32d128cba37b7695526da005853e") false over (fun _ h => by cases h) (by kernel_rfl) (fun _ h => by cases h) fnExactKindsLike_row_tie rfl ⟨rfl, rfl⟩ (by kernel_rfl) rfl
    (fun f fn hf hfn => by
      obtain rfl : f = 5 := Option.some.inj ((show Tryd.prog.funcNamed "loop.example/g00953/laws.FnExactKindsLike" = some 5 by kernel_rfl).symm.trans hf) |>.symm
      obtain rfl : fn = Tryd.f5 := (Option.some.inj (Tryd.func5.symm.trans hfn)).symm
      exact ⟨by kernel_rfl, fun j t ht => by
        rw [Tryd.params5] at ht
        have hm : t ∈ [9, 9, 9] := by simpa using Array.mem_of_getElem? ht
        have hall : ([9, 9, 9].all fun u => !Tryd.prog.wantsStandIn u) = true := by kernel_rfl
        exact (show Tryd.prog.wantsStandIn t = false by simpa using List.all_eq_true.1 hall t hm)⟩)
    (by kernel_rfl)
#print axioms proved
end fnExactKindsLikeDone
end Go.Proofs.YtolijmldobncbaaDoor
