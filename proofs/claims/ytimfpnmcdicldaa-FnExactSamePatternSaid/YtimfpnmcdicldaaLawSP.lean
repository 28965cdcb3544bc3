/- The program's SamePattern answers as the reference's, for all arguments. -/
import Derived.Test.YtimfpnmcdicldaaPatH
namespace Go.Proofs.Ytimfpnmcdicldaa
open Go Go.RowKit Go.Shelf
theorem sp_same {lA lB : List UInt8} {ok ok' v v' : Bool} (hS : Hid (if ok = true ∧ ok' = true then ∃ l l', NfS lA l ∧ NfS lB l' ∧ v = decide (l = l') else v = false))
    (hI : Hid (if ok = true ∧ ok' = true then ∃ l l', NfI lA l ∧ NfI lB l' ∧ v' = decide (l = l') else v' = false)) : v' = v := by
  have h1 := hS.out
  have h2 := hI.out
  by_cases h : ok = true ∧ ok' = true
  · rw [if_pos h] at h1 h2
    obtain ⟨l, l', a1, a2, a3⟩ := h1
    obtain ⟨m, m', b1, b2, b3⟩ := h2
    have e1 := nf_same a1 b1
    have e2 := nf_same a2 b2
    subst e1 e2
    exact b3.trans a3.symm
  · rw [if_neg h] at h1 h2
    exact h2.trans h1.symm
set_option maxRecDepth 100000 in
set_option maxHeartbeats 8000000 in
theorem fnExactSamePattern_walk {w : World} (A : Option Addr) (n cap : Nat) (hl : n ≤ maxLen) (hrow : Rows0 [1, 0] w A n) (B : Option Addr) (n' cap' : Nat) (hl' : n' ≤ maxLen) (hrow' : Rows0 [1, 0] w B n') :
    Calls Try.prog 9 #[.slice A n cap, .slice B n' cap'] w fun e w' => e = .returned (.bool true) ∧ Below w.heap.size w w' := by
  obtain ⟨X, Y, hR, hXY⟩ := rowsPhase hrow
  obtain ⟨X', Y', hR', hXY'⟩ := rowsPhase hrow'
  clear hrow hrow'
  have HSz := Lib.hid (fun W hW => szPhaseS_c A n cap X Y 1048576 hl (fun i hi => (hXY i hi).1) (by omega) (by omega) W hW)
  have HSz' := Lib.hid (fun left l0 l1 W hW => szPhaseS_c B n' cap' X' Y' left hl' (fun i hi => (hXY' i hi).1) l0 l1 W hW)
  have HX := Lib.hid (fun i hi => (hXY i hi).1)
  have HX' := Lib.hid (fun i hi => (hXY' i hi).1)
  clear hXY hXY'
  go_enter Try.func9, Try.ntmps9
  go_wp2_with fail
  refine (HSz.out _ hR).mono ?_
  rintro e w1 ⟨rfl | ⟨r, q0, q1, rfl⟩, b1⟩
  · go_wp2
    go_ret
    exact ⟨rfl, b1⟩
  have hn : n ≤ 1048576 := by omega
  have hr1 : r ≤ 1048576 := by omega
  have q0' : ¬ r < 0 := by omega
  have hRb1 := hR'.below b1
  clear q1
  go_wp2_with fail
  refine (HSz'.out _ q0 hr1 _ hRb1).mono ?_
  rintro e w2 ⟨rfl | ⟨r2, p0, p1, rfl⟩, b2⟩
  · go_wp2
    go_ret
    exact ⟨rfl, held_next b1 b2⟩
  have hn' : n' ≤ 1048576 := by omega
  have hb2 := held_next b1 b2
  have HP := Lib.hid (fun A B cap cap' W hA hB => specSP_c A B n n' cap cap' X X' Y Y' W hn hn' hA hB)
  have HI := Lib.hid (fun A B cap cap' W hA hB => implSP_c A B n n' cap cap' X X' Y Y' W hn hn' HX.out HX'.out hA hB)
  generalize tensL X Y n = lA at *
  generalize okPhs n X Y = ok at *
  generalize tensL X' Y' n' = lB at *
  generalize okPhs n' X' Y' = ok' at *
  clear p1 hr1
  go_wp2_with fail
  refine (toPhaseS_c A n cap X Y _ hn (hR.below hb2)).mono ?_
  rintro e w3 ⟨g3, rfl, F3⟩
  have b3 := F3.bel
  have r3 := Lib.hid F3.rec
  have hb3 := held_next hb2 b3
  clear F3
  go_wp2_with fail
  refine (toPhaseS_c B n' cap' X' Y' _ hn' (hR'.below hb3)).mono ?_
  rintro e w4 ⟨g4, rfl, F4⟩
  have b4 := F4.bel
  have r4 := Lib.hid F4.rec
  replace r3 := Lib.hid (r3.out.below b4)
  have hb4 := held_next hb3 b4
  clear F4
  go_wp2_with fail
  refine (HP.out _ _ _ _ _ r3.out r4.out).mono ?_
  rintro e w5 ⟨v, rfl, b5, hS⟩
  have hb5 := held_next hb4 b5
  clear r3 r4
  go_wp2_with fail
  refine (toPhaseS_c A n cap X Y _ hn (hR.below hb5)).mono ?_
  rintro e w6 ⟨g6, rfl, F6⟩
  have b6 := F6.bel
  have r6 := Lib.hid F6.rec
  have hb6 := held_next hb5 b6
  clear F6
  go_wp2_with fail
  refine (toPhaseS_c B n' cap' X' Y' _ hn' (hR'.below hb6)).mono ?_
  rintro e w7 ⟨g7, rfl, F7⟩
  have b7 := F7.bel
  have r7 := Lib.hid F7.rec
  replace r6 := Lib.hid (r6.out.below b7)
  have hb7 := held_next hb6 b7
  clear F7
  go_wp2_with fail
  refine (HI.out _ _ _ _ _ r6.out r7.out).mono ?_
  rintro e w8 ⟨v', rfl, b8, hI⟩
  have hvv := sp_same hS hI
  subst hvv
  replace r6 := Lib.hid (r6.out.below b8)
  replace r7 := Lib.hid (r7.out.below b8)
  have hb8 := held_next hb7 b8
  clear hS hI
  go_wp2_with fail
  refine (toPhaseS_c A n cap X Y _ hn (hR.below hb8)).mono ?_
  rintro e w9 ⟨g9, rfl, F9⟩
  have b9 := F9.bel
  have r9 := Lib.hid F9.rec
  replace r6 := Lib.hid (r6.out.below b9)
  replace r7 := Lib.hid (r7.out.below b9)
  have hb9 := held_next hb8 b9
  clear F9
  go_wp2_with fail
  refine (eqPhaseS_same _ _ n _ _ X Y _ hn r6.out r9.out).mono ?_
  rintro e w10 ⟨rfl, b10⟩
  replace r7 := Lib.hid (r7.out.below b10)
  have hb10 := held_next hb9 b10
  clear r6 r9
  go_wp2_with fail
  refine (toPhaseS_c B n' cap' X' Y' _ hn' (hR'.below hb10)).mono ?_
  rintro e w11 ⟨g11, rfl, F11⟩
  have b11 := F11.bel
  have r11 := Lib.hid F11.rec
  replace r7 := Lib.hid (r7.out.below b11)
  have hb11 := held_next hb10 b11
  clear F11
  go_wp2_with fail
  refine (eqPhaseS_same _ _ n' _ _ X' Y' _ hn' r7.out r11.out).mono ?_
  rintro e w12 ⟨rfl, b12⟩
  go_wp2
  go_ret
  exact ⟨rfl, held_next hb11 b12⟩
namespace fnExactSamePatternDone
open Go.ChangeShapes Go.WideShapes Go.ChangeAt Go.RowKit Go.Joins
open Go.ChangeMaps (open_string shut_string)
set_option maxRecDepth 100000 in
theorem lifted (os : Os) (started : os.Started) (H : Type) (enc : TypeId × Value → H) :
    ReturnsInHanded {} Try.checked os 9 .any (Rows.fnExactSamePatternSpec.pre6 enc Try.prog Try.f9 Rows.fnExactSamePatternRow.domain false) (Rows.fnExactSamePatternSpec.post enc Try.prog Try.f9 false true false false) := by
  refine returnsInHanded_of_change (C := Try.checked) lawOwn started (by kernel_rfl) Try.func9
    (ChangeSpec.witness6 (enc := enc) (C := Try.checked) false ⟨#[], #[.slice none 0 0, .slice none 0 0], []⟩ 8 (by kernel_rfl) (by kernel_rfl) (by kernel_rfl) (by kernel_rfl)) ?_
  intro W base args ds gs before hval0 hW hcnd _
  have hval : ∀ (j : Nat) t v, Try.f9.params[j]? = some t → args[j]? = some v → Value.okWide Try.prog W .any base t v := hval0
  have hW' := hW
  obtain ⟨p, q, hA0, hV, rfl, hfz, hnd⟩ := hW
  have hA : DataW.TrodAll enc Try.prog W 0 (fun _ => true) true Try.f9.params.toList args.toList ds p := hA0
  rw [Try.params9] at hA hval
  obtain ⟨v0, vs0, d0, ds0, p0, q0, hargs, rfl, rfl, h0, r0⟩ := trodAll_cons hA
  obtain ⟨v1, vs1, d1, ds1, p1, q1, rfl, rfl, rfl, h1, r1⟩ := trodAll_cons r0
  obtain ⟨rfl, rfl, rfl⟩ := trodAll_nil r1
  obtain rfl : args = #[v0, v1] := by cases args; simp_all
  obtain ⟨rfl, rfl⟩ := trodVars_none hV
  have k0 := h0
  have lt0 : ∀ x ∈ p0, x.block < W.heap.size := by obtain ⟨m, hm⟩ := k0; exact DataW.trod_lt m _ _ _ hm
  have k1 := h1
  have lt1 : ∀ x ∈ p1, x.block < W.heap.size := by obtain ⟨m, hm⟩ := k1; exact DataW.trod_lt m _ _ _ hm
  suffices hwalk : Calls Try.prog 9 #[v0, v1] W fun e w' => e = .returned (.bool true) ∧ Below W.heap.size W w' by
    refine hwalk.mono fun e W' ⟨he, bel⟩ => ?_
    subst he
    exact ⟨_, rfl, _, _, _, [], _, [], hW', trodAll_mk1 (shut_bool Try.underlying4 _), (trodAll_cons_mk (Below.trod lawLaid (by kernel_rfl) (of_decide_eq_true (by kernel_rfl)) k0 bel lt0) (trodAll_cons_mk (Below.trod lawLaid (by kernel_rfl) (of_decide_eq_true (by kernel_rfl)) k1 bel lt1) trodAll_mk0)), rfl, bel.frame _, fun h => by cases h⟩
  clear hA0 hval0
  obtain ⟨a0, len0, cap0, rfl, wl0, rw0⟩ := slice_leaves (ks := [1, 0]) 6 Try.underlying54 (by kernel_rfl) (by kernel_rfl) (by decide) (okWide_slice Try.underlying54 (hval 0 54 v0 rfl rfl)) h0
  obtain ⟨a1, len1, cap1, rfl, wl1, rw1⟩ := slice_leaves (ks := [1, 0]) 6 Try.underlying54 (by kernel_rfl) (by kernel_rfl) (by decide) (okWide_slice Try.underlying54 (hval 1 54 v1 rfl rfl)) h1
  exact fnExactSamePattern_walk (w := W) a0 len0 cap0 wl0 rw0.to0 a1 len1 cap1 wl1 rw1.to0

theorem over : Rows.fnExactSamePatternRow.holds Try.pinned (OpenSpec.ofChange Rows.fnExactSamePatternSpec) :=
  OpenClaim.holds_of_wide 9 Try.f9 rfl rfl rfl rfl rfl rfl rfl ⟨rfl, rfl, rfl, rfl, rfl⟩ rfl rfl rfl rfl rfl (by kernel_rfl) Try.func9 (by kernel_rfl)
    (of_decide_eq_true (by kernel_rfl)) (by unfold Func.isWrapper; first | (rw [if_pos (by decide +kernel)]; kernel_rfl) | (rw [if_neg (by decide +kernel)]; exact ⟨rfl, rfl⟩))
    (fun os started H enc _ => lifted os started H enc)

theorem proved : Rows.FnExactSamePatternSaid := over
#print axioms proved
end fnExactSamePatternDone
end Go.Proofs.Ytimfpnmcdicldaa
