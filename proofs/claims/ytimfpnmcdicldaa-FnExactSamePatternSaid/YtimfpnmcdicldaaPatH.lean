/- Patterns: SamePattern on both sides. -/
import Derived.Test.YtimfpnmcdicldaaPatG
namespace Go.Proofs.Ytimfpnmcdicldaa
open Go Go.RowKit Go.Shelf
theorem samePh_eq (P P' : List (UInt8 × Nat)) : samePhase P.length P'.length (fC P) (fL P) (fC P') (fL P') = decide (P = P') := by
  by_cases h : P = P'
  · subst h
    unfold samePhase
    rw [decide_eq_true rfl, decide_eq_true rfl, allB_yes (fun i _ => dPhase_self _ _)]
    rfl
  · rw [decide_eq_false h]
    cases hs : samePhase P.length P'.length (fC P) (fL P) (fC P') (fL P')
    · rfl
    · exfalso
      apply h
      unfold samePhase at hs
      rw [Bool.and_eq_true, decide_eq_true_eq] at hs
      apply List.ext_getElem hs.1
      intro i h1 h2
      have := allB_at hs.2 i h1
      unfold dPhase fC fL at this
      rw [lamp_beq, Bool.and_eq_true, decide_eq_true_eq, beq_iff_eq] at this
      have e1 := List.getElem?_eq_getElem h1
      have e2 := List.getElem?_eq_getElem h2
      simp only [List.getD_eq_getElem?_getD, e1, e2, Option.getD_some] at this
      exact Prod.ext this.1 (by omega)
theorem join_dec (l l' : List UInt8) : decide (joinJ l = joinJ l') = decide (l = l') := by
  by_cases h : l = l'
  · subst h; rw [decide_eq_true rfl, decide_eq_true rfl]
  · rw [decide_eq_false h, decide_eq_false (fun e => h (join_inj e))]
theorem lamps_dec (l l' : List UInt8) : decide (l.map lampB = l'.map lampB) = decide (l = l') := by
  by_cases h : l = l'
  · subst h; rw [decide_eq_true rfl, decide_eq_true rfl]
  · rw [decide_eq_false h, decide_eq_false]
    intro e
    apply h
    have hl : l.length = l'.length := by simpa using congrArg List.length e
    apply List.ext_getElem hl
    intro i h1 h2
    have := congrArg (fun x => x[i]?) e
    simp only [List.getElem?_map, List.getElem?_eq_getElem h1, List.getElem?_eq_getElem h2, Option.map_some, Option.some.injEq] at this
    exact lamp_inj this
/-- What SamePattern answers. -/
def SpPost (lA lB : List UInt8) (ok ok' : Bool) (R : List UInt8 → List UInt8 → Prop) (w : World) (e : Ending) (w' : World) : Prop :=
  ∃ v : Bool, e = .returned (.bool v) ∧ Below w.heap.size w w' ∧ Hid (if ok = true ∧ ok' = true then ∃ l l', R lA l ∧ R lB l' ∧ v = decide (l = l') else v = false)
set_option maxHeartbeats 8000000 in
theorem specSP_c (A B : Option Addr) (n n' cap cap' : Nat) (C C' : Nat → ByteArray) (L L' : Nat → Int) (w : World) (hn : n ≤ 1048576) (hn' : n' ≤ 1048576) (hA : Rec 2 w A n (vPhase C L)) (hB : Rec 2 w B n' (vPhase C' L')) :
    Calls Try.prog 39 #[.slice A n cap, .slice B n' cap'] w (SpPost (tensL C L n) (tensL C' L' n') (okPhs n C L) (okPhs n' C' L') NfS w) := by
  have HV := Lib.hid (l06Ok_c A n cap C L w hn hA)
  have HV' := Lib.hid (l06Ok_c B n' cap' C' L' w hn' hB)
  cases hv : okPhs n C L
  · rw [hv] at HV
    clear hv HV'
    go_enter Try.func39, Try.ntmps39
    go_wp2_with (go_at_call 68; refine HV.out.mono ?_; rintro e _ ⟨rfl, rfl⟩)
    go_ret
    exact ⟨false, rfl, Below.refl _ _, Lib.hid (by rw [if_neg (by simp)])⟩
  · rw [hv] at HV
    cases hv' : okPhs n' C' L'
    · rw [hv'] at HV'
      clear hv hv'
      go_enter Try.func39, Try.ntmps39
      go_wp2_with fail
      refine HV.out.mono ?_
      rintro e _ ⟨rfl, rfl⟩
      go_wp2_with fail
      refine HV'.out.mono ?_
      rintro e _ ⟨rfl, rfl⟩
      go_wp2
      go_ret
      exact ⟨false, rfl, Below.refl _ _, Lib.hid (by rw [if_neg (by simp)])⟩
    · rw [hv'] at HV'
      obtain ⟨h1, h2, h3, h4⟩ := okPhs_parts hv
      obtain ⟨k1, k2, k3, k4⟩ := okPhs_parts hv'
      have HN := Lib.hid (l06Normal_c A n cap C L w h1 h2 h3 h4 hA)
      have HN' := Lib.hid (fun W hW => l06Normal_c B n' cap' C' L' W k1 k2 k3 k4 hW)
      clear hv hv' h2 k2
      go_enter Try.func39, Try.ntmps39
      go_wp2_with fail
      refine HV.out.mono ?_
      rintro e _ ⟨rfl, rfl⟩
      go_wp2_with fail
      refine HV'.out.mono ?_
      rintro e _ ⟨rfl, rfl⟩
      go_wp2_with fail
      refine HN.out.mono ?_
      rintro e w1 ⟨v, q, b, rfl, hper, hle, hown, hb1⟩
      have hs := phV_so hown
      have HQ := Lib.hid (show NfS (tensL C L n) ((List.range q).map (rotF (fun i => (tensL C L n).getD i 0) q b)) from ⟨q, b, hper, hle, rfl⟩)
      have HP := Lib.hid (show JJ (rotF (fun i => (tensL C L n).getD i 0) q b) q = joinJ ((List.range q).map (rotF (fun i => (tensL C L n).getD i 0) q b)) from rfl)
      generalize JJ (rotF (fun i => (tensL C L n).getD i 0) q b) q = P at *
      generalize (List.range q).map (rotF (fun i => (tensL C L n).getD i 0) q b) = l at *
      obtain ⟨A1, c1, rfl⟩ := hs.form
      have hB1 := hB.below hb1
      have hPl : P.length ≤ 1048576 := by
        have := joinJ_len l
        have := nf_len HQ.out
        rw [HP.out]
        omega
      have HS := Lib.hid hs
      clear hs hown hper hle HN hA hB HV HV'
      go_wp2_with fail
      refine (HN'.out _ hB1).mono ?_
      rintro e w2 ⟨v, q', b', rfl, hper, hle, hown, hb2⟩
      have hs := phV_so hown
      have HQ' := Lib.hid (show NfS (tensL C' L' n') ((List.range q').map (rotF (fun i => (tensL C' L' n').getD i 0) q' b')) from ⟨q', b', hper, hle, rfl⟩)
      have HP' := Lib.hid (show JJ (rotF (fun i => (tensL C' L' n').getD i 0) q' b') q' = joinJ ((List.range q').map (rotF (fun i => (tensL C' L' n').getD i 0) q' b')) from rfl)
      generalize JJ (rotF (fun i => (tensL C' L' n').getD i 0) q' b') q' = P' at *
      generalize (List.range q').map (rotF (fun i => (tensL C' L' n').getD i 0) q' b') = l' at *
      obtain ⟨A2, c2, rfl⟩ := hs.form
      have hPl' : P'.length ≤ 1048576 := by
        have := joinJ_len l'
        have := nf_len HQ'.out
        rw [HP'.out]
        omega
      have HSm := Lib.hid (specSamePhase_c A1 A2 P.length P'.length c1 c2 (fC P) (fL P) (fC P') (fL P') w2 hPl hPl' (HS.out.below hb2).rec hs.rec)
      rw [samePh_eq] at HSm
      clear hs hown hper hle HN'
      go_wp2_with (go_at_call 76; refine HSm.out.mono ?_; rintro e w3 ⟨rfl, hb3⟩)
      go_ret
      exact ⟨_, rfl, held_next hb1 (held_next hb2 hb3), Lib.hid (by rw [if_pos ⟨rfl, rfl⟩]; exact ⟨l, l', HQ.out, HQ'.out, by rw [HP.out, HP'.out, join_dec]⟩)⟩
def lays193_ren : Go.Shelf.Ren := ⟨fun | 193 => 100 | n => n, fun | 31 => 103 | 9 => 9 | 4 => 4 | 3 => 3 | 0 => 0 | n => n, fun  | n => n⟩
theorem lays193 : Lays.n193 Try.prog lays193_ren where
  mixed := by kernel_rfl
  f193 := Try.func100.trans (congrArg some (by kernel_rfl))
  t0 := Try.underlying0
  a0 := Try.isAgg0
  z0 := Try.sizeOf0
  v0 := Try.zeroValue0
  t3 := Try.underlying3
  a3 := Try.isAgg3
  z3 := Try.sizeOf3
  v3 := Try.zeroValue3
  t4 := Try.underlying4
  a4 := Try.isAgg4
  z4 := Try.sizeOf4
  v4 := Try.zeroValue4
  t9 := Try.underlying9
  a9 := Try.isAgg9
  z9 := Try.sizeOf9
  v9 := Try.zeroValue9
  t31 := Try.underlying103
  a31 := Try.isAgg103
  z31 := Try.sizeOf103
  v31 := Try.zeroValue103
set_option maxHeartbeats 8000000 in
theorem samePattern_c (A B : Option Addr) (n n' cap cap' : Nat) (C C' : Nat → ByteArray) (L L' : Nat → Int) (w : World) (h : okPhs n C L = true) (h' : okPhs n' C' L' = true) (hA : Rec 2 w A n (vPhase C L)) (hB : Rec 2 w B n' (vPhase C' L')) :
    Calls Try.prog 77 #[.slice A n cap, .slice B n' cap'] w fun e w' => ∃ v : Bool, e = .returned (.bool v) ∧ Below w.heap.size w w' ∧ ∃ l l', NfI (tensL C L n) l ∧ NfI (tensL C' L' n') l' ∧ v = decide (l = l') := by
  obtain ⟨h1, h2, h3, h4⟩ := okPhs_parts h
  obtain ⟨k1, k2, k3, k4⟩ := okPhs_parts h'
  have HN := Lib.hid (normal_c A n cap C L w h1 h2 h3 h4 hA)
  have HN' := Lib.hid (fun W hW => normal_c B n' cap' C' L' W k1 k2 k3 k4 hW)
  clear h h' h2 k2
  go_enter Try.func77, Try.ntmps77
  go_wp2_with fail
  refine HN.out.mono ?_
  rintro e w1 ⟨g, q, c, b, rfl, hper, hqN, hle, hrow, hb1⟩
  have HQ := Lib.hid (show NfI (tensL C L n) ((List.range q).map (rotF (fun i => (tensL C L n).getD i 0) q b)) from ⟨q, b, hper, hle, rfl⟩)
  have HR := Lib.hid (fun (y : Aft w1) => hrow.below y.below)
  generalize rotF (fun i => (tensL C L n).getD i 0) q b = r at *
  have hB1 := hB.below hb1
  clear hper hle hrow HN hA hB
  go_wp2_with fail
  refine (HN'.out _ hB1).mono ?_
  rintro e w2 ⟨g', q', c', b', rfl, hper, hqN', hle, hrow', hb2⟩
  have HQ' := Lib.hid (show NfI (tensL C' L' n') ((List.range q').map (rotF (fun i => (tensL C' L' n').getD i 0) q' b')) from ⟨q', b', hper, hle, rfl⟩)
  generalize rotF (fun i => (tensL C' L' n').getD i 0) q' b' = r' at *
  have HE := Lib.hid (Any.slices_Equal_string lays193 g 0 q c g' 0 q' c' (((List.range q).map r).map lampB) (((List.range q').map r').map lampB) w2 (by simp) (by simp) (by omega) (by omega) (fun j hj => by
      have hj : j < q := by simpa using hj
      rw [Nat.zero_add, HR.out ⟨w2, hb2⟩ j hj]
      simp [hj]) (fun j hj => by
      have hj : j < q' := by simpa using hj
      rw [Nat.zero_add, hrow' j hj]
      simp [hj]))
  rw [List.take_of_length_le (by simp), List.take_of_length_le (by simp), lamps_dec] at HE
  clear hper hle hrow' HN'
  generalize (List.range q).map r = l at *
  generalize (List.range q').map r' = l' at *
  go_wp2_with fail
  refine HE.out.mono ?_
  rintro e w3 ⟨rfl, m, rfl⟩
  go_wp2
  go_ret
  exact ⟨_, rfl, held_next hb1 (held_next hb2 (below_drewN (Below.refl _ _) m)), l, l', HQ.out, HQ'.out, rfl⟩
set_option maxHeartbeats 8000000 in
theorem implSP_c (A B : Option Addr) (n n' cap cap' : Nat) (C C' : Nat → ByteArray) (L L' : Nat → Int) (w : World) (hn : n ≤ 1048576) (hn' : n' ≤ 1048576) (hz : ∀ i, i < n → (C i).size ≤ maxLen) (hz' : ∀ i, i < n' → (C' i).size ≤ maxLen) (hA : Rec 2 w A n (vPhase C L)) (hB : Rec 2 w B n' (vPhase C' L')) :
    Calls Try.prog 40 #[.slice A n cap, .slice B n' cap'] w (SpPost (tensL C L n) (tensL C' L' n') (okPhs n C L) (okPhs n' C' L') NfI w) := by
  have HV := Lib.hid (validPhases_c A n cap C L w hn hz hA)
  have HV' := Lib.hid (fun W hW => validPhases_c B n' cap' C' L' W hn' hz' hW)
  cases hv : okPhs n C L
  · rw [hv] at HV
    clear hv HV'
    go_enter Try.func40, Try.ntmps40
    go_wp2_with (go_at_call 71; refine HV.out.mono ?_; rintro e w1 ⟨rfl, hb1⟩)
    go_ret
    exact ⟨false, rfl, hb1, Lib.hid (by rw [if_neg (by simp)])⟩
  · rw [hv] at HV
    cases hv' : okPhs n' C' L'
    · rw [hv'] at HV'
      clear hv hv'
      go_enter Try.func40, Try.ntmps40
      go_wp2_with fail
      refine HV.out.mono ?_
      rintro e w1 ⟨rfl, hb1⟩
      have hB1 := hB.below hb1
      go_wp2_with fail
      refine (HV'.out _ hB1).mono ?_
      rintro e w2 ⟨rfl, hb2⟩
      go_wp2
      go_ret
      exact ⟨false, rfl, held_next hb1 hb2, Lib.hid (by rw [if_neg (by simp)])⟩
    · rw [hv'] at HV'
      have HS := Lib.hid (fun W hA hB => samePattern_c A B n n' cap cap' C C' L L' W hv hv' hA hB)
      clear hv hv'
      go_enter Try.func40, Try.ntmps40
      go_wp2_with fail
      refine HV.out.mono ?_
      rintro e w1 ⟨rfl, hb1⟩
      have hB1 := hB.below hb1
      have hA1 := hA.below hb1
      go_wp2_with fail
      refine (HV'.out _ hB1).mono ?_
      rintro e w2 ⟨rfl, hb2⟩
      have hB2 := hB1.below hb2
      have hA2 := hA1.below hb2
      go_wp2_with (go_at_call 77; refine (HS.out _ hA2 hB2).mono ?_; rintro e w3 ⟨v, rfl, hb3, hpost⟩)
      go_ret
      exact ⟨v, rfl, held_next hb1 (held_next hb2 hb3), Lib.hid (by rw [if_pos ⟨rfl, rfl⟩]; exact hpost)⟩
end Go.Proofs.Ytimfpnmcdicldaa
