/- The program's NormalPattern answers as the reference's, for all arguments, and keeps nothing of what it hands out. -/
import Derived.Test.YtimfpnmcdicldaaPatG
namespace Go.Proofs.Ytimfpnmcdicldaa
open Go Go.RowKit Go.Shelf
theorem np_same {l0 : List UInt8} {ok : Bool} {P P' : List (UInt8 × Nat)} {code code' : Int} (hS : Hid (if ok = true then ∃ l, NfS l0 l ∧ P = joinJ l ∧ code = 0 else P = [] ∧ code = 1))
    (hI : Hid (if ok = true then ∃ l, NfI l0 l ∧ P' = joinJ l ∧ code' = 0 else P' = [] ∧ code' = 1)) : P' = P ∧ code' = code := by
  have h1 := hS.out
  have h2 := hI.out
  cases ok
  · rw [if_neg (by simp)] at h1 h2
    exact ⟨h2.1.trans h1.1.symm, h2.2.trans h1.2.symm⟩
  · rw [if_pos rfl] at h1 h2
    obtain ⟨l, a1, a2, a3⟩ := h1
    obtain ⟨l', b1, b2, b3⟩ := h2
    have := nf_same a1 b1
    subst this
    exact ⟨b2.trans a2.symm, b3.trans a3.symm⟩
theorem np_len {l0 : List UInt8} {ok : Bool} {P : List (UInt8 × Nat)} {code : Int} (h0 : ok = true → l0.length ≤ 600) (hS : Hid (if ok = true then ∃ l, NfS l0 l ∧ P = joinJ l ∧ code = 0 else P = [] ∧ code = 1)) : P.length ≤ 600 := by
  have h1 := hS.out
  cases ok
  · rw [if_neg (by simp)] at h1
    rw [h1.1]
    exact Nat.zero_le _
  · rw [if_pos rfl] at h1
    obtain ⟨l, a1, rfl, _⟩ := h1
    exact Nat.le_trans (joinJ_len l) (Nat.le_trans (nf_len a1) (h0 rfl))
set_option maxRecDepth 100000 in
set_option maxHeartbeats 8000000 in
theorem fnExactNormalPattern_walk {w : World} (A : Option Addr) (n cap : Nat) (hl : n ≤ maxLen) (hrow : Rows0 [1, 0] w A n) :
    Calls Try.prog 8 #[.slice A n cap] w fun e w' => e = .returned (.bool true) ∧ Below w.heap.size w w' := by
  obtain ⟨X, Y, hR, hXY⟩ := rowsPhase hrow
  clear hrow
  have HSz := Lib.hid (fun W hW => szPhaseS_c A n cap X Y 1048576 hl (fun i hi => (hXY i hi).1) (by omega) (by omega) W hW)
  have HX := Lib.hid (fun i hi => (hXY i hi).1)
  clear hXY
  go_enter Try.func8, Try.ntmps8
  go_wp2_with fail
  refine (HSz.out _ hR).mono ?_
  rintro e w1 ⟨rfl | ⟨r, q0, q1, rfl⟩, b1⟩
  · go_wp2
    go_ret
    exact ⟨rfl, b1⟩
  have hn : n ≤ 1048576 := by omega
  have HP := Lib.hid (fun A cap W hR => specNP_c A n cap X Y W hn hR)
  have HI := Lib.hid (fun A cap W hR => implNP_c A n cap X Y W hn HX.out hR)
  have HN : Hid (okPhs n X Y = true → (tensL X Y n).length ≤ 600) := Lib.hid (fun h => (okPhs_parts h).2.2.2)
  generalize tensL X Y n = l0 at *
  generalize okPhs n X Y = ok at *
  have hR1 := hR.below b1
  go_wp2_with fail
  refine (toPhaseS_c A n cap X Y _ hn hR1).mono ?_
  rintro e w2 ⟨g2, rfl, F2⟩
  have b2 := F2.bel
  have ra := F2.rec
  go_wp2_with fail
  refine (HP.out _ _ _ ra).mono ?_
  rintro e w3 ⟨P, B3, c3, code, rfl, S3, b3, hS⟩
  have hP6 := np_len HN.out hS
  have rw := Lib.hid S3
  have orw : Hid (∀ k, (.slice B3 P.length c3 : Value).ownBlock = some k → k < w3.heap.size) := Lib.hid (fun k hk => (rw.out.lt k hk).2)
  have hb3 := held_next b1 (held_next b2 b3)
  clear F2 ra S3
  go_wp2_with fail
  refine (toPhaseS_c A n cap X Y _ hn (hR.below hb3)).mono ?_
  rintro e w4 ⟨g4, rfl, F4⟩
  have b4 := F4.bel
  have rx := Lib.hid F4.so
  replace rw := Lib.hid (rw.out.below b4)
  have orx : Hid (∀ k, (.slice (some ⟨g4, 0, none⟩) n n : Value).ownBlock = some k → k < w4.heap.size) := Lib.hid (fun k hk => (rx.out.lt k hk).2)
  have hb4 := held_next hb3 b4
  clear F4
  go_wp2_with fail
  refine (HI.out _ _ _ rx.out.rec).mono ?_
  rintro e w5 ⟨P', B5, c5, code', rfl, S5, b5, hI⟩
  obtain ⟨hPP, hcc⟩ := np_same hS hI
  subst hPP hcc
  have rg := Lib.hid S5
  replace rw := Lib.hid (rw.out.below b5)
  replace rx := Lib.hid (rx.out.below b5)
  have hb5 := held_next hb4 b5
  clear S5 hI
  go_wp2_with fail
  refine (eqPhaseS_same _ _ P'.length _ _ (fC P') (fL P') _ (by omega) rg.out.rec rw.out.rec).mono ?_
  rintro e w6 ⟨rfl, b6⟩
  replace rw := Lib.hid (rw.out.below b6)
  replace rx := Lib.hid (rx.out.below b6)
  replace rg := Lib.hid (rg.out.below b6)
  have hb6 := held_next hb5 b6
  go_wp2_with fail
  refine (toPhaseS_c A n cap X Y _ hn (hR.below hb6)).mono ?_
  rintro e w7 ⟨g7, rfl, F7⟩
  have b7 := F7.bel
  have q7 := F7.rec
  replace rw := Lib.hid (rw.out.below b7)
  replace rx := Lib.hid (rx.out.below b7)
  replace rg := Lib.hid (rg.out.below b7)
  have hb7 := held_next hb6 b7
  clear F7
  go_wp2_with fail
  refine (eqPhaseS_same _ _ n _ _ X Y _ hn rx.out.rec q7).mono ?_
  rintro e w8 ⟨rfl, b8⟩
  replace rw := Lib.hid (rw.out.below b8)
  replace rx := Lib.hid (rx.out.below b8)
  replace rg := Lib.hid (rg.out.below b8)
  have hb8 := held_next hb7 b8
  clear q7
  go_wp2_with fail
  refine (markPhaseS_g _ n _ 1 _ _ _ hn (by omega) (by omega) rx.out).mono ?_
  rintro e w9 ⟨rfl, m9, S9⟩
  replace rw := Lib.hid (rw.out.far m9 (phRows_apart orw.out (fun k hk => (rx.out.lt k hk).1)))
  replace rg := Lib.hid (rg.out.far m9 (phRows_apart2 orx.out (fun k hk => (rg.out.lt k hk).1)))
  have hb9 : Below w.heap.size w w9 := grown_below hb8 m9 (fun k hk => Nat.le_trans hb3.size (rx.out.lt k hk).1)
  clear rx S9
  go_wp2_with fail
  refine (eqPhaseS_same _ _ P'.length _ _ (fC P') (fL P') _ (by omega) rg.out.rec rw.out.rec).mono ?_
  rintro e w10 ⟨rfl, b10⟩
  replace rw := Lib.hid (rw.out.below b10)
  replace rg := Lib.hid (rg.out.below b10)
  have hb10 := held_next hb9 b10
  go_wp2_with fail
  refine (markPhaseS_g _ P'.length _ 1 _ _ _ (by omega) (by omega) (by omega) rg.out).mono ?_
  rintro e w11 ⟨rfl, m11, S11⟩
  have h34 : w3.heap.size ≤ w4.heap.size := b4.size
  replace rw := Lib.hid (rw.out.far m11 (phRows_apart (fun k hk => Nat.lt_of_lt_of_le (orw.out k hk) h34) (fun k hk => (rg.out.lt k hk).1)))
  have hb11 : Below w.heap.size w w11 := grown_below hb10 m11 (fun k hk => Nat.le_trans hb4.size (rg.out.lt k hk).1)
  replace rg := Lib.hid S11
  clear S11
  go_wp2_with fail
  refine (heldPhaseS_c _ P'.length _ 1 _ (by omega) (by omega) (by omega) rg.out.rec).mono ?_
  rintro e w12 ⟨rfl, b12⟩
  replace rw := Lib.hid (rw.out.below b12)
  replace rg := Lib.hid (rg.out.below b12)
  have hb12 := held_next hb11 b12
  have hpos : ¬ (1 + 2 * (P'.length : Int) < 0) := by omega
  go_wp2_with fail
  refine (toPhaseS_c A n cap X Y _ hn (hR.below hb12)).mono ?_
  rintro e w13 ⟨g13, rfl, F13⟩
  have b13 := F13.bel
  have ry := F13.rec
  replace rw := Lib.hid (rw.out.below b13)
  replace rg := Lib.hid (rg.out.below b13)
  have hb13 := held_next hb12 b13
  clear F13
  go_wp2_with fail
  refine (HI.out _ _ _ ry).mono ?_
  rintro e w14 ⟨P2, B14, c14, code2, rfl, S14, b14, hI⟩
  obtain ⟨hPP, hcc⟩ := np_same hS hI
  subst hPP hcc
  have rh := Lib.hid S14
  replace rw := Lib.hid (rw.out.below b14)
  replace rg := Lib.hid (rg.out.below b14)
  have hb14 := held_next hb13 b14
  clear S14 hI ry
  go_wp2_with fail
  refine (eqPhaseS_same _ _ P2.length _ _ (fC P2) (fL P2) _ (by omega) rh.out.rec rw.out.rec).mono ?_
  rintro e w15 ⟨rfl, b15⟩
  replace rg := Lib.hid (rg.out.below b15)
  have hb15 := held_next hb14 b15
  go_wp2_with fail
  refine (heldPhaseS_c _ P2.length _ 1 _ (by omega) (by omega) (by omega) rg.out.rec).mono ?_
  rintro e w16 ⟨rfl, b16⟩
  go_wp2
  go_ret
  exact ⟨rfl, held_next hb15 b16⟩
namespace fnExactNormalPatternDone
open Go.ChangeShapes Go.WideShapes Go.ChangeAt Go.RowKit Go.Joins
open Go.ChangeMaps (open_string shut_string)
set_option maxRecDepth 100000 in
theorem lifted (os : Os) (started : os.Started) (H : Type) (enc : TypeId × Value → H) :
    ReturnsInHanded {} Try.checked os 8 .any (Rows.fnExactNormalPatternSpec.pre6 enc Try.prog Try.f8 Rows.fnExactNormalPatternRow.domain false) (Rows.fnExactNormalPatternSpec.post enc Try.prog Try.f8 false true false false) := by
  refine returnsInHanded_of_change (C := Try.checked) lawOwn started (by kernel_rfl) Try.func8
    (ChangeSpec.witness6 (enc := enc) (C := Try.checked) false ⟨#[], #[.slice none 0 0], []⟩ 8 (by kernel_rfl) (by kernel_rfl) (by kernel_rfl) (by kernel_rfl)) ?_
  intro W base args ds gs before hval0 hW hcnd _
  have hval : ∀ (j : Nat) t v, Try.f8.params[j]? = some t → args[j]? = some v → Value.okWide Try.prog W .any base t v := hval0
  have hW' := hW
  obtain ⟨p, q, hA0, hV, rfl, hfz, hnd⟩ := hW
  have hA : DataW.TrodAll enc Try.prog W 0 (fun _ => true) true Try.f8.params.toList args.toList ds p := hA0
  rw [Try.params8] at hA hval
  obtain ⟨v0, vs0, d0, ds0, p0, q0, hargs, rfl, rfl, h0, r0⟩ := trodAll_cons hA
  obtain ⟨rfl, rfl, rfl⟩ := trodAll_nil r0
  obtain rfl : args = #[v0] := by cases args; simp_all
  obtain ⟨rfl, rfl⟩ := trodVars_none hV
  have k0 := h0
  have lt0 : ∀ x ∈ p0, x.block < W.heap.size := by obtain ⟨m, hm⟩ := k0; exact DataW.trod_lt m _ _ _ hm
  suffices hwalk : Calls Try.prog 8 #[v0] W fun e w' => e = .returned (.bool true) ∧ Below W.heap.size W w' by
    refine hwalk.mono fun e W' ⟨he, bel⟩ => ?_
    subst he
    exact ⟨_, rfl, _, _, _, [], _, [], hW', trodAll_mk1 (shut_bool Try.underlying4 _), (trodAll_cons_mk (Below.trod lawLaid (by kernel_rfl) (of_decide_eq_true (by kernel_rfl)) k0 bel lt0) trodAll_mk0), rfl, bel.frame _, fun h => by cases h⟩
  clear hA0 hval0
  obtain ⟨a0, len0, cap0, rfl, wl0, rw0⟩ := slice_leaves (ks := [1, 0]) 6 Try.underlying54 (by kernel_rfl) (by kernel_rfl) (by decide) (okWide_slice Try.underlying54 (hval 0 54 v0 rfl rfl)) h0
  exact fnExactNormalPattern_walk (w := W) a0 len0 cap0 wl0 rw0.to0

theorem over : Rows.fnExactNormalPatternRow.holds Try.pinned (OpenSpec.ofChange Rows.fnExactNormalPatternSpec) :=
  OpenClaim.holds_of_wide 8 Try.f8 rfl rfl rfl rfl rfl rfl rfl ⟨rfl, rfl, rfl, rfl, rfl⟩ rfl rfl rfl rfl rfl (by kernel_rfl) Try.func8 (by kernel_rfl)
    (of_decide_eq_true (by kernel_rfl)) (by unfold Func.isWrapper; first | (rw [if_pos (by decide +kernel)]; kernel_rfl) | (rw [if_neg (by decide +kernel)]; exact ⟨rfl, rfl⟩))
    (fun os started H enc _ => lifted os started H enc)

theorem proved : Rows.FnExactNormalPatternSaid := over
#print axioms proved
end fnExactNormalPatternDone
end Go.Proofs.Ytimfpnmcdicldaa
