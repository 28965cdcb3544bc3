/- The program's SameAids answers as the reference's, for all arguments. -/
import Derived.Test.YtolijmldobncbaaAidF
namespace Go.Proofs.Ytolijmldobncbaa
open Go Go.RowKit
theorem oneAid {w : World} {b o : Nat} (hi : ∀ (j k : Nat), ([0, 1, 0, 0, 0, 0, 1, 1, 1, 0, 26 + 2, 1, 1, 0, 29 + 2, 0] : List Nat)[j]? = some k → ∃ u, w.cell? ⟨b, o + j, none⟩ = some u ∧ Leaf1 Try.prog w k u) :
    ∃ (d : AidD) (C : Array Value), w.rangeAt b o C.toList ∧ IsA d C w ∧ d.Ok := by
  obtain ⟨u0, c0, l0⟩ := hi 0 _ rfl
  obtain ⟨u1, c1, l1⟩ := hi 1 _ rfl
  obtain ⟨u2, c2, l2⟩ := hi 2 _ rfl
  obtain ⟨u3, c3, l3⟩ := hi 3 _ rfl
  obtain ⟨u4, c4, l4⟩ := hi 4 _ rfl
  obtain ⟨u5, c5, l5⟩ := hi 5 _ rfl
  obtain ⟨u6, c6, l6⟩ := hi 6 _ rfl
  obtain ⟨u7, c7, l7⟩ := hi 7 _ rfl
  obtain ⟨u8, c8, l8⟩ := hi 8 _ rfl
  obtain ⟨u9, c9, l9⟩ := hi 9 _ rfl
  obtain ⟨u10, c10, l10⟩ := hi 10 _ rfl
  obtain ⟨u11, c11, l11⟩ := hi 11 _ rfl
  obtain ⟨u12, c12, l12⟩ := hi 12 _ rfl
  obtain ⟨u13, c13, l13⟩ := hi 13 _ rfl
  obtain ⟨u14, c14, l14⟩ := hi 14 _ rfl
  obtain ⟨u15, c15, l15⟩ := hi 15 _ rfl
  have e0 := (Leaf0.int l0.1).1
  have e1 := (Leaf0.str l1.1).1
  have z1 := (Leaf0.str l1.1).2
  have e2 := (Leaf0.int l2.1).1
  have e3 := (Leaf0.int l3.1).1
  have e4 := (Leaf0.int l4.1).1
  have e5 := (Leaf0.int l5.1).1
  have e6 := (Leaf0.str l6.1).1
  have z6 := (Leaf0.str l6.1).2
  have e7 := (Leaf0.str l7.1).1
  have z7 := (Leaf0.str l7.1).2
  have e8 := (Leaf0.str l8.1).1
  have z8 := (Leaf0.str l8.1).2
  have e9 := (Leaf0.int l9.1).1
  have e11 := (Leaf0.str l11.1).1
  have z11 := (Leaf0.str l11.1).2
  have e12 := (Leaf0.str l12.1).1
  have z12 := (Leaf0.str l12.1).2
  have e13 := (Leaf0.int l13.1).1
  have e15 := (Leaf0.int l15.1).1
  obtain ⟨G, gn, gc, e10, hgn, hG⟩ := l10.2 26 rfl
  have hG := hG 2 [0] Try.underlying26 (by kernel_rfl) (by kernel_rfl) (by decide)
  obtain ⟨S, sn, sc, e14, hsn, hS⟩ := l14.2 29 rfl
  have hS := hS 66 [0, 0, 1] Try.underlying29 (by kernel_rfl) (by kernel_rfl) (by decide)
  obtain ⟨gf, hgf⟩ := rowsNum hG
  obtain ⟨s0, s1, s2, hsf, hsz⟩ := rowsSector hS
  clear hi l0 l1 l2 l3 l4 l5 l6 l7 l8 l9 l10 l11 l12 l13 l14 l15
  refine ⟨⟨(intOf u0), (strOf u1), (intOf u2), (intOf u3), (intOf u4), (intOf u5), (strOf u6), (strOf u7), (strOf u8), ⟨(intOf u9), gn, gf, (strOf u11), (strOf u12), (intOf u13)⟩, sn, s0, s1, s2, (intOf u15)⟩, _, ?_, ⟨G, gc, S, sc, rfl, hgf, hsf⟩, ⟨z1, z6, z7, z8, hgn, z11, z12, hsn, fun i hi => (hsz i hi).2.2⟩⟩
  intro j v hj
  have hj16 : j < 16 := (List.getElem?_eq_some_iff.1 hj).1
  have hcase : j = 0 ∨ j = 1 ∨ j = 2 ∨ j = 3 ∨ j = 4 ∨ j = 5 ∨ j = 6 ∨ j = 7 ∨ j = 8 ∨ j = 9 ∨ j = 10 ∨ j = 11 ∨ j = 12 ∨ j = 13 ∨ j = 14 ∨ j = 15 := by omega
  rcases hcase with rfl | rfl | rfl | rfl | rfl | rfl | rfl | rfl | rfl | rfl | rfl | rfl | rfl | rfl | rfl | rfl
  · cases hj; exact c0.trans (congrArg some e0)
  · cases hj; exact c1.trans (congrArg some e1)
  · cases hj; exact c2.trans (congrArg some e2)
  · cases hj; exact c3.trans (congrArg some e3)
  · cases hj; exact c4.trans (congrArg some e4)
  · cases hj; exact c5.trans (congrArg some e5)
  · cases hj; exact c6.trans (congrArg some e6)
  · cases hj; exact c7.trans (congrArg some e7)
  · cases hj; exact c8.trans (congrArg some e8)
  · cases hj; exact c9.trans (congrArg some e9)
  · cases hj; exact c10.trans (congrArg some e10)
  · cases hj; exact c11.trans (congrArg some e11)
  · cases hj; exact c12.trans (congrArg some e12)
  · cases hj; exact c13.trans (congrArg some e13)
  · cases hj; exact c14.trans (congrArg some e14)
  · cases hj; exact c15.trans (congrArg some e15)
theorem rowsAid {w : World} {A : Option Addr} {n : Nat} (h : Rows1 Try.prog [0, 1, 0, 0, 0, 0, 1, 1, 1, 0, 26 + 2, 1, 1, 0, 29 + 2, 0] w A n) : ∃ (D : Nat → AidD) (C : Nat → Array Value), RowA w A n D C ∧ ∀ i, i < n → (D i).Ok := by
  classical
  obtain ⟨b, o, hi⟩ := h
  have key : ∀ i, ∃ p : AidD × Array Value, i < n → w.rangeAt b (o + i * 16) p.2.toList ∧ IsA p.1 p.2 w ∧ p.1.Ok := by
    intro i
    by_cases hlt : i < n
    · obtain ⟨d, C, h1, h2, h3⟩ := oneAid (w := w) (b := b) (o := o + i * 16) (fun j k hj => by
        obtain ⟨u, hu, hl⟩ := (hi i hlt).2 j k hj
        refine ⟨u, ?_, hl⟩
        rw [← hu]
        simp [Nat.add_assoc])
      exact ⟨(d, C), fun _ => ⟨h1, h2, h3⟩⟩
    · exact ⟨(⟨0, ⟨#[]⟩, 0, 0, 0, 0, ⟨#[]⟩, ⟨#[]⟩, ⟨#[]⟩, ⟨0, 0, fun _ => 0, ⟨#[]⟩, ⟨#[]⟩, 0⟩, 0, fun _ => 0, fun _ => 0, fun _ => ⟨#[]⟩, 0⟩, #[]), fun h => absurd h hlt⟩
  refine ⟨fun i => (Classical.choose (key i)).1, fun i => (Classical.choose (key i)).2, ⟨b, o, fun i hin => ?_⟩, fun i hin => ((Classical.choose_spec (key i)) hin).2.2⟩
  have h := (Classical.choose_spec (key i)) hin
  exact ⟨(hi i hin).1, h.1, h.2.1⟩
set_option maxRecDepth 100000 in
set_option maxHeartbeats 8000000 in
theorem fnExactSameAids_walk {w : World} (A : Option Addr) (nA cA : Nat) (hnA : nA ≤ maxLen) (hrA : Rows1 Try.prog [0, 1, 0, 0, 0, 0, 1, 1, 1, 0, 26 + 2, 1, 1, 0, 29 + 2, 0] w A nA) (B : Option Addr) (nB cB : Nat) (hnB : nB ≤ maxLen) (hrB : Rows1 Try.prog [0, 1, 0, 0, 0, 0, 1, 1, 1, 0, 26 + 2, 1, 1, 0, 29 + 2, 0] w B nB) :
    Calls Try.prog 4 #[.slice A nA cA, .slice B nB cB] w fun e w' => e = .returned (.bool true) ∧ Below w.heap.size w w' := by
  obtain ⟨D, C, hA, okA⟩ := rowsAid hrA
  obtain ⟨D', C', hB, okB⟩ := rowsAid hrB
  clear hrA hrB
  have HSz := Lib.hid (fun W h => szAidS_c A nA cA D C 1048576 hnA okA (by omega) (by omega) W h)
  have HSz' := Lib.hid (fun left l0 l1 W h => szAidS_c B nB cB D' C' left hnB okB l0 l1 W h)
  have hA := Lib.hid hA
  have hB := Lib.hid hB
  clear okA okB
  go_enter Try.func4, Try.ntmps4
  go_wp2_with fail
  refine (HSz.out _ hA.out).mono ?_
  rintro e w1 ⟨rfl | ⟨r, r0, r1, fA, rfl⟩, hb⟩
  · go_wp2
    go_ret
    exact ⟨rfl, hb⟩
  have nA2 : nA ≤ 1048576 := by omega
  go_wp2_with fail
  refine (HSz'.out r r0 (by omega) _ (hB.out.below hb)).mono ?_
  rintro e w2 ⟨rfl | ⟨q, q0, q1, fB, rfl⟩, b2⟩
  · replace hb := held_next hb b2
    go_wp2
    go_ret
    exact ⟨rfl, hb⟩
  have nB2 : nB ≤ 1048576 := by omega
  replace hb := held_next hb b2
  have HP := Lib.hid (fun A B ca cb C C' W h h' => specSameAids_c A B nA nB ca cb D D' C C' W nA2 nB2 fA fB h h')
  have HI := Lib.hid (fun A B ca cb C C' W h h' => implSameAids_c A B nA nB ca cb D D' C C' W nA2 nB2 fA fB h h')
  generalize sameAids nA nB D D' = v at HP HI
  clear b2 HSz HSz' r1 q1
  go_wp2_with fail
  refine (toAidS_c A nA cA D C _ nA2 fA (hA.out.below hb)).mono ?_
  rintro e w3 ⟨g3, C3, rfl, R3, b3⟩
  replace hb := held_next hb b3
  clear b3
  have ra := Lib.hid R3
  clear R3
  go_wp2_with fail
  refine (toAidS_c B nB cB D' C' _ nB2 fB (hB.out.below hb)).mono ?_
  rintro e w4 ⟨g4, C4, rfl, R4, b4⟩
  replace ra := Lib.hid (ra.out.below b4)
  replace hb := held_next hb b4
  clear b4
  have rb := Lib.hid R4
  clear R4
  go_wp2_with fail
  refine (HP.out _ _ _ _ _ _ _ ra.out rb.out).mono ?_
  rintro e w5 ⟨rfl, b5⟩
  replace ra := Lib.hid (ra.out.below b5)
  replace rb := Lib.hid (rb.out.below b5)
  replace hb := held_next hb b5
  clear b5
  clear ra rb
  go_wp2_with fail
  refine (toAidS_c A nA cA D C _ nA2 fA (hA.out.below hb)).mono ?_
  rintro e w6 ⟨g6, C6, rfl, R6, b6⟩
  replace hb := held_next hb b6
  clear b6
  have ra := Lib.hid R6
  clear R6
  go_wp2_with fail
  refine (toAidS_c B nB cB D' C' _ nB2 fB (hB.out.below hb)).mono ?_
  rintro e w7 ⟨g7, C7, rfl, R7, b7⟩
  replace ra := Lib.hid (ra.out.below b7)
  replace hb := held_next hb b7
  clear b7
  have rb := Lib.hid R7
  clear R7
  go_wp2_with fail
  refine (HI.out _ _ _ _ _ _ _ ra.out rb.out).mono ?_
  rintro e w8 ⟨rfl, b8⟩
  replace ra := Lib.hid (ra.out.below b8)
  replace rb := Lib.hid (rb.out.below b8)
  replace hb := held_next hb b8
  clear b8
  go_wp2_with fail
  refine (toAidS_c A nA cA D C _ nA2 fA (hA.out.below hb)).mono ?_
  rintro e w9 ⟨g9, C9, rfl, R9, b9⟩
  replace ra := Lib.hid (ra.out.below b9)
  replace rb := Lib.hid (rb.out.below b9)
  replace hb := held_next hb b9
  clear b9
  have rc := Lib.hid R9
  clear R9
  go_wp2_with fail
  refine (eqAidS_same _ _ nA _ _ D _ _ _ nA2 fA ra.out rc.out).mono ?_
  rintro e w10 ⟨rfl, b10⟩
  replace ra := Lib.hid (ra.out.below b10)
  replace rb := Lib.hid (rb.out.below b10)
  replace rc := Lib.hid (rc.out.below b10)
  replace hb := held_next hb b10
  clear b10
  clear rc
  go_wp2_with fail
  refine (toAidS_c B nB cB D' C' _ nB2 fB (hB.out.below hb)).mono ?_
  rintro e w11 ⟨g11, C11, rfl, R11, b11⟩
  replace ra := Lib.hid (ra.out.below b11)
  replace rb := Lib.hid (rb.out.below b11)
  replace hb := held_next hb b11
  clear b11
  have rd := Lib.hid R11
  clear R11
  go_wp2_with fail
  refine (eqAidS_same _ _ nB _ _ D' _ _ _ nB2 fB rb.out rd.out).mono ?_
  rintro e w12 ⟨rfl, b12⟩
  replace ra := Lib.hid (ra.out.below b12)
  replace rb := Lib.hid (rb.out.below b12)
  replace rd := Lib.hid (rd.out.below b12)
  replace hb := held_next hb b12
  clear b12
  go_wp2
  go_ret
  exact ⟨rfl, hb⟩
namespace fnExactSameAidsDone
open Go.ChangeShapes Go.WideShapes Go.ChangeAt Go.RowKit Go.Joins
open Go.ChangeMaps (open_string shut_string)
set_option maxRecDepth 100000 in
theorem lifted (os : Os) (started : os.Started) (H : Type) (enc : TypeId × Value → H) :
    ReturnsInHanded {} Try.checked os 4 .any (Rows.fnExactSameAidsSpec.pre6 enc Try.prog Try.f4 Rows.fnExactSameAidsRow.domain false) (Rows.fnExactSameAidsSpec.post enc Try.prog Try.f4 false true false false) := by
  refine returnsInHanded_of_change (C := Try.checked) lawOwn started (by kernel_rfl) Try.func4
    (ChangeSpec.witness6 (enc := enc) (C := Try.checked) false ⟨#[], #[.slice none 0 0, .slice none 0 0], []⟩ 8 (by kernel_rfl) (by kernel_rfl) (by kernel_rfl) (by kernel_rfl)) ?_
  intro W base args ds gs before hval0 hW hcnd _
  have hval : ∀ (j : Nat) t v, Try.f4.params[j]? = some t → args[j]? = some v → Value.okWide Try.prog W .any base t v := hval0
  have hW' := hW
  obtain ⟨p, q, hA0, hV, rfl, hfz, hnd⟩ := hW
  have hA : DataW.TrodAll enc Try.prog W 0 (fun _ => true) true Try.f4.params.toList args.toList ds p := hA0
  rw [Try.params4] at hA hval
  obtain ⟨v0, vs0, d0, ds0, p0, q0, hargs, rfl, rfl, h0, r0⟩ := trodAll_cons hA
  obtain ⟨v1, vs1, d1, ds1, p1, q1, rfl, rfl, rfl, h1, r1⟩ := trodAll_cons r0
  obtain ⟨rfl, rfl, rfl⟩ := trodAll_nil r1
  obtain rfl : args = #[v0, v1] := by cases args; simp_all
  obtain ⟨rfl, rfl⟩ := trodVars_none hV
  have k0 := h0
  have lt0 : ∀ x ∈ p0, x.block < W.heap.size := by obtain ⟨m, hm⟩ := k0; exact DataW.trod_lt m _ _ _ hm
  have k1 := h1
  have lt1 : ∀ x ∈ p1, x.block < W.heap.size := by obtain ⟨m, hm⟩ := k1; exact DataW.trod_lt m _ _ _ hm
  suffices hwalk : Calls Try.prog 4 #[v0, v1] W fun e w' => e = .returned (.bool true) ∧ Below W.heap.size W w' by
    refine hwalk.mono fun e W' ⟨he, bel⟩ => ?_
    subst he
    exact ⟨_, rfl, _, _, _, [], _, [], hW', trodAll_mk1 (shut_bool Try.underlying4 _), (trodAll_cons_mk (Below.trod lawLaid (by kernel_rfl) (of_decide_eq_true (by kernel_rfl)) k0 bel lt0) (trodAll_cons_mk (Below.trod lawLaid (by kernel_rfl) (of_decide_eq_true (by kernel_rfl)) k1 bel lt1) trodAll_mk0)), rfl, bel.frame _, fun h => by cases h⟩
  clear hA0 hval0
  obtain ⟨a0, len0, cap0, rfl, wl0, rw0⟩ := slice_leaves (ks := [0, 1, 0, 0, 0, 0, 1, 1, 1, 0, 28, 1, 1, 0, 31, 0]) 6 Try.underlying42 (by kernel_rfl) (by kernel_rfl) (by decide) (okWide_slice Try.underlying42 (hval 0 42 v0 rfl rfl)) h0
  obtain ⟨a1, len1, cap1, rfl, wl1, rw1⟩ := slice_leaves (ks := [0, 1, 0, 0, 0, 0, 1, 1, 1, 0, 28, 1, 1, 0, 31, 0]) 6 Try.underlying42 (by kernel_rfl) (by kernel_rfl) (by decide) (okWide_slice Try.underlying42 (hval 1 42 v1 rfl rfl)) h1
  exact fnExactSameAids_walk (w := W) a0 len0 cap0 wl0 rw0 a1 len1 cap1 wl1 rw1

theorem over : Rows.fnExactSameAidsRow.holds Try.pinned (OpenSpec.ofChange Rows.fnExactSameAidsSpec) :=
  OpenClaim.holds_of_wide 4 Try.f4 rfl rfl rfl rfl rfl rfl rfl ⟨rfl, rfl, rfl, rfl, rfl⟩ rfl rfl rfl rfl rfl (by kernel_rfl) Try.func4 (by kernel_rfl)
    (of_decide_eq_true (by kernel_rfl)) (by unfold Func.isWrapper; first | (rw [if_pos (by decide +kernel)]; kernel_rfl) | (rw [if_neg (by decide +kernel)]; exact ⟨rfl, rfl⟩))
    (fun os started H enc _ => lifted os started H enc)

theorem proved : Rows.FnExactSameAidsSaid := over
#print axioms proved
end fnExactSameAidsDone
end Go.Proofs.Ytolijmldobncbaa
