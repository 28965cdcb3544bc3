/- The program's SameSectors answers as the reference's, for all arguments. -/
import Derived.Test.YtfmljppofkocmaaStSector
namespace Go.Proofs.Ytfmljppofkocmaa
open Go Go.RowKit
set_option maxHeartbeats 1000000 in
theorem implSameSectors_c (A B : Option Addr) (n n' ca cb : Nat) (f0 f1 : Nat → Int) (f2 : Nat → ByteArray) (f0' f1' : Nat → Int) (f2' : Nat → ByteArray) (w : World) (hn : n ≤ 1048576) (hn' : n' ≤ 1048576) (hA : Rec 3 w A n (vSector f0 f1 f2)) (hB : Rec 3 w B n' (vSector f0' f1' f2')) :
    Calls Try.prog 24 #[.slice A n ca, .slice B n' cb] w fun e w' => e = .returned (.bool (sameSector n n' f0 f1 f2 f0' f1' f2')) ∧ Below w.heap.size w w' := by
  have H := Lib.hid (implSameSector_c A B n n' ca cb f0 f1 f2 f0' f1' f2' w hn hn' hA hB)
  clear hA hB
  go_enter Try.func24, Try.ntmps24
  go_wp2_with fail
  refine H.out.mono ?_
  rintro e w1 ⟨rfl, hb1⟩
  go_wp2
  go_ret
  exact ⟨rfl, hb1⟩
set_option maxHeartbeats 4000000 in
theorem fnExactSameSectors_walk {w : World} (A : Option Addr) (nA capA : Nat) (hnA : nA ≤ maxLen) (hrA : Rows0 [0, 0, 1] w A nA) (B : Option Addr) (nB capB : Nat) (hnB : nB ≤ maxLen) (hrB : Rows0 [0, 0, 1] w B nB) :
    Calls Try.prog 6 #[.slice A nA capA, .slice B nB capB] w fun e w' => e = .returned (.bool true) ∧ Below w.heap.size w w' := by
  obtain ⟨A0, A1, A2, hA, hwA⟩ := rowsSector hrA
  clear hrA
  obtain ⟨B0, B1, B2, hB, hwB⟩ := rowsSector hrB
  clear hrB
  have HP := Lib.hid (fun A B ca cb W hn hn' hA hB => specSameSector_c A B nA nB ca cb A0 A1 A2 B0 B1 B2 W hn hn' hA hB)
  have HI := Lib.hid (fun A B ca cb W hn hn' hA hB => implSameSectors_c A B nA nB ca cb A0 A1 A2 B0 B1 B2 W hn hn' hA hB)
  generalize sameSector nA nB A0 A1 A2 B0 B1 B2 = v at HP HI
  have hb := Below.refl w.heap.size w
  go_enter Try.func6, Try.ntmps6
  go_wp2_with fail
  refine (szSectorS_c A nA _ A0 A1 A2 _ hnA (fun i hi => (hwA i hi).2.2) (by omega) (by omega) _ hA).mono ?_
  rintro e w1 ⟨rfl | ⟨r, r0, r1, rfl⟩, b1⟩
  · have hb := held_next hb b1
    go_wp2
    go_ret
    exact ⟨rfl, hb⟩
  · skip
    have hb := held_next hb b1
    have nA2 : nA ≤ 1048576 := by omega
    have q0 := r0
    have q1 : r ≤ 1048576 := by omega
    clear r0 r1
    go_wp2_with fail
    refine (szSectorS_c B nB _ B0 B1 B2 _ hnB (fun i hi => (hwB i hi).2.2) q0 q1 _ (hB.below hb)).mono ?_
    rintro e w2 ⟨rfl | ⟨r, r0, r1, rfl⟩, b2⟩
    · have hb := held_next hb b2
      go_wp2
      go_ret
      exact ⟨rfl, hb⟩
    · skip
      have hb := held_next hb b2
      have nB2 : nB ≤ 1048576 := by omega
      clear q0 q1 r1
      go_wp2_with fail
      refine (toSectorS_c A nA _ A0 A1 A2 _ nA2 (hA.below hb)).mono ?_
      rintro e w3 ⟨g3, rfl, F⟩
      have b3 := F.bel
      have hb := held_next hb b3
      have ra := Lib.hid F.rec
      clear F
      go_wp2_with fail
      refine (toSectorS_c B nB _ B0 B1 B2 _ nB2 (hB.below hb)).mono ?_
      rintro e w4 ⟨g4, rfl, F⟩
      have b4 := F.bel
      have ra := Lib.hid (ra.out.below b4)
      have hb := held_next hb b4
      have rb := Lib.hid F.rec
      clear F
      go_wp2_with fail
      refine (HP.out _ _ _ _ _ nA2 nB2 ra.out rb.out).mono ?_
      rintro e w5 ⟨rfl, b5⟩
      have ra := Lib.hid (ra.out.below b5)
      have rb := Lib.hid (rb.out.below b5)
      have hb := held_next hb b5
      clear ra rb
      go_wp2_with fail
      refine (toSectorS_c A nA _ A0 A1 A2 _ nA2 (hA.below hb)).mono ?_
      rintro e w6 ⟨g6, rfl, F⟩
      have b6 := F.bel
      have hb := held_next hb b6
      have ra := Lib.hid F.rec
      clear F
      go_wp2_with fail
      refine (toSectorS_c B nB _ B0 B1 B2 _ nB2 (hB.below hb)).mono ?_
      rintro e w7 ⟨g7, rfl, F⟩
      have b7 := F.bel
      have ra := Lib.hid (ra.out.below b7)
      have hb := held_next hb b7
      have rb := Lib.hid F.rec
      clear F
      go_wp2_with fail
      refine (HI.out _ _ _ _ _ nA2 nB2 ra.out rb.out).mono ?_
      rintro e w8 ⟨rfl, b8⟩
      have ra := Lib.hid (ra.out.below b8)
      have rb := Lib.hid (rb.out.below b8)
      have hb := held_next hb b8
      go_wp2_with fail
      refine (toSectorS_c A nA _ A0 A1 A2 _ nA2 (hA.below hb)).mono ?_
      rintro e w9 ⟨g9, rfl, F⟩
      have b9 := F.bel
      have ra := Lib.hid (ra.out.below b9)
      have rb := Lib.hid (rb.out.below b9)
      have hb := held_next hb b9
      have rc := Lib.hid F.rec
      clear F
      go_wp2_with fail
      refine (eqSectorS_same _ _ nA _ _ A0 A1 A2 _ nA2 ra.out rc.out).mono ?_
      rintro e w10 ⟨rfl, b10⟩
      have ra := Lib.hid (ra.out.below b10)
      have rb := Lib.hid (rb.out.below b10)
      have rc := Lib.hid (rc.out.below b10)
      have hb := held_next hb b10
      clear rc
      go_wp2_with fail
      refine (toSectorS_c B nB _ B0 B1 B2 _ nB2 (hB.below hb)).mono ?_
      rintro e w11 ⟨g11, rfl, F⟩
      have b11 := F.bel
      have ra := Lib.hid (ra.out.below b11)
      have rb := Lib.hid (rb.out.below b11)
      have hb := held_next hb b11
      have rd := Lib.hid F.rec
      clear F
      go_wp2_with fail
      refine (eqSectorS_same _ _ nB _ _ B0 B1 B2 _ nB2 rb.out rd.out).mono ?_
      rintro e w12 ⟨rfl, b12⟩
      have ra := Lib.hid (ra.out.below b12)
      have rb := Lib.hid (rb.out.below b12)
      have rd := Lib.hid (rd.out.below b12)
      have hb := held_next hb b12
      go_wp2
      go_ret
      exact ⟨rfl, hb⟩
namespace fnExactSameSectorsDone
open Go.ChangeShapes Go.WideShapes Go.ChangeAt Go.RowKit Go.Joins
open Go.ChangeMaps (open_string shut_string)
set_option maxRecDepth 100000 in
theorem lifted (os : Os) (started : os.Started) (H : Type) (enc : TypeId × Value → H) :
    ReturnsInHanded {} Try.checked os 6 .any (Rows.fnExactSameSectorsSpec.pre6 enc Try.prog Try.f6 Rows.fnExactSameSectorsRow.domain false) (Rows.fnExactSameSectorsSpec.post enc Try.prog Try.f6 false true false false) := by
  refine returnsInHanded_of_change (C := Try.checked) lawOwn started (by kernel_rfl) Try.func6
    (ChangeSpec.witness6 (enc := enc) (C := Try.checked) false ⟨#[], #[.slice none 0 0, .slice none 0 0], []⟩ 8 (by kernel_rfl) (by kernel_rfl) (by kernel_rfl) (by kernel_rfl)) ?_
  intro W base args ds gs before hval0 hW hcnd _
  have hval : ∀ (j : Nat) t v, Try.f6.params[j]? = some t → args[j]? = some v → Value.okWide Try.prog W .any base t v := hval0
  have hW' := hW
  obtain ⟨p, q, hA0, hV, rfl, hfz, hnd⟩ := hW
  have hA : DataW.TrodAll enc Try.prog W 0 (fun _ => true) true Try.f6.params.toList args.toList ds p := hA0
  rw [Try.params6] at hA hval
  obtain ⟨v0, vs0, d0, ds0, p0, q0, hargs, rfl, rfl, h0, r0⟩ := trodAll_cons hA
  obtain ⟨v1, vs1, d1, ds1, p1, q1, rfl, rfl, rfl, h1, r1⟩ := trodAll_cons r0
  obtain ⟨rfl, rfl, rfl⟩ := trodAll_nil r1
  obtain rfl : args = #[v0, v1] := by cases args; simp_all
  obtain ⟨rfl, rfl⟩ := trodVars_none hV
  have k0 := h0
  have lt0 : ∀ x ∈ p0, x.block < W.heap.size := by obtain ⟨m, hm⟩ := k0; exact DataW.trod_lt m _ _ _ hm
  have k1 := h1
  have lt1 : ∀ x ∈ p1, x.block < W.heap.size := by obtain ⟨m, hm⟩ := k1; exact DataW.trod_lt m _ _ _ hm
  suffices hwalk : Calls Try.prog 6 #[v0, v1] W fun e w' => e = .returned (.bool true) ∧ Below W.heap.size W w' by
    refine hwalk.mono fun e W' ⟨he, bel⟩ => ?_
    subst he
    exact ⟨_, rfl, _, _, _, [], _, [], hW', trodAll_mk1 (shut_bool Try.underlying4 _), (trodAll_cons_mk (Below.trod lawLaid (by kernel_rfl) (of_decide_eq_true (by kernel_rfl)) k0 bel lt0) (trodAll_cons_mk (Below.trod lawLaid (by kernel_rfl) (of_decide_eq_true (by kernel_rfl)) k1 bel lt1) trodAll_mk0)), rfl, bel.frame _, fun h => by cases h⟩
  clear hA0 hval0
  obtain ⟨a0, len0, cap0, rfl, wl0, rw0⟩ := slice_leaves (ks := [0, 0, 1]) 6 Try.underlying27 (by kernel_rfl) (by kernel_rfl) (by decide) (okWide_slice Try.underlying27 (hval 0 27 v0 rfl rfl)) h0
  obtain ⟨a1, len1, cap1, rfl, wl1, rw1⟩ := slice_leaves (ks := [0, 0, 1]) 6 Try.underlying27 (by kernel_rfl) (by kernel_rfl) (by decide) (okWide_slice Try.underlying27 (hval 1 27 v1 rfl rfl)) h1
  exact fnExactSameSectors_walk (w := W) a0 len0 cap0 wl0 rw0.to0 a1 len1 cap1 wl1 rw1.to0

theorem over : Rows.fnExactSameSectorsRow.holds Try.pinned (OpenSpec.ofChange Rows.fnExactSameSectorsSpec) :=
  OpenClaim.holds_of_wide 6 Try.f6 rfl rfl rfl rfl rfl rfl rfl ⟨rfl, rfl, rfl, rfl, rfl⟩ rfl rfl rfl rfl rfl (by kernel_rfl) Try.func6 (by kernel_rfl)
    (of_decide_eq_true (by kernel_rfl)) (by unfold Func.isWrapper; first | (rw [if_pos (by decide +kernel)]; kernel_rfl) | (rw [if_neg (by decide +kernel)]; exact ⟨rfl, rfl⟩))
    (fun os started H enc _ => lifted os started H enc)

theorem proved : Rows.FnExactSameSectorsSaid := over
#print axioms proved
end fnExactSameSectorsDone
end Go.Proofs.Ytfmljppofkocmaa
