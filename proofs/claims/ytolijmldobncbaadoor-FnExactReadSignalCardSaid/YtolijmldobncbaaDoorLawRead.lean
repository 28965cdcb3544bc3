/- The program's ReadSignal answers as the reference's, for all arguments, where the listed tables of Go's library hold what its text lays (the card ties them). -/
import Derived.Test.YtolijmldobncbaaDoorReadB2
namespace Go.Proofs.YtolijmldobncbaaDoor
open Go Go.RowKit Go.Shelf
theorem Filling.glt {e m : Nat} {w wr : World} {g n k : Nat} {f : Nat → Nat → Value} (h : Filling e m w wr g n k f) : g < wr.heap.size := by
  obtain ⟨xs, h1, _, _⟩ := h
  exact (h1.lt g rfl).2
theorem readAll_congr {n : Nat} {unit : Int} {X X' : Nat → ByteArray} {Y Y' : Nat → Int} (h : ∀ i, i < n → X i = X' i ∧ Y i = Y' i) : readAll n unit X Y = readAll n unit X' Y' := by
  have e1 : endC n X = endC n X' := by
    funext i
    unfold endC
    by_cases hi : i < n
    · rw [if_pos hi, if_pos hi, (h i hi).1]
    · rw [if_neg hi, if_neg hi]
  have e2 : endL n unit Y = endL n unit Y' := by
    funext i
    unfold endL
    by_cases hi : i < n
    · rw [if_pos hi, if_pos hi, (h i hi).2]
    · rw [if_neg hi, if_neg hi]
  unfold readAll readR
  rw [e1, e2]
set_option maxRecDepth 100000 in
set_option maxHeartbeats 8000000 in
theorem fnExactReadSignal_walk {w : World} (A : Option Addr) (n cap : Nat) (hl : n ≤ maxLen) (hrow : Rows0 [1, 0] w A n) (unit : Int) (_wu : (Lit.int .i64 unit).wf = true) (hM : MaxL w) :
    Calls Tryd.prog 10 #[.slice A n cap, .int .i64 unit] w fun e w' => e = .returned (.bool true) ∧ Below w.heap.size w w' := by
  obtain ⟨X, Y, hR, hXY⟩ := rowsPhase hrow
  clear _wu hrow
  have HSz := Lib.hid (fun W hW => szPhaseS_c A n cap X Y 1048576 hl (fun i hi => (hXY i hi).1) (by omega) (by omega) W hW)
  have HX := Lib.hid (fun i hi => (hXY i hi).1)
  have HY := Lib.hid (fun i hi => (hXY i hi).2)
  clear hXY
  go_enter Tryd.func10, Tryd.ntmps10
  go_wp2_with fail
  refine (HSz.out _ hR).mono ?_
  rintro e w2 ⟨rfl | ⟨r, q0, q1, rfl⟩, b2⟩
  · go_wp2
    go_ret
    exact ⟨rfl, b2⟩
  have hn : n ≤ 1048576 := by omega
  have hR2 := hR.below b2
  go_wp2_with fail
  refine (toPhaseS_c A n cap X Y _ hn hR2).mono ?_
  rintro e w3 ⟨g3, rfl, F3⟩
  have b3 := F3.bel
  have r3 := F3.rec
  go_wp2_with fail
  refine (specRead_c (some ⟨g3, 0, none⟩) n n X Y unit hn HX.out HY.out _ r3).mono ?_
  rintro e w4 ⟨rfl, b4⟩
  clear F3 r3
  have hb4 := held_next b2 (held_next b3 b4)
  go_wp2_with fail
  refine (toPhaseS_c A n cap X Y _ hn (hR.below hb4)).mono ?_
  rintro e w5 ⟨g5, rfl, F5⟩
  have b5 := F5.bel
  have r5 := Lib.hid F5.rec
  have k5 := F5.glt
  have hb5 := held_next hb4 b5
  clear F5
  go_wp2_with fail
  refine (implRead_c g5 n n X Y unit hn HX.out _ k5 r5.out (hM.below hb5)).mono ?_
  rintro e w6 ⟨rfl, b6⟩
  have r6 := Lib.hid (r5.out.below b6)
  have hb6 := held_next hb5 b6
  clear r5
  generalize readAll n unit X Y = RR at *
  obtain ⟨o, c⟩ := RR
  simp only
  go_wp2_with fail
  refine (toPhaseS_c A n cap X Y _ hn (hR.below hb6)).mono ?_
  rintro e w7 ⟨g7, rfl, F7⟩
  have b7 := F7.bel
  have r7 := Lib.hid (r6.out.below b7)
  have q7 := Lib.hid F7.rec
  have hb7 := held_next hb6 b7
  clear F7 r6
  go_wp2_with fail
  refine (eqPhaseS_same _ _ n _ _ X Y _ hn r7.out q7.out).mono ?_
  rintro e w8 ⟨rfl, b8⟩
  go_wp2
  go_ret
  exact ⟨rfl, held_next hb7 b8⟩
namespace fnExactReadSignalDone
open Go.ChangeShapes Go.WideShapes Go.ChangeAt Go.RowKit Go.Joins
open Go.ChangeMaps (open_string shut_string)
set_option maxRecDepth 100000 in
theorem lifted (os : Os) (started : os.Started) (H : Type) (enc : TypeId × Value → H) :
    ReturnsInHanded {} Tryd.checked os 10 .any (fun w args => (Rows.fnExactReadSignalSpec.pre enc Tryd.prog Tryd.f10 Rows.fnExactReadSignalRow.domain false w args ∧ laidMetH Tryd.prog Rows.fnExactReadSignalRow.laid w) ∧ sizedMet enc Tryd.prog Tryd.f10 (OpenSpec.ofChange Rows.fnExactReadSignalSpec) false w args)
      (Rows.fnExactReadSignalSpec.post enc Tryd.prog Tryd.f10 false true false false) := by
  refine returnsAndShaped (C := Tryd.checked) (X := fun w _ => laidMetH Tryd.prog Rows.fnExactReadSignalRow.laid w) (fun _ _ _ hh h => h.of_heap hh) lawOwn started (by kernel_rfl) Tryd.func10
    (ChangeSpec.witness_shaped (enc := enc) (C := Tryd.checked) (os := os) (X := fun w _ => laidMetH Tryd.prog Rows.fnExactReadSignalRow.laid w) false (World.laidAll Tryd.prog os Rows.fnExactReadSignalRow.laid) #[.slice none 0 0, .int .i64 0] 8 (World.laidAll_os _ _ _)
      (World.shaped_of_ZipB (by kernel_rfl) (by kernel_rfl)) (by kernel_rfl) (by kernel_rfl) (by kernel_rfl)
      (by rw [MakeChecks.laidMetH_plain _ _ _ (by kernel_rfl)]; exact laidMet_laidAll _ (by kernel_rfl) (by kernel_rfl))) ?_
  intro W base args ds gs before hval0 hW hsh hL
  have hval : ∀ (j : Nat) t v, Tryd.f10.params[j]? = some t → args[j]? = some v → Value.okWide Tryd.prog W .any base t v := hval0
  have hW' := hW
  obtain ⟨p, q, hA0, hV, rfl, hfz, hnd⟩ := hW
  have hA : DataW.TrodAll enc Tryd.prog W 0 (fun _ => true) true Tryd.f10.params.toList args.toList ds p := hA0
  rw [Tryd.params10] at hA hval
  obtain ⟨v0, vs0, d0, ds0, p0, q0, hargs, rfl, rfl, h0, r0⟩ := trodAll_cons hA
  obtain ⟨v1, vs1, d1, ds1, p1, q1, rfl, rfl, rfl, h1, r1⟩ := trodAll_cons r0
  obtain ⟨rfl, rfl, rfl⟩ := trodAll_nil r1
  obtain rfl : args = #[v0, v1] := by cases args; simp_all
  obtain ⟨rfl, rfl⟩ := trodVars_none hV
  have k0 := h0
  have lt0 : ∀ x ∈ p0, x.block < W.heap.size := by obtain ⟨m, hm⟩ := k0; exact DataW.trod_lt m _ _ _ hm
  have k1 := h1
  have lt1 : ∀ x ∈ p1, x.block < W.heap.size := by obtain ⟨m, hm⟩ := k1; exact DataW.trod_lt m _ _ _ hm
  suffices hwalk : Calls Tryd.prog 10 #[v0, v1] W fun e w' => e = .returned (.bool true) ∧ Below W.heap.size W w' by
    refine hwalk.mono fun e W' ⟨he, bel⟩ => ?_
    subst he
    exact ⟨_, rfl, _, _, _, [], _, [], hW', trodAll_mk1 (shut_bool Tryd.underlying4 _), (trodAll_cons_mk (Below.trod lawLaid (by kernel_rfl) (of_decide_eq_true (by kernel_rfl)) k0 bel lt0) (trodAll_cons_mk (Below.trod lawLaid (by kernel_rfl) (of_decide_eq_true (by kernel_rfl)) k1 bel lt1) trodAll_mk0)), rfl, bel.frame _, fun h => by cases h⟩
  clear hA0 hval0
  obtain ⟨a0, len0, cap0, rfl, wl0, rw0⟩ := slice_leaves (ks := [1, 0]) 6 Tryd.underlying48 (by kernel_rfl) (by kernel_rfl) (by decide) (okWide_slice Tryd.underlying48 (hval 0 48 v0 rfl rfl)) h0
  obtain ⟨a1, rfl, rfl, rfl, w1⟩ := open_int Tryd.underlying2 (hval 1 2 v1 rfl rfl) h1
  have hMax := maxL_of hsh
  exact fnExactReadSignal_walk (w := W) a0 len0 cap0 wl0 rw0.to0 a1 w1 hMax

theorem over : Rows.fnExactReadSignalRow.holds Tryd.pinned (OpenSpec.ofChange Rows.fnExactReadSignalSpec) :=
  OpenClaim.holds_of_wide 10 Tryd.f10 rfl rfl rfl rfl rfl rfl rfl ⟨rfl, rfl, rfl, rfl, rfl⟩ rfl rfl rfl rfl rfl (by kernel_rfl) Tryd.func10 (by kernel_rfl)
    (of_decide_eq_true (by kernel_rfl)) (by unfold Func.isWrapper; first | (rw [if_pos (by decide +kernel)]; kernel_rfl) | (rw [if_neg (by decide +kernel)]; exact ⟨rfl, rfl⟩))
    (fun os started H enc _ => lifted os started H enc)

theorem proved : Rows.FnExactReadSignalCardSaid :=
  Claim7.holds_tied_plain_at .later [] [.data, .pinned] true (true, "a6357595bf9999fd0109d346879aa51bdc7c32d128cba37b7695526da005853e") false over (fun _ h => by cases h) (by kernel_rfl) (fun _ h => by cases h) fnExactReadSignal_row_tie rfl ⟨rfl, rfl⟩ (by kernel_rfl) rfl
    (fun f fn hf hfn => by
      obtain rfl : f = 10 := Option.some.inj ((show Tryd.prog.funcNamed "loop.example/g00953/laws.FnExactReadSignal" = some 10 by kernel_rfl).symm.trans hf) |>.symm
      obtain rfl : fn = Tryd.f10 := (Option.some.inj (Tryd.func10.symm.trans hfn)).symm
      exact ⟨by kernel_rfl, fun j t ht => by
        rw [Tryd.params10] at ht
        have hm : t ∈ [48, 2] := by simpa using Array.mem_of_getElem? ht
        have hall : ([48, 2].all fun u => !Tryd.prog.wantsStandIn u) = true := by kernel_rfl
        exact (show Tryd.prog.wantsStandIn t = false by simpa using List.all_eq_true.1 hall t hm)⟩)
    (by kernel_rfl)
#print axioms proved
end fnExactReadSignalDone
end Go.Proofs.YtolijmldobncbaaDoor
