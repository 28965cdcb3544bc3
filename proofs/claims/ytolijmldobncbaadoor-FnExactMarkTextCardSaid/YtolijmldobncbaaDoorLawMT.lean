/- The program's MarkText answers as the reference's, for all arguments, where the listed tables of Go's library hold what its text lays (the card ties them). -/
import Derived.Test.YtolijmldobncbaaDoorMarkT
namespace Go.Proofs.YtolijmldobncbaaDoor
open Go Go.RowKit
set_option maxHeartbeats 2000000 in
theorem fnExactMarkText_walk {w : World} (k : Int) (_wk : (Lit.int .i64 k).wf = true) (c : ByteArray) (h1 : c.size ≤ maxLen) (sh : ByteArray) (h2 : sh.size ≤ maxLen) (t : ByteArray) (h3 : t.size ≤ maxLen) (hT : Spaces w) :
    Calls Tryd.prog 7 #[.agg #[.int .i64 k, .string c, .string sh, .string t]] w fun e w' => e = .returned (.bool true) ∧ Below w.heap.size w w' := by
  clear _wk
  go_enter Tryd.func7, Tryd.ntmps7
  go_wp2_with fail
  generalize hW : w.alloc (.cells #[.int .i64 k, .string c, .string sh, .string t] 28) = W at *
  have hbW : Below w.heap.size w W := hW ▸ (by repeat (first | exact Below.refl _ _ | refine Below.alloc ?_ (by simp; try omega) _ | refine Below.drew ?_))
  have hTW := hT.below hbW
  have k0 : ∀ y : Aft W, y.w1.cell? ⟨w.heap.size, 0, none⟩ = some (.int .i64 k) := by subst hW; exact fun y => y.new rfl
  have k1 : ∀ y : Aft W, y.w1.cell? ⟨w.heap.size, 1, none⟩ = some (.string c) := by subst hW; exact fun y => y.new rfl
  have k2 : ∀ y : Aft W, y.w1.cell? ⟨w.heap.size, 2, none⟩ = some (.string sh) := by subst hW; exact fun y => y.new rfl
  have k3 : ∀ y : Aft W, y.w1.cell? ⟨w.heap.size, 3, none⟩ = some (.string t) := by subst hW; exact fun y => y.new rfl
  clear hW hT
  refine (szMark2_c k c sh t _ h1 h2 h3 (by omega) (by omega) _).mono ?_
  rintro e w1 ⟨rfl | ⟨r, r0, r1, rfl⟩, b1⟩
  · go_wp2
    go_ret
    exact ⟨rfl, held_next hbW b1⟩
  · obtain ⟨x1, rfl⟩ : ∃ x : Aft W, w1 = x.w1 := ⟨⟨w1, b1⟩, rfl⟩
    have HI := Lib.hid (fun W hW => implMarkText_c k c sh t (by omega) (by omega) (by omega) W hW)
    have HP := Lib.hid (fun W => specMarkText_c k c sh t (by omega) (by omega) (by omega) W)
    generalize markTextS k c sh t = v at *
    clear h1 h2 h3 r1
    go_wp2_with (first
      | (go_at_call 17; refine (Aft.call (toMark_c k c sh t _)).mono ?_; rintro e _ ⟨rfl, y, rfl⟩)
      | (go_at_call 26; refine (Aft.call (HP.out _)).mono ?_; rintro e _ ⟨rfl, y, rfl⟩)
      | (go_at_call 27; refine (Aft.call (HI.out _ (hTW.below (Aft.below _)))).mono ?_; rintro e _ ⟨rfl, y, rfl⟩))
    go_ret
    exact ⟨rfl, held_next hbW (Aft.below _)⟩
namespace fnExactMarkTextDone
open Go.ChangeShapes Go.WideShapes Go.ChangeAt Go.RowKit Go.Joins
open Go.ChangeMaps (open_string shut_string)
theorem arr4 {cs : Array Value} (h : cs.size = 4) : ∃ c0 c1 c2 c3, cs = #[c0, c1, c2, c3] := by
  obtain ⟨l⟩ := cs
  match l, h with
  | [c0, c1, c2, c3], _ => exact ⟨c0, c1, c2, c3, rfl⟩
set_option maxRecDepth 100000 in
theorem lifted (os : Os) (started : os.Started) (H : Type) (enc : TypeId × Value → H) :
    ReturnsInHanded {} Tryd.checked os 7 .any (fun w args => (Rows.fnExactMarkTextSpec.pre enc Tryd.prog Tryd.f7 Rows.fnExactMarkTextRow.domain false w args ∧ laidMetH Tryd.prog Rows.fnExactMarkTextRow.laid w) ∧ sizedMet enc Tryd.prog Tryd.f7 (OpenSpec.ofChange Rows.fnExactMarkTextSpec) false w args)
      (Rows.fnExactMarkTextSpec.post enc Tryd.prog Tryd.f7 false true false false) := by
  refine returnsInHanded_of_change_and (C := Tryd.checked) (X := fun w _ => laidMetH Tryd.prog Rows.fnExactMarkTextRow.laid w) (fun _ _ _ hh h => h.of_heap hh) lawOwn started (by kernel_rfl) Tryd.func7
    (ChangeSpec.witness_shaped (enc := enc) (C := Tryd.checked) (os := os) (X := fun w _ => laidMetH Tryd.prog Rows.fnExactMarkTextRow.laid w) false (World.laidAll Tryd.prog os Rows.fnExactMarkTextRow.laid) #[.agg #[.int .i64 0, .string ByteArray.empty, .string ByteArray.empty, .string ByteArray.empty]] 8 (World.laidAll_os _ _ _)
      (World.shaped_of_ZipB (by kernel_rfl) (by kernel_rfl)) (by kernel_rfl) (by kernel_rfl) (by kernel_rfl)
      (by rw [MakeChecks.laidMetH_plain _ _ _ (by kernel_rfl)]; exact laidMet_laidAll _ (by kernel_rfl) (by kernel_rfl))) ?_
  intro W base args ds gs before hval0 hW _ _ hL _
  have hval : ∀ (j : Nat) t v, Tryd.f7.params[j]? = some t → args[j]? = some v → Value.okWide Tryd.prog W .any base t v := hval0
  have hW' := hW
  obtain ⟨p, q, hA0, hV, rfl, hfz, hnd⟩ := hW
  have hA : DataW.TrodAll enc Tryd.prog W 0 (fun _ => true) true Tryd.f7.params.toList args.toList ds p := hA0
  rw [Tryd.params7] at hA hval
  obtain ⟨v0, vs0, d0, ds0, p0, q0, hargs, rfl, rfl, h0, r0⟩ := trodAll_cons hA
  obtain ⟨rfl, rfl, rfl⟩ := trodAll_nil r0
  obtain rfl : args = #[v0] := by cases args; simp_all
  obtain ⟨rfl, rfl⟩ := trodVars_none hV
  have k0 := h0
  have lt0 : ∀ x ∈ p0, x.block < W.heap.size := by obtain ⟨m, hm⟩ := k0; exact DataW.trod_lt m _ _ _ hm
  suffices hwalk : Calls Tryd.prog 7 #[v0] W fun e w' => e = .returned (.bool true) ∧ Below W.heap.size W w' by
    refine hwalk.mono fun e W' ⟨he, bel⟩ => ?_
    subst he
    exact ⟨_, rfl, _, _, _, [], _, [], hW', trodAll_mk1 (shut_bool Tryd.underlying4 _), (trodAll_cons_mk (Below.trod lawLaid (by kernel_rfl) (of_decide_eq_true (by kernel_rfl)) k0 bel lt0) trodAll_mk0), rfl, bel.frame _, fun h => by cases h⟩
  clear hA0 hval0
  obtain ⟨cs0, rfl, hz0⟩ := okWide_struct Tryd.underlying28 (hval 0 28 v0 rfl rfl)
  have hq0 := agg_leaves (ks := [0, 1, 1, 1]) 6 (by kernel_rfl) (by kernel_rfl) h0
  obtain ⟨c0_0, c0_1, c0_2, c0_3, rfl⟩ := arr4 (hz0.trans (by kernel_rfl))
  obtain ⟨u0_0, e0_0, l0_0⟩ := hq0 0 _ rfl
  obtain rfl : c0_0 = u0_0 := Option.some.inj e0_0
  obtain ⟨a0_0, rfl, w0_0⟩ := l0_0.1.1 rfl
  obtain ⟨u0_1, e0_1, l0_1⟩ := hq0 1 _ rfl
  obtain rfl : c0_1 = u0_1 := Option.some.inj e0_1
  obtain ⟨a0_1, rfl, w0_1⟩ := l0_1.1.2 rfl
  obtain ⟨u0_2, e0_2, l0_2⟩ := hq0 2 _ rfl
  obtain rfl : c0_2 = u0_2 := Option.some.inj e0_2
  obtain ⟨a0_2, rfl, w0_2⟩ := l0_2.1.2 rfl
  obtain ⟨u0_3, e0_3, l0_3⟩ := hq0 3 _ rfl
  obtain rfl : c0_3 = u0_3 := Option.some.inj e0_3
  obtain ⟨a0_3, rfl, w0_3⟩ := l0_3.1.2 rfl
  rw [MakeChecks.laidMetH_plain _ _ _ (by kernel_rfl)] at hL
  have hTab := asciiTab_of (Lib.laidMet.reads hL (.tail _ (.head _)))
  exact fnExactMarkText_walk (w := W) a0_0 w0_0 a0_1 w0_1 a0_2 w0_2 a0_3 w0_3 hTab

theorem over : Rows.fnExactMarkTextRow.holds Tryd.pinned (OpenSpec.ofChange Rows.fnExactMarkTextSpec) :=
  OpenClaim.holds_of_wide 7 Tryd.f7 rfl rfl rfl rfl rfl rfl rfl ⟨rfl, rfl, rfl, rfl, rfl⟩ rfl rfl rfl rfl rfl (by kernel_rfl) Tryd.func7 (by kernel_rfl)
    (of_decide_eq_true (by kernel_rfl)) (by unfold Func.isWrapper; first | (rw [if_pos (by decide +kernel)]; kernel_rfl) | (rw [if_neg (by decide +kernel)]; exact ⟨rfl, rfl⟩))
    (fun os started H enc _ => lifted os started H enc)

theorem proved : Rows.FnExactMarkTextCardSaid :=
  Claim7.holds_tied_plain_at .later [] [.listed, .data] true (true, "a6357595bf9999fd0109d346879aa51bdc7c32d128cba37b7695526da005853e") false over (fun _ h => by cases h) (by kernel_rfl) (fun _ h => by cases h) fnExactMarkText_row_tie rfl ⟨rfl, rfl⟩ (by kernel_rfl) rfl
    (fun f fn hf hfn => by
      obtain rfl : f = 7 := Option.some.inj ((show Tryd.prog.funcNamed "loop.example/g00953/laws.FnExactMarkText" = some 7 by kernel_rfl).symm.trans hf) |>.symm
      obtain rfl : fn = Tryd.f7 := (Option.some.inj (Tryd.func7.symm.trans hfn)).symm
      exact ⟨by kernel_rfl, fun j t ht => by
        rw [Tryd.params7] at ht
        have hm : t ∈ [28] := by simpa using Array.mem_of_getElem? ht
        have hall : ([28].all fun u => !Tryd.prog.wantsStandIn u) = true := by kernel_rfl
        exact (show Tryd.prog.wantsStandIn t = false by simpa using List.all_eq_true.1 hall t hm)⟩)
    (by kernel_rfl)
#print axioms proved
end fnExactMarkTextDone
end Go.Proofs.YtolijmldobncbaaDoor
