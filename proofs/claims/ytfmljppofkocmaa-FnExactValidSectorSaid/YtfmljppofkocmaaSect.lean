/- The program's ValidSector answers as the reference's, for all arguments. -/
import Derived.Test.YtfmljppofkocmaaColor
import Derived.Test.YtfmljppofkocmaaQuad
namespace Go.Proofs.Ytfmljppofkocmaa
open Go.RowKit
set_option linter.unusedVariables false
set_option maxHeartbeats 1000000 in
theorem l08EndsV_c (g : Nat) (f t : Int) (v : Bool) (hv : (inR f 0 359 && inR t 0 359) = v) (w : World) (c0 : w.cell? ⟨g, 0, none⟩ = some (.int .i64 f)) (c1 : w.cell? ⟨g, 1, none⟩ = some (.int .i64 t)) :
    Calls Try.prog 117 #[.pointer (some ⟨g, 0, none⟩)] w fun e w' => e = .returned (.bool v) ∧ w = w' := by
  subst hv
  cases h : inR f 0 359
  all_goals
    go_enter Try.func117, Try.ntmps117
    go_wp2_with (go_at_call 108; refine (l00In_c _ _ _ _).mono ?_; rintro e w' ⟨rfl, rfl⟩)
    go_ret
    exact ⟨ret_bool (by simp), rfl⟩
/-- A sector is valid. -/
def okS (f t : Int) (s : ByteArray) : Bool := inR f 0 359 && inR t 0 359 && isC s
set_option maxHeartbeats 1000000 in
theorem l08One_c (g : Nat) (f t : Int) (s : ByteArray) (v : Bool) (hv : okS f t s = v) (w : World) (c0 : w.cell? ⟨g, 0, none⟩ = some (.int .i64 f)) (c1 : w.cell? ⟨g, 1, none⟩ = some (.int .i64 t)) (c2 : w.cell? ⟨g, 2, none⟩ = some (.string s)) :
    Calls Try.prog 86 #[.pointer (some ⟨g, 0, none⟩)] w fun e w' => e = .returned (.bool v) ∧ w = w' := by
  subst hv
  unfold okS
  cases h : (inR f 0 359 && inR t 0 359)
  all_goals
    go_enter Try.func86, Try.ntmps86
    go_wp2_with (first
      | (go_at_call 117; refine (l08EndsV_c g f t _ h _ c0 c1).mono ?_; rintro e w' ⟨rfl, rfl⟩)
      | (go_at_call 118; refine (l08Color_c s _ rfl _).mono ?_; rintro e w' ⟨rfl, rfl⟩))
    go_ret
    exact ⟨ret_bool (by simp), rfl⟩
set_option maxHeartbeats 1000000 in
theorem specValidSector_c (f t : Int) (s : ByteArray) (w : World) :
    Calls Try.prog 45 #[.agg #[.int .i64 f, .int .i64 t, .string s]] w fun e w' => e = .returned (.bool (okS f t s)) ∧ Below w.heap.size w w' := by
  go_enter Try.func45, Try.ntmps45
  go_wp2_with (go_at_call 86; refine (l08One_c _ f t s _ rfl _ (by simp [go_sem]) (by simp [go_sem]) (by simp [go_sem])).mono ?_; rintro e w' ⟨rfl, rfl⟩)
  go_ret
  exact ⟨rfl, (by repeat (first | exact Below.refl _ _ | refine Below.alloc ?_ (by simp; try omega) _ | refine Below.drew ?_))⟩
set_option maxHeartbeats 1000000 in
theorem implValidSector_c (f t : Int) (s : ByteArray) (hs : (s.size : Int) ≤ 9223372036854775807) (w : World) :
    Calls Try.prog 47 #[.agg #[.int .i64 f, .int .i64 t, .string s]] w fun e w' => e = .returned (.bool (okS f t s)) ∧ Below w.heap.size w w' := by
  unfold okS
  cases h1 : inR f 0 359 <;> cases h2 : inR t 0 359
  all_goals
    go_enter Try.func47, Try.ntmps47
    go_wp2_with (first
      | (go_at_call 87; refine (isBearing_c _ _).mono ?_; rintro e w' ⟨rfl, rfl⟩)
      | (go_at_call 88; refine (isColor_c s hs _ rfl _).mono ?_; rintro e w' ⟨rfl, rfl⟩))
    go_ret
    exact ⟨ret_bool (by simp), (by repeat (first | exact Below.refl _ _ | refine Below.alloc ?_ (by simp; try omega) _ | refine Below.drew ?_))⟩
set_option maxHeartbeats 1000000 in
theorem toSectorV_c (f t : Int) (s : ByteArray) (w : World) :
    Calls Try.prog 46 #[.agg #[.int .i64 f, .int .i64 t, .string s]] w fun e w' => e = .returned (.agg #[.int .i64 f, .int .i64 t, .string s]) ∧ Below w.heap.size w w' := by
  go_enter Try.func46, Try.ntmps46
  go_wp2
  refine bodyPost_ret (v := .agg #[.int .i64 f, .int .i64 t, .string s]) (by simp [results, Try.results46, go_sem]) rfl ⟨rfl, (by repeat (first | exact Below.refl _ _ | refine Below.alloc ?_ (by simp; try omega) _ | refine Below.drew ?_))⟩
set_option maxHeartbeats 1000000 in
theorem szSectorV_c (f t : Int) (s : ByteArray) (hs : s.size ≤ maxLen) (w : World) :
    Calls Try.prog 44 #[.agg #[.int .i64 f, .int .i64 t, .string s], .int .i64 1048576] w fun e w' => e = .returned (.int .i64 (if (s.size : Int) ≤ 1048576 then 1048576 - s.size else -1)) ∧ Below w.heap.size w w' := by
  unfold maxLen at hs
  by_cases h : (s.size : Int) ≤ 1048576
  · rw [if_pos h]
    go_enter Try.func44, Try.ntmps44
    go_wp2
    go_ret
    exact ⟨rfl, (by repeat (first | exact Below.refl _ _ | refine Below.alloc ?_ (by simp; try omega) _ | refine Below.drew ?_))⟩
  · rw [if_neg h]
    go_enter Try.func44, Try.ntmps44
    go_wp2
    go_ret
    exact ⟨rfl, (by repeat (first | exact Below.refl _ _ | refine Below.alloc ?_ (by simp; try omega) _ | refine Below.drew ?_))⟩
set_option maxHeartbeats 1000000 in
theorem fnExactValidSector_walk (f : Int) (_wf : (Lit.int .i64 f).wf = true) (t : Int) (_wt : (Lit.int .i64 t).wf = true) (s : ByteArray) (hs : s.size ≤ maxLen) (w : World) :
    Calls Try.prog 11 #[.agg #[.int .i64 f, .int .i64 t, .string s]] w fun e w' => e = .returned (.bool true) ∧ Below w.heap.size w w' := by
  clear _wf _wt
  have hsz := fun W => szSectorV_c f t s hs W
  clear hs
  have k0 : ∀ x : Aft (w.alloc (.cells #[.int .i64 f, .int .i64 t, .string s] 63)), x.w1.cell? ⟨w.heap.size, 0, none⟩ = some (.int .i64 f) := fun x => x.new rfl
  have k1 : ∀ x : Aft (w.alloc (.cells #[.int .i64 f, .int .i64 t, .string s] 63)), x.w1.cell? ⟨w.heap.size, 1, none⟩ = some (.int .i64 t) := fun x => x.new rfl
  have k2 : ∀ x : Aft (w.alloc (.cells #[.int .i64 f, .int .i64 t, .string s] 63)), x.w1.cell? ⟨w.heap.size, 2, none⟩ = some (.string s) := fun x => x.new rfl
  by_cases h : (s.size : Int) ≤ 1048576
  · simp only [h, if_true] at hsz
    have h0 : 0 ≤ 1048576 - (s.size : Int) := by omega
    have HS := Lib.hid hsz
    have HI := Lib.hid (fun W => implValidSector_c f t s (by omega) W)
    have HP := Lib.hid (fun W => specValidSector_c f t s W)
    generalize okS f t s = v at *
    clear hsz h
    go_enter Try.func11, Try.ntmps11
    go_wp2_with fail
    refine (Aft.first (HS.out _)).mono ?_
    rintro e _ ⟨rfl, y1, rfl⟩
    go_wp2_with (first
      | (go_at_call 46; refine (Aft.call (toSectorV_c f t s _)).mono ?_; rintro e _ ⟨rfl, y, rfl⟩)
      | (go_at_call 45; refine (Aft.call (HP.out _)).mono ?_; rintro e _ ⟨rfl, y, rfl⟩)
      | (go_at_call 47; refine (Aft.call (HI.out _)).mono ?_; rintro e _ ⟨rfl, y, rfl⟩))
    go_ret
    exact ⟨rfl, below_box (Aft.below _)⟩
  · simp only [h, if_false] at hsz
    have HS := Lib.hid hsz
    clear hsz h
    go_enter Try.func11, Try.ntmps11
    go_wp2_with fail
    refine (Aft.first (HS.out _)).mono ?_
    rintro e _ ⟨rfl, y1, rfl⟩
    go_wp2
    go_ret
    exact ⟨rfl, below_box (Aft.below _)⟩
namespace fnExactValidSectorDone
open Go.ChangeShapes Go.WideShapes Go.ChangeAt Go.RowKit Go.Joins
open Go.ChangeMaps (open_string shut_string)
set_option maxRecDepth 100000 in
theorem lifted (os : Os) (started : os.Started) (H : Type) (enc : TypeId × Value → H) :
    ReturnsInHanded {} Try.checked os 11 .any (Rows.fnExactValidSectorSpec.pre6 enc Try.prog Try.f11 Rows.fnExactValidSectorRow.domain false) (Rows.fnExactValidSectorSpec.post enc Try.prog Try.f11 false true false false) := by
  refine returnsInHanded_of_change (C := Try.checked) lawOwn started (by kernel_rfl) Try.func11
    (ChangeSpec.witness6 (enc := enc) (C := Try.checked) false ⟨#[], #[.agg #[.int .i64 0, .int .i64 0, .string ByteArray.empty]], []⟩ 8 (by kernel_rfl) (by kernel_rfl) (by kernel_rfl) (by kernel_rfl)) ?_
  intro W base args ds gs before hval0 hW hcnd _
  have hval : ∀ (j : Nat) t v, Try.f11.params[j]? = some t → args[j]? = some v → Value.okWide Try.prog W .any base t v := hval0
  have hW' := hW
  obtain ⟨p, q, hA0, hV, rfl, hfz, hnd⟩ := hW
  have hA : DataW.TrodAll enc Try.prog W 0 (fun _ => true) true Try.f11.params.toList args.toList ds p := hA0
  rw [Try.params11] at hA hval
  obtain ⟨v0, vs0, d0, ds0, p0, q0, hargs, rfl, rfl, h0, r0⟩ := trodAll_cons hA
  obtain ⟨rfl, rfl, rfl⟩ := trodAll_nil r0
  obtain rfl : args = #[v0] := by cases args; simp_all
  obtain ⟨rfl, rfl⟩ := trodVars_none hV
  have k0 := h0
  have lt0 : ∀ x ∈ p0, x.block < W.heap.size := by obtain ⟨m, hm⟩ := k0; exact DataW.trod_lt m _ _ _ hm
  suffices hwalk : Calls Try.prog 11 #[v0] W fun e w' => e = .returned (.bool true) ∧ Below W.heap.size W w' by
    refine hwalk.mono fun e W' ⟨he, bel⟩ => ?_
    subst he
    exact ⟨_, rfl, _, _, _, [], _, [], hW', trodAll_mk1 (shut_bool Try.underlying4 _), (trodAll_cons_mk (Below.trod lawLaid (by kernel_rfl) (of_decide_eq_true (by kernel_rfl)) k0 bel lt0) trodAll_mk0), rfl, bel.frame _, fun h => by cases h⟩
  clear hA0 hval0
  obtain ⟨c0_0, c0_1, c0_2, y0_0, y0_1, y0_2, n0, rfl, hd0, hp0, e0_0, e0_1, e0_2⟩ := open_agg3 Try.underlying63 (by kernel_rfl) (by kernel_rfl) (hval 0 63 v0 rfl rfl) h0
  obtain ⟨a0_0, g0_0, x0_0, w0_0⟩ := DataW.trod_int Try.underlying2 e0_0
  simp only [List.cons.injEq, and_true] at g0_0; subst g0_0
  obtain ⟨a0_1, g0_1, x0_1, w0_1⟩ := DataW.trod_int Try.underlying2 e0_1
  simp only [List.cons.injEq, and_true] at g0_1; subst g0_1
  obtain ⟨a0_2, g0_2, x0_2, w0_2⟩ := DataW.trod_string Try.underlying9 e0_2
  simp only [List.cons.injEq, and_true] at g0_2; subst g0_2
  exact fnExactValidSector_walk (w := W) a0_0 w0_0 a0_1 w0_1 a0_2 w0_2

theorem over : Rows.fnExactValidSectorRow.holds Try.pinned (OpenSpec.ofChange Rows.fnExactValidSectorSpec) :=
  OpenClaim.holds_of_wide 11 Try.f11 rfl rfl rfl rfl rfl rfl rfl ⟨rfl, rfl, rfl, rfl, rfl⟩ rfl rfl rfl rfl rfl (by kernel_rfl) Try.func11 (by kernel_rfl)
    (of_decide_eq_true (by kernel_rfl)) (by unfold Func.isWrapper; first | (rw [if_pos (by decide +kernel)]; kernel_rfl) | (rw [if_neg (by decide +kernel)]; exact ⟨rfl, rfl⟩))
    (fun os started H enc _ => lifted os started H enc)

theorem proved : Rows.FnExactValidSectorSaid := over
#print axioms proved
end fnExactValidSectorDone
end Go.Proofs.Ytfmljppofkocmaa
