/- Higher lights and eyes see farther, and the least height of an eye is just enough: FnGeo answers true for every input. -/
import Derived.Test.YtnbnkabooggoiaaEye
import Derived.Test.YtnbnkabooggoiaaR8
namespace Go.Proofs.Ytnbnkabooggoiaa
open Go.RowKit
set_option linter.unusedVariables false
theorem horZ_comm (a b : Int) : (horZ a + horZ b != horZ b + horZ a) = false := by rw [Int.add_comm]; simp
set_option maxHeartbeats 4000000 in
theorem fnGeo_walk (w : World) (a : Option Addr) (len cap : Nat) (zs : List Int) (hr : IsRow .u8 w a len cap zs) :
    Calls Try.prog 14 #[.slice a len cap] w fun e w' => e = .returned (.bool true) ∧ Below w.heap.size w w' := by
  have hl := hr.len_le
  by_cases hlong : 1048576 < (len : Int)
  · clear hr
    go_enter Try.func14, Try.ntmps14
    go_wp2
    go_ret
    exact ⟨rfl, Below.refl _ _⟩
  · have hshort : decide (1048576 < (len : Int)) = false := by simp; omega
    clear hlong
    go_enter Try.func14, Try.ntmps14
    go_wp2_with fail
    refine (r8Wide_c a len cap zs 0 3000 (by omega) (by omega) (by omega) w hr).mono ?_
    rintro e _ ⟨h, h0, h1, rfl, rfl⟩
    go_wp2_with fail
    refine (r8Wide_c a len cap zs 2 3000 (by omega) (by omega) (by omega) w hr).mono ?_
    rintro e _ ⟨e, e0, e1, rfl, rfl⟩
    have hh : inR h 0 3000 = true := inR_yes ⟨h0, by omega⟩
    have he : inR e 0 3000 = true := inR_yes ⟨e0, by omega⟩
    have hh1 : inR (h + 1) 0 3000 = true := inR_yes ⟨by omega, by omega⟩
    have b1 := horZ_bd h0 (by omega)
    have b2 := horZ_bd e0 (by omega)
    have b3 := horZ_mono h0 (show h ≤ h + 1 by omega)
    have b4 := (horZ_bd (show 0 ≤ h + 1 by omega) (by omega)).2
    obtain ⟨b10, b11⟩ := b1
    obtain ⟨b20, b21⟩ := b2
    have hc := horZ_comm h e
    have d1 : decide (horZ (h + 1) + horZ e < horZ h + horZ e) = false := by simp; omega
    have d2 : decide (horZ h + horZ e < 0) = false := by simp; omega
    go_wp2_with (go_at_call 37; refine (implGeo_3 _ _ (by assumption) (by assumption) _).mono ?_; rintro e w' ⟨rfl, rfl⟩)
    refine (r8Wide_c a len cap zs 4 65536 (by omega) (by omega) (by omega) w hr).mono ?_
    rintro e _ ⟨u, u0, u1, rfl, rfl⟩
    clear hc d1 d2 hh1 he
    have hd : inR (1 + u) 1 100000 = true := inR_yes ⟨by omega, by omega⟩
    go_wp2_with fail
    have hg0 : inR 3000 0 3000 = true := by decide
    cases ha : accEye h (1 + u) 3000
    · have hlt : decide (horZ h + horZ 3000 < 1 + u) = true := by
        simp only [accEye, decide_eq_false_iff_not] at ha
        simp only [decide_eq_true_eq]; omega
      refine (implEye_none h (1 + u) h0 (by omega) hd ha _).mono ?_
      clear ha
      rintro e _ ⟨rfl, hb1⟩
      go_wp2_with (go_at_call 37; refine (implGeo_3 _ _ (by assumption) (by assumption) _).mono ?_; rintro e w' ⟨rfl, rfl⟩)
      go_ret
      exact ⟨rfl, hb1⟩
    · obtain ⟨r, r0, r1, hr1⟩ := exists_least (accEye h (1 + u)) 3000 ha _ 0 rfl (by omega)
      refine (implEye_some h (1 + u) h0 (by omega) hd ha r r0 hr1 _).mono ?_
      rintro e _ ⟨rfl, hb1⟩
      have hr2 : inR r 0 3000 = true := inR_yes ⟨r0, r1⟩
      have hge : decide (horZ h + horZ r < 1 + u) = false := by
        have := hr1.1
        simp only [accEye, decide_eq_true_eq] at this
        simp only [decide_eq_false_iff_not]; omega
      have hxx := horZ_bd r0 r1
      obtain ⟨x0, x1⟩ := hxx
      by_cases hz : r = 0
      · subst hz
        clear ha hr1
        go_wp2_with (go_at_call 37; refine (implGeo_3 _ _ (by assumption) (by assumption) _).mono ?_; rintro e w' ⟨rfl, rfl⟩)
        go_ret
        exact ⟨rfl, hb1⟩
      · have hz' : (r == 0) = false := by simpa using hz
        have hr3 : inR (r - 1) 0 3000 = true := inR_yes ⟨by omega, by omega⟩
        have hlt : decide (horZ h + horZ (r - 1) < 1 + u) = true := by
          have := hr1.2 (r - 1) (by omega) (by omega)
          simp only [accEye, decide_eq_false_iff_not] at this
          simp only [decide_eq_true_eq]; omega
        have hrpos : 1 ≤ r := by omega
        clear ha hr1 hz
        go_wp2_with (go_at_call 37; refine (implGeo_3 _ _ (by assumption) (by assumption) _).mono ?_; rintro e w' ⟨rfl, rfl⟩)
        go_ret
        exact ⟨rfl, hb1⟩
namespace fnGeoDone
open Go.ChangeShapes Go.WideShapes Go.ChangeAt Go.RowKit Go.Joins
open Go.ChangeMaps (open_string shut_string)
set_option maxRecDepth 100000 in
theorem lifted (os : Os) (started : os.Started) (H : Type) (enc : TypeId × Value → H) :
    ReturnsInHanded {} Try.checked os 14 .any (Rows.fnGeoSpec.pre6 enc Try.prog Try.f14 Rows.fnGeoRow.domain false) (Rows.fnGeoSpec.post enc Try.prog Try.f14 false true false false) := by
  refine returnsInHanded_of_change (C := Try.checked) lawOwn started (by kernel_rfl) Try.func14
    (ChangeSpec.witness6 (enc := enc) (C := Try.checked) false ⟨#[], #[.slice none 0 0], []⟩ 8 (by kernel_rfl) (by kernel_rfl) (by kernel_rfl) (by kernel_rfl)) ?_
  intro W base args ds gs before hval0 hW hcnd _
  have hval : ∀ (j : Nat) t v, Try.f14.params[j]? = some t → args[j]? = some v → Value.okWide Try.prog W .any base t v := hval0
  have hW' := hW
  obtain ⟨p, q, hA0, hV, rfl, hfz, hnd⟩ := hW
  have hA : DataW.TrodAll enc Try.prog W 0 (fun _ => true) true Try.f14.params.toList args.toList ds p := hA0
  rw [Try.params14] at hA hval
  obtain ⟨v0, vs0, d0, ds0, p0, q0, hargs, rfl, rfl, h0, r0⟩ := trodAll_cons hA
  obtain ⟨rfl, rfl, rfl⟩ := trodAll_nil r0
  obtain rfl : args = #[v0] := by cases args; simp_all
  obtain ⟨rfl, rfl⟩ := trodVars_none hV
  have k0 := h0
  have lt0 : ∀ x ∈ p0, x.block < W.heap.size := by obtain ⟨m, hm⟩ := k0; exact DataW.trod_lt m _ _ _ hm
  suffices hwalk : Calls Try.prog 14 #[v0] W fun e w' => e = .returned (.bool true) ∧ Below W.heap.size W w' by
    refine hwalk.mono fun e W' ⟨he, bel⟩ => ?_
    subst he
    exact ⟨_, rfl, _, _, _, [], _, [], hW', trodAll_mk1 (shut_bool Try.underlying4 _), (trodAll_cons_mk (Below.trod lawLaid (by kernel_rfl) (of_decide_eq_true (by kernel_rfl)) k0 bel lt0) trodAll_mk0), rfl, bel.frame _, fun h => by cases h⟩
  clear hA0 hval0
  obtain ⟨a0, len0, cap0, rfl⟩ := okWide_slice Try.underlying45 (hval 0 45 v0 rfl rfl)
  obtain ⟨z0, w0⟩ : ∃ zs, IsRow .u8 W a0 len0 cap0 zs := by
    obtain ⟨fuel, hf⟩ := h0
    rcases open_ints Try.underlying45 Try.underlying5 (by kernel_rfl) hf with ⟨hcs, _⟩ | ⟨x, l, c, zs, hcs, _, hl, hm, hz, _, hcell, hwz⟩
    · simp [Value.cells] at hcs
      obtain ⟨rfl, rfl, rfl⟩ := hcs
      exact ⟨[], .inl ⟨rfl, rfl, rfl, rfl⟩⟩
    · simp [Value.cells] at hcs
      obtain ⟨rfl, rfl, rfl⟩ := hcs
      exact ⟨zs, .inr ⟨_, rfl, hl, hm, by simpa using hz, hcell, hwz⟩⟩
  exact fnGeo_walk (w := W) a0 len0 cap0 z0 w0

theorem over : Rows.fnGeoRow.holds Try.pinned (OpenSpec.ofChange Rows.fnGeoSpec) :=
  OpenClaim.holds_of_wide 14 Try.f14 rfl rfl rfl rfl rfl rfl rfl ⟨rfl, rfl, rfl, rfl, rfl⟩ rfl rfl rfl rfl rfl (by kernel_rfl) Try.func14 (by kernel_rfl)
    (of_decide_eq_true (by kernel_rfl)) (by unfold Func.isWrapper; first | (rw [if_pos (by decide +kernel)]; kernel_rfl) | (rw [if_neg (by decide +kernel)]; exact ⟨rfl, rfl⟩))
    (fun os started H enc _ => lifted os started H enc)

theorem proved : Rows.FnGeoSaid := over
#print axioms proved
end fnGeoDone
end Go.Proofs.Ytnbnkabooggoiaa
