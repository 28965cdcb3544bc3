/- Brighter lights and clearer air carry farther, and the least intensity and visibility are just enough: FnLuminous answers true for every input. -/
import Derived.Test.YtffdipcogkhkmaaLum2
import Derived.Test.YtffdipcogkhkmaaR8
namespace Go.Proofs.Ytffdipcogkhkmaa
open Go.RowKit
set_option linter.unusedVariables false
/-- What is accepted less often has a later threshold. -/
theorem thr_le {a b : Int → Bool} {hi r s : Int} (ha : Thr a hi r) (hb : Thr b hi s) (h : ∀ m, 1 ≤ m → m ≤ hi → b m = true → a m = true) : r ≤ s := by
  rcases (show s ≤ hi ∨ hi < s by omega) with h1 | h1
  · have h2 := h s hb.1 h1 (hb.yes hb.1 h1 (Int.le_refl _))
    rw [ha.2.2 s hb.1 h1] at h2
    simpa using h2
  · have := ha.2.1
    omega
theorem accNot_true {i v d : Int} : accNot i v d = true ↔ accE i d v = false := by simp [accNot]
theorem accNot_imp {i v i' v' d : Int} (h : accE i d v = true → accE i' d v' = true) (h2 : accNot i' v' d = true) : accNot i v d = true := by
  rw [accNot_true] at *
  cases hv : accE i d v
  · rfl
  · rw [h hv] at h2; cases h2
/-- Within the range an intensity is enough. -/
theorem thr_in {i v r d : Int} (hr : Thr (accNot i v) 100000 r) (h1 : 1 ≤ d) (h2 : d ≤ r - 1) : accE i d v = true := by
  have := hr.no (m := d) h1 (by omega)
  simpa [accNot] using this
/-- .. and an intensity that is enough carries as far. -/
theorem thr_far {i v r d : Int} (hr : Thr (accNot i v) 100000 r) (h1 : 1 ≤ d) (h2 : d ≤ 100000) (h : accE i d v = true) : d ≤ r - 1 := by
  rcases (show d ≤ r - 1 ∨ r ≤ d by omega) with h3 | h3
  · exact h3
  · have := hr.yes (m := d) h1 h2 h3
    rw [accNot_true, h] at this; cases this
theorem thr_least {acc : Int → Bool} {hi r m : Int} (hr : Thr acc hi r) (h1 : 1 ≤ m) (h2 : m ≤ hi) (h : acc m = true) : r ≤ m := by
  rw [hr.2.2 m h1 h2] at h
  simpa using h
set_option maxRecDepth 100000 in
set_option maxHeartbeats 8000000 in
theorem fnLuminous_walk (w : World) (a : Option Addr) (len cap : Nat) (zs : List Int) (hr : IsRow .u8 w a len cap zs) :
    Calls Try.prog 3 #[.slice a len cap] w fun e w' => e = .returned (.bool true) ∧ Below w.heap.size w w' := by
  have hl := hr.len_le
  by_cases hlong : 1048576 < (len : Int)
  · clear hr
    go_enter Try.func3, Try.ntmps3
    go_wp2
    go_ret
    exact ⟨rfl, Below.refl _ _⟩
  · have hshort : decide (1048576 < (len : Int)) = false := by simp; omega
    clear hlong
    have hrx : ∀ x : Aft w, IsRow .u8 x.w1 a len cap zs := fun x => hr.aft x
    go_enter Try.func3, Try.ntmps3
    go_wp2_with fail
    refine (r8Wide_c a len cap zs 0 65536 (by omega) (by omega) (by omega) w hr).mono ?_
    rintro e _ ⟨u, u0, u1, rfl, rfl⟩
    go_wp2_with fail
    refine (r8At_c a len cap zs 2 200 (by omega) (by omega) w hr).mono ?_
    rintro e _ ⟨t, t0, t1, rfl, rfl⟩
    have p0 : 0 ≤ u * (1 + t) := Int.mul_nonneg u0 (by omega)
    have p1 : u * (1 + t) ≤ 65535 * 200 := Int.mul_le_mul (by omega) (by omega) (by omega) (by omega)
    go_wp2_with fail
    refine (r8Wide_c a len cap zs 3 60000 (by omega) (by omega) (by omega) w hr).mono ?_
    rintro e _ ⟨q, q0, q1, rfl, rfl⟩
    have i1 : inR (1 + u * (1 + t)) 1 100000000 = true := inR_yes ⟨by omega, by omega⟩
    have v1 : inR (1 + q) 1 100000 = true := inR_yes ⟨by omega, by omega⟩
    obtain ⟨r, hr1⟩ := exists_thr (accNot (1 + u * (1 + t)) (1 + q)) 100000 (by omega) (accNot_mono (by omega))
    have HR1 := Lib.hid hr1
    have r0 := hr1.1
    have r1 := hr1.2.1
    clear hr1
    go_wp2_with fail
    refine (Aft.first (implLumR_yes _ _ i1 v1 r HR1.out _)).mono ?_
    rintro e _ ⟨rfl, y1, rfl⟩
    go_wp2_with fail
    refine (r8At_c a len cap zs 5 256 (by omega) (by omega) y1.w1 (hrx y1)).mono ?_
    rintro e _ ⟨p, p2, p3, rfl, rfl⟩
    have i2 : inR (1 + u * (1 + t) + 1 + p) 1 100000000 = true := inR_yes ⟨by omega, by omega⟩
    obtain ⟨s, hs1⟩ := exists_thr (accNot (1 + u * (1 + t) + 1 + p) (1 + q)) 100000 (by omega) (accNot_mono (by omega))
    have hrs : r ≤ s := thr_le HR1.out hs1 (fun m m1 m2 hm => accNot_imp (fun h => accE_i (by omega) (by omega) (by omega) h) hm)
    have HS1 := Lib.hid hs1
    clear hs1
    go_wp2_with fail
    refine (Aft.call (implLumR_yes _ _ i2 v1 s HS1.out _)).mono ?_
    rintro e _ ⟨rfl, y2, rfl⟩
    go_wp2_with fail
    refine (r8At_c a len cap zs 6 256 (by omega) (by omega) y2.w1 (hrx y2)).mono ?_
    rintro e _ ⟨b, b2, b3, rfl, rfl⟩
    have v2 : inR (1 + q + 1 + b) 1 100000 = true := inR_yes ⟨by omega, by omega⟩
    obtain ⟨z, hz1⟩ := exists_thr (accNot (1 + u * (1 + t)) (1 + q + 1 + b)) 100000 (by omega) (accNot_mono (by omega))
    have hrz : r ≤ z := thr_le HR1.out hz1 (fun m m1 m2 hm => accNot_imp (fun h => accE_v m1 (by omega) (by omega) h) hm)
    have HZ1 := Lib.hid hz1
    clear hz1
    have d1 : decide (r - 1 < 0) = false := by simp; omega
    have d2 : decide (100000 < r - 1) = false := by simp; omega
    have d3 : decide (s - 1 < r - 1) = false := by simp; omega
    have d4 : decide (z - 1 < r - 1) = false := by simp; omega
    have d5 : r - 1 ≤ 100000 := by omega
    have d6 : r - 1 ≤ s - 1 := by omega
    have d7 : r - 1 ≤ z - 1 := by omega
    have d8 : 0 ≤ r - 1 := by omega
    go_wp2_with fail
    refine (Aft.call (implLumR_yes _ _ i1 v2 z HZ1.out _)).mono ?_
    rintro e _ ⟨rfl, y3, rfl⟩
    have n1 : inR (1 + u * (1 + t)) 1 1000000000000 = true := inR_yes ⟨by omega, by omega⟩
    have n2 : inR (10 * (1 + u * (1 + t))) 1 1000000000000 = true := inR_yes ⟨by omega, by omega⟩
    go_wp2_with fail
    refine (implTenLog_yes _ n1 _).mono ?_
    rintro e _ ⟨rfl, rfl⟩
    have tb := tenL_bd (n := 1 + u * (1 + t)) (by omega) (by omega)
    obtain ⟨t2, t3⟩ := tb
    have ht := tenL_ten (n := 1 + u * (1 + t)) (by omega) (by omega)
    have hm : (tenL (10 * (1 + u * (1 + t))) != tenL (1 + u * (1 + t)) + 1000) = false := by rw [ht]; simp
    clear ht
    go_wp2_with fail
    refine (implTenLog_yes _ n2 _).mono ?_
    rintro e _ ⟨rfl, rfl⟩
    by_cases ha1 : r - 1 < 1
    · go_wp2
      go_ret
      exact ⟨rfl, Aft.below _⟩
    · have ha2 : 1 ≤ r - 1 := by omega
      clear ha1
      have i3 : inR (r - 1) 1 100000 = true := inR_yes ⟨ha2, d5⟩
      have hin := thr_in HR1.out ha2 (Int.le_refl _)
      obtain ⟨R, hR⟩ := exists_thr (fun i => accE i (r - 1) (1 + q)) 100000000 (by omega) accI_mono
      have R0 := hR.1
      have R1 : R ≤ 1 + u * (1 + t) := thr_least hR (by omega) (by omega) hin
      have hRacc : accE R (r - 1) (1 + q) = true := hR.yes R0 (by omega) (Int.le_refl _)
      obtain ⟨V, hV⟩ := exists_thr (fun v => accE (1 + u * (1 + t)) (r - 1) v) 100000 (by omega) (accV_mono ha2)
      have V0 := hV.1
      have V1 : V ≤ 1 + q := thr_least hV (by omega) (by omega) hin
      have hVacc : accE (1 + u * (1 + t)) (r - 1) V = true := hV.yes V0 (by omega) (Int.le_refl _)
      obtain ⟨X, hX⟩ := exists_thr (accNot R (1 + q)) 100000 (by omega) (accNot_mono (by omega))
      have X0 : r - 1 ≤ X - 1 := thr_far hX ha2 d5 hRacc
      obtain ⟨Y, hY⟩ := exists_thr (accNot (1 + u * (1 + t)) V) 100000 (by omega) (accNot_mono V0)
      have Y0 : r - 1 ≤ Y - 1 := thr_far hY ha2 d5 hVacc
      have i4 : inR R 1 100000000 = true := inR_yes ⟨R0, by omega⟩
      have v4 : inR V 1 100000 = true := inR_yes ⟨V0, by omega⟩
      have Rle : R ≤ 100000000 := by omega
      have Vle : V ≤ 100000 := by omega
      have HR := Lib.hid hR
      have HV := Lib.hid hV
      have HX := Lib.hid hX
      have HY := Lib.hid hY
      clear hR hV hX hY hin hRacc hVacc
      go_wp2_with fail
      refine (Aft.call (implIntensityFor_some _ _ i3 v1 R HR.out Rle _)).mono ?_
      rintro e _ ⟨rfl, y4, rfl⟩
      go_wp2_with fail
      refine (Aft.call (implVisibilityFor_some _ _ i1 i3 V HV.out Vle _)).mono ?_
      rintro e _ ⟨rfl, y5, rfl⟩
      go_wp2_with fail
      refine (Aft.call (implLumR_yes _ _ i4 v1 X HX.out _)).mono ?_
      rintro e _ ⟨rfl, y6, rfl⟩
      go_wp2_with fail
      refine (Aft.call (implLumR_yes _ _ i1 v4 Y HY.out _)).mono ?_
      rintro e _ ⟨rfl, y7, rfl⟩
      go_wp2_with fail
      refine (r8Wide_c a len cap zs 7 3000 (by omega) (by omega) (by omega) y7.w1 (hrx y7)).mono ?_
      rintro e _ ⟨g, g0, g1, rfl, rfl⟩
      have h1 : inR g 0 3000 = true := inR_yes ⟨g0, by omega⟩
      have h2 : inR 20 0 3000 = true := by decide
      have ok : okRange (1 + u * (1 + t)) g 20 (1 + q) = true := by simp [okRange, i1, v1, h1, h2]
      have HO := Lib.hid ok
      clear ok
      go_wp2_with fail
      refine (specGeo_3 g 20 h1 h2 _).mono ?_
      rintro e _ ⟨rfl, rfl⟩
      go_wp2_with fail
      by_cases hmin : r - 1 ≤ horZ g + horZ 20
      · refine (Aft.call (implRange_yes _ _ _ _ HO.out r HR1.out _)).mono ?_
        rw [show min (r - 1) (horZ g + horZ 20) = r - 1 by omega]
        rintro e _ ⟨rfl, y8, rfl⟩
        go_wp2
        go_ret
        exact ⟨rfl, Aft.below _⟩
      · refine (Aft.call (implRange_yes _ _ _ _ HO.out r HR1.out _)).mono ?_
        rw [show min (r - 1) (horZ g + horZ 20) = horZ g + horZ 20 by omega]
        rintro e _ ⟨rfl, y8, rfl⟩
        go_wp2
        go_ret
        exact ⟨rfl, Aft.below _⟩
namespace fnLuminousDone
open Go.ChangeShapes Go.WideShapes Go.ChangeAt Go.RowKit Go.Joins
open Go.ChangeMaps (open_string shut_string)
set_option maxRecDepth 100000 in
theorem lifted (os : Os) (started : os.Started) (H : Type) (enc : TypeId × Value → H) :
    ReturnsInHanded {} Try.checked os 3 .any (Rows.fnLuminousSpec.pre6 enc Try.prog Try.f3 Rows.fnLuminousRow.domain false) (Rows.fnLuminousSpec.post enc Try.prog Try.f3 false true false false) := by
  refine returnsInHanded_of_change (C := Try.checked) lawOwn started (by kernel_rfl) Try.func3
    (ChangeSpec.witness6 (enc := enc) (C := Try.checked) false ⟨#[], #[.slice none 0 0], []⟩ 8 (by kernel_rfl) (by kernel_rfl) (by kernel_rfl) (by kernel_rfl)) ?_
  intro W base args ds gs before hval0 hW hcnd _
  have hval : ∀ (j : Nat) t v, Try.f3.params[j]? = some t → args[j]? = some v → Value.okWide Try.prog W .any base t v := hval0
  have hW' := hW
  obtain ⟨p, q, hA0, hV, rfl, hfz, hnd⟩ := hW
  have hA : DataW.TrodAll enc Try.prog W 0 (fun _ => true) true Try.f3.params.toList args.toList ds p := hA0
  rw [Try.params3] at hA hval
  obtain ⟨v0, vs0, d0, ds0, p0, q0, hargs, rfl, rfl, h0, r0⟩ := trodAll_cons hA
  obtain ⟨rfl, rfl, rfl⟩ := trodAll_nil r0
  obtain rfl : args = #[v0] := by cases args; simp_all
  obtain ⟨rfl, rfl⟩ := trodVars_none hV
  have k0 := h0
  have lt0 : ∀ x ∈ p0, x.block < W.heap.size := by obtain ⟨m, hm⟩ := k0; exact DataW.trod_lt m _ _ _ hm
  suffices hwalk : Calls Try.prog 3 #[v0] W fun e w' => e = .returned (.bool true) ∧ Below W.heap.size W w' by
    refine hwalk.mono fun e W' ⟨he, bel⟩ => ?_
    subst he
    exact ⟨_, rfl, _, _, _, [], _, [], hW', trodAll_mk1 (shut_bool Try.underlying4 _), (trodAll_cons_mk (Below.trod lawLaid (by kernel_rfl) (of_decide_eq_true (by kernel_rfl)) k0 bel lt0) trodAll_mk0), rfl, bel.frame _, fun h => by cases h⟩
  clear hA0 hval0
  obtain ⟨a0, len0, cap0, rfl⟩ := okWide_slice Try.underlying22 (hval 0 22 v0 rfl rfl)
  obtain ⟨z0, w0⟩ : ∃ zs, IsRow .u8 W a0 len0 cap0 zs := by
    obtain ⟨fuel, hf⟩ := h0
    rcases open_ints Try.underlying22 Try.underlying5 (by kernel_rfl) hf with ⟨hcs, _⟩ | ⟨x, l, c, zs, hcs, _, hl, hm, hz, _, hcell, hwz⟩
    · simp [Value.cells] at hcs
      obtain ⟨rfl, rfl, rfl⟩ := hcs
      exact ⟨[], .inl ⟨rfl, rfl, rfl, rfl⟩⟩
    · simp [Value.cells] at hcs
      obtain ⟨rfl, rfl, rfl⟩ := hcs
      exact ⟨zs, .inr ⟨_, rfl, hl, hm, by simpa using hz, hcell, hwz⟩⟩
  exact fnLuminous_walk (w := W) a0 len0 cap0 z0 w0

theorem over : Rows.fnLuminousRow.holds Try.pinned (OpenSpec.ofChange Rows.fnLuminousSpec) :=
  OpenClaim.holds_of_wide 3 Try.f3 rfl rfl rfl rfl rfl rfl rfl ⟨rfl, rfl, rfl, rfl, rfl⟩ rfl rfl rfl rfl rfl (by kernel_rfl) Try.func3 (by kernel_rfl)
    (of_decide_eq_true (by kernel_rfl)) (by unfold Func.isWrapper; first | (rw [if_pos (by decide +kernel)]; kernel_rfl) | (rw [if_neg (by decide +kernel)]; exact ⟨rfl, rfl⟩))
    (fun os started H enc _ => lifted os started H enc)

theorem proved : Rows.FnLuminousSaid := over
#print axioms proved
end fnLuminousDone
end Go.Proofs.Ytffdipcogkhkmaa
