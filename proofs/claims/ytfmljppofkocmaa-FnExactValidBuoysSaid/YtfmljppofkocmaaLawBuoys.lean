/- The program's ValidBuoys answers as the reference's, for all arguments. -/
import Derived.Test.YtfmljppofkocmaaBuoys
namespace Go.Proofs.Ytfmljppofkocmaa
open Go Go.RowKit
set_option maxHeartbeats 2000000 in
theorem fnExactValidBuoys_walk {w : World} (A : Option Addr) (n cap : Nat) (hn : n ≤ maxLen) (hr : Rows0 [0, 0, 0] w A n) :
    Calls Try.prog 7 #[.slice A n cap] w fun e w' => e = .returned (.bool true) ∧ Below w.heap.size w w' := by
  obtain ⟨X, Y, K, h, _⟩ := rowsBuoy hr
  clear hr
  have HS := Lib.hid (szBuoyS_c A n cap 1048576 hn (by omega) (by omega) w)
  have HP := Lib.hid (fun A n cap W hn h => specValidBuoys_c A n cap X Y K W hn h)
  have HI := Lib.hid (fun A n cap W hn h => implValidBuoys_c A n cap X Y K W hn h)
  go_enter Try.func7, Try.ntmps7
  go_wp2_with fail
  refine HS.out.mono ?_
  rintro e w1 ⟨rfl | ⟨r, r0, r1, rfl⟩, hb1⟩
  · go_wp2
    go_ret
    exact ⟨rfl, hb1⟩
  · have hn2 : n ≤ 1048576 := by omega
    go_wp2_with fail
    refine (toBuoyS_c A n cap X Y K _ hn2 (h.below hb1)).mono ?_
    rintro e w2 ⟨g, rfl, hf2⟩
    have hb2 := held_next hb1 hf2.bel
    go_wp2_with fail
    refine (HP.out _ n n _ hn2 hf2.rec).mono ?_
    rintro e w3 ⟨rfl, hb3⟩
    have hb3 := held_next hb2 hb3
    clear hf2
    go_wp2_with fail
    refine (toBuoyS_c A n cap X Y K _ hn2 (h.below hb3)).mono ?_
    rintro e w4 ⟨g4, rfl, hf4⟩
    have hb4 := held_next hb3 hf4.bel
    have hr4 := Lib.hid hf4.rec
    clear hf4
    go_wp2_with fail
    refine (HI.out _ n n _ hn2 hr4.out).mono ?_
    rintro e w5 ⟨rfl, hb5⟩
    have hr5 := Lib.hid (hr4.out.below hb5)
    have hb5 := held_next hb4 hb5
    go_wp2_with fail
    refine (toBuoyS_c A n cap X Y K _ hn2 (h.below hb5)).mono ?_
    rintro e w6 ⟨g6, rfl, hf6⟩
    have hr6 := Lib.hid (hr5.out.below hf6.bel)
    have hb6 := held_next hb5 hf6.bel
    have hr7 := Lib.hid hf6.rec
    clear hf6
    go_wp2_with fail
    refine (eqBuoyS_same _ _ n n n X Y K _ hn2 hr6.out hr7.out).mono ?_
    rintro e w7 ⟨rfl, hb7⟩
    have hb7 := held_next hb6 hb7
    go_wp2
    go_ret
    exact ⟨rfl, hb7⟩
namespace fnExactValidBuoysDone
open Go.ChangeShapes Go.WideShapes Go.ChangeAt Go.RowKit Go.Joins
open Go.ChangeMaps (open_string shut_string)
set_option maxRecDepth 100000 in
theorem lifted (os : Os) (started : os.Started) (H : Type) (enc : TypeId × Value → H) :
    ReturnsInHanded {} Try.checked os 7 .any (Rows.fnExactValidBuoysSpec.pre6 enc Try.prog Try.f7 Rows.fnExactValidBuoysRow.domain false) (Rows.fnExactValidBuoysSpec.post enc Try.prog Try.f7 false true false false) := by
  refine returnsInHanded_of_change (C := Try.checked) lawOwn started (by kernel_rfl) Try.func7
    (ChangeSpec.witness6 (enc := enc) (C := Try.checked) false ⟨#[], #[.slice none 0 0], []⟩ 8 (by kernel_rfl) (by kernel_rfl) (by kernel_rfl) (by kernel_rfl)) ?_
  intro W base args ds gs before hval0 hW hcnd _
  have hval : ∀ (j : Nat) t v, Try.f7.params[j]? = some t → args[j]? = some v → Value.okWide Try.prog W .any base t v := hval0
  have hW' := hW
  obtain ⟨p, q, hA0, hV, rfl, hfz, hnd⟩ := hW
  have hA : DataW.TrodAll enc Try.prog W 0 (fun _ => true) true Try.f7.params.toList args.toList ds p := hA0
  rw [Try.params7] at hA hval
  obtain ⟨v0, vs0, d0, ds0, p0, q0, hargs, rfl, rfl, h0, r0⟩ := trodAll_cons hA
  obtain ⟨rfl, rfl, rfl⟩ := trodAll_nil r0
  obtain rfl : args = #[v0] := by cases args; simp_all
  obtain ⟨rfl, rfl⟩ := trodVars_none hV
  have k0 := h0
  have lt0 : ∀ x ∈ p0, x.block < W.heap.size := by obtain ⟨m, hm⟩ := k0; exact DataW.trod_lt m _ _ _ hm
  suffices hwalk : Calls Try.prog 7 #[v0] W fun e w' => e = .returned (.bool true) ∧ Below W.heap.size W w' by
    refine hwalk.mono fun e W' ⟨he, bel⟩ => ?_
    subst he
    exact ⟨_, rfl, _, _, _, [], _, [], hW', trodAll_mk1 (shut_bool Try.underlying4 _), (trodAll_cons_mk (Below.trod lawLaid (by kernel_rfl) (of_decide_eq_true (by kernel_rfl)) k0 bel lt0) trodAll_mk0), rfl, bel.frame _, fun h => by cases h⟩
  clear hA0 hval0
  obtain ⟨a0, len0, cap0, rfl, wl0, rw0⟩ := slice_leaves (ks := [0, 0, 0]) 6 Try.underlying33 (by kernel_rfl) (by kernel_rfl) (by decide) (okWide_slice Try.underlying33 (hval 0 33 v0 rfl rfl)) h0
  exact fnExactValidBuoys_walk (w := W) a0 len0 cap0 wl0 rw0.to0

theorem over : Rows.fnExactValidBuoysRow.holds Try.pinned (OpenSpec.ofChange Rows.fnExactValidBuoysSpec) :=
  OpenClaim.holds_of_wide 7 Try.f7 rfl rfl rfl rfl rfl rfl rfl ⟨rfl, rfl, rfl, rfl, rfl⟩ rfl rfl rfl rfl rfl (by kernel_rfl) Try.func7 (by kernel_rfl)
    (of_decide_eq_true (by kernel_rfl)) (by unfold Func.isWrapper; first | (rw [if_pos (by decide +kernel)]; kernel_rfl) | (rw [if_neg (by decide +kernel)]; exact ⟨rfl, rfl⟩))
    (fun os started H enc _ => lifted os started H enc)

theorem proved : Rows.FnExactValidBuoysSaid := over
#print axioms proved
end fnExactValidBuoysDone
end Go.Proofs.Ytfmljppofkocmaa
