/- The program's ReadFog answers as the reference's, for all arguments, where the listed variables of Go's library hold what its text lays (the card ties them). -/
import Derived.Test.YtimfpnmcdicldaaDoorFgC
namespace Go.Proofs.YtimfpnmcdicldaaDoor
open Go Go.RowKit Go.Shelf
set_option maxHeartbeats 1000000 in
theorem eqFog_same (k b p pw : Int) (w : World) :
    Calls Tryd.prog 27 #[.agg #[.int .i64 k, .int .i64 b, .int .i64 p, .int .i64 pw], .agg #[.int .i64 k, .int .i64 b, .int .i64 p, .int .i64 pw]] w fun e w' => e = .returned (.bool true) ∧ Below w.heap.size w w' := by
  go_enter Tryd.func27, Tryd.ntmps27
  go_wp2
  go_ret
  exact ⟨rfl, (by repeat (first | exact Below.refl _ _ | refine Below.alloc ?_ (by simp; try omega) _ | refine Below.drew ?_))⟩
/-- The two answers are one. -/
theorem fog_both {s : ByteArray} {w w' v v' : World} {e e' : Ending} (h : FogPost s w e w') (h' : FogPost s v e' v') : ∃ (k b p pw : Int) (ok : Bool), e = .returned (.tuple #[.agg #[.int .i64 k, .int .i64 b, .int .i64 p, .int .i64 pw], .bool ok]) ∧ e' = .returned (.tuple #[.agg #[.int .i64 k, .int .i64 b, .int .i64 p, .int .i64 pw], .bool ok]) := by
  obtain ⟨_, ⟨k, b, p, pw, h1, h2⟩ | ⟨h1, h2⟩⟩ := h
  · obtain ⟨_, ⟨k', b', p', pw', h1', h2'⟩ | ⟨h1', h2'⟩⟩ := h'
    · obtain ⟨rfl, rfl, rfl, rfl⟩ := fogOf_inj h1 h1'
      exact ⟨_, _, _, _, _, h2, h2'⟩
    · exact (h1' k b p pw h1).elim
  · obtain ⟨_, ⟨k', b', p', pw', h1', h2'⟩ | ⟨h1', h2'⟩⟩ := h'
    · exact (h1 k' b' p' pw' h1').elim
    · exact ⟨_, _, _, _, _, h2, h2'⟩
/-- An answer that is one with another's. -/
theorem fog_form {s : ByteArray} {w w' : World} {e : Ending} (h : FogPost s w e w') : ∃ (k b p pw : Int) (ok : Bool), e = .returned (.tuple #[.agg #[.int .i64 k, .int .i64 b, .int .i64 p, .int .i64 pw], .bool ok]) := by
  obtain ⟨k, b, p, pw, ok, h1, _⟩ := fog_both h h
  exact ⟨k, b, p, pw, ok, h1⟩
set_option maxRecDepth 100000 in
set_option maxHeartbeats 4000000 in
theorem fnExactReadFog_walk {w : World} (s : ByteArray) (_hs : s.size ≤ maxLen) (hT : Pows w) (hE : Errs w) (hM : MaxL w) :
    Calls Tryd.prog 7 #[.string s] w fun e w' => e = .returned (.bool true) ∧ Below w.heap.size w w' := by
  by_cases h : 1048576 < s.size
  · have hi : (1048576 : Int) < (s.size : Int) := by omega
    go_enter Tryd.func7, Tryd.ntmps7
    go_wp2
    go_ret
    exact ⟨rfl, Below.refl _ _⟩
  · have hi : ¬ (1048576 : Int) < (s.size : Int) := by omega
    have hs : s.size ≤ 1048576 := by omega
    have HP := Lib.hid (fun W => specReadFog_c s hs W)
    have HI := Lib.hid (fun W hT hE hM => implReadFog_c s hs W hT hE hM)
    have HT := Lib.hid (And.intro hT (And.intro hE hM))
    clear hT hE hM
    go_enter Tryd.func7, Tryd.ntmps7
    go_wp2_with fail
    refine (HP.out _).mono ?_
    intro e w1 h1
    have H1 := Lib.hid h1
    obtain ⟨k, b, p, pw, ok, rfl⟩ := fog_form h1
    have b1 := h1.1
    have hB1 := Blk.new w1 36 #[.int .i64 k, .int .i64 b, .int .i64 p, .int .i64 pw]
    have hb2 : Below w.heap.size w (w1.alloc (.cells #[.int .i64 k, .int .i64 b, .int .i64 p, .int .i64 pw] 36)) := b1.alloc b1.size _
    clear h1
    go_wp2_with fail
    generalize w1.alloc (.cells #[.int .i64 k, .int .i64 b, .int .i64 p, .int .i64 pw] 36) = w2 at *
    generalize w1.heap.size = g1 at hB1 ⊢
    refine (HI.out _ (HT.out.1.below hb2) (HT.out.2.1.below hb2) (HT.out.2.2.below hb2)).mono ?_
    intro e w3 h3
    obtain ⟨k', b', p', pw', ok', e1, rfl⟩ := fog_both H1.out h3
    have hb3 := h3.1
    obtain ⟨rfl, rfl, rfl, rfl, rfl⟩ : k = k' ∧ b = b' ∧ p = p' ∧ pw = pw' ∧ ok = ok' := by
      injection e1 with e1
      simpa [and_assoc] using e1
    have hB3 := hB1.below hb3
    clear h3 H1 e1
    have c0 : ∀ o, (w3.alloc o).cell? ⟨g1, 0, none⟩ = some (.int .i64 k) := fun o => (cell_past hB3.lt o 0).trans (hB3.cell 0)
    have c1 : ∀ o, (w3.alloc o).cell? ⟨g1, 1, none⟩ = some (.int .i64 b) := fun o => (cell_past hB3.lt o 1).trans (hB3.cell 1)
    have c2 : ∀ o, (w3.alloc o).cell? ⟨g1, 2, none⟩ = some (.int .i64 p) := fun o => (cell_past hB3.lt o 2).trans (hB3.cell 2)
    have c3 : ∀ o, (w3.alloc o).cell? ⟨g1, 3, none⟩ = some (.int .i64 pw) := fun o => (cell_past hB3.lt o 3).trans (hB3.cell 3)
    go_wp2_with (go_at_call 27; refine (eqFog_same k b p pw _).mono ?_; rintro e w5 ⟨rfl, hb5⟩)
    go_ret
    exact ⟨rfl, held_next hb2 (held_next hb3 (below_box hb5))⟩
namespace fnExactReadFogDone
open Go.ChangeShapes Go.WideShapes Go.ChangeAt Go.RowKit Go.Joins
open Go.ChangeMaps (open_string shut_string)
set_option maxRecDepth 100000 in
theorem lifted (os : Os) (started : os.Started) (H : Type) (enc : TypeId × Value → H) :
    ReturnsInHanded {} Tryd.checked os 7 .any (fun w args => (Rows.fnExactReadFogSpec.pre enc Tryd.prog Tryd.f7 Rows.fnExactReadFogRow.domain false w args ∧ laidMetH Tryd.prog Rows.fnExactReadFogRow.laid w) ∧ sizedMet enc Tryd.prog Tryd.f7 (OpenSpec.ofChange Rows.fnExactReadFogSpec) false w args)
      (Rows.fnExactReadFogSpec.post enc Tryd.prog Tryd.f7 false true false false) := by
  refine returnsAndShaped (C := Tryd.checked) (X := fun w _ => laidMetH Tryd.prog Rows.fnExactReadFogRow.laid w) (fun _ _ _ hh h => h.of_heap hh) lawOwn started (by kernel_rfl) Tryd.func7
    (ChangeSpec.witness_shaped (enc := enc) (C := Tryd.checked) (os := os) (X := fun w _ => laidMetH Tryd.prog Rows.fnExactReadFogRow.laid w) false (World.laidAll Tryd.prog os Rows.fnExactReadFogRow.laid) #[.string ByteArray.empty] 8 (World.laidAll_os _ _ _)
      (World.shaped_of_ZipB (by kernel_rfl) (by kernel_rfl)) (by kernel_rfl) (by kernel_rfl) (by kernel_rfl)
      (by rw [MakeChecks.laidMetH_plain _ _ _ (by kernel_rfl)]; exact laidMet_laidAll _ (by kernel_rfl) (by kernel_rfl))) ?_
  intro W base args ds gs before hval0 hW hsh hL
  have hval : ∀ (j : Nat) t v, Tryd.f7.params[j]? = some t → args[j]? = some v → Value.okWide Tryd.prog W .any base t v := hval0
  have hW' := hW
  obtain ⟨p, q, hA0, hV, rfl, hfz, hnd⟩ := hW
  have hA : DataW.TrodAll enc Tryd.prog W 0 (fun _ => true) true Tryd.f7.params.toList args.toList ds p := hA0
  rw [Tryd.params7] at hA hval
  obtain ⟨v0, vs0, d0, ds0, p0, q0, hargs, rfl, rfl, h0, r0⟩ := trodAll_cons hA
  obtain ⟨rfl, rfl, rfl⟩ := trodAll_nil r0
  obtain rfl : args = #[v0] := by cases args; simp_all
  obtain ⟨rfl, rfl⟩ := trodVars_none hV
  have k0 := h0
  have lt0 : ∀ x ∈ p0, x.block < W.heap.size := by obtain ⟨m, hm⟩ := k0; exact DataW.trod_lt m _ _ _ hm
  suffices hwalk : Calls Tryd.prog 7 #[v0] W fun e w' => e = .returned (.bool true) ∧ Below W.heap.size W w' by
    refine hwalk.mono fun e W' ⟨he, bel⟩ => ?_
    subst he
    exact ⟨_, rfl, _, _, _, [], _, [], hW', trodAll_mk1 (shut_bool Tryd.underlying4 _), (trodAll_cons_mk (Below.trod lawLaid (by kernel_rfl) (of_decide_eq_true (by kernel_rfl)) k0 bel lt0) trodAll_mk0), rfl, bel.frame _, fun h => by cases h⟩
  clear hA0 hval0
  obtain ⟨s0, rfl, rfl, rfl, w0⟩ := open_string Tryd.underlying9 (hval 0 9 v0 rfl rfl) h0
  rw [MakeChecks.laidMetH_plain _ _ _ (by kernel_rfl)] at hL
  have hTab := powTab_of (Lib.laidMet.reads hL (.tail _ (.tail _ (.head _))))
  have hErr := errs_of (Lib.laidMet.reads hL (.tail _ (.tail _ (.tail _ (.tail _ (.tail _ (.head _))))))) (Lib.laidMet.reads hL (.tail _ (.tail _ (.tail _ (.tail _ (.head _))))))
  have hMax := maxL_of hsh
  exact fnExactReadFog_walk (w := W) s0 w0 hTab hErr hMax

theorem over : Rows.fnExactReadFogRow.holds Tryd.pinned (OpenSpec.ofChange Rows.fnExactReadFogSpec) :=
  OpenClaim.holds_of_wide 7 Tryd.f7 rfl rfl rfl rfl rfl rfl rfl ⟨rfl, rfl, rfl, rfl, rfl⟩ rfl rfl rfl rfl rfl (by kernel_rfl) Tryd.func7 (by kernel_rfl)
    (of_decide_eq_true (by kernel_rfl)) (by unfold Func.isWrapper; first | (rw [if_pos (by decide +kernel)]; kernel_rfl) | (rw [if_neg (by decide +kernel)]; exact ⟨rfl, rfl⟩))
    (fun os started H enc _ => lifted os started H enc)

theorem proved : Rows.FnExactReadFogCardSaid :=
  Claim7.holds_tied_plain_at .later [] [.data, .data, .data, .data, .sentinel, .sentinel, .pinned] true (true, "3c5d1abde885b458624fa97d3f925a85800a0aa273fad69290f9f40679c14aa5") true over (fun _ h => by cases h) (by kernel_rfl) (fun _ h => by cases h) fnExactReadFog_row_tie rfl ⟨rfl, rfl⟩ (by kernel_rfl) rfl
    (fun f fn hf hfn => by
      obtain rfl : f = 7 := Option.some.inj ((show Tryd.prog.funcNamed "loop.example/g00953/laws.FnExactReadFog" = some 7 by kernel_rfl).symm.trans hf) |>.symm
      obtain rfl : fn = Tryd.f7 := (Option.some.inj (Tryd.func7.symm.trans hfn)).symm
      exact ⟨by kernel_rfl, fun j t ht => by
        rw [Tryd.params7] at ht
        have hm : t ∈ [9] := by simpa using Array.mem_of_getElem? ht
        have hall : ([9].all fun u => !Tryd.prog.wantsStandIn u) = true := by kernel_rfl
        exact (show Tryd.prog.wantsStandIn t = false by simpa using List.all_eq_true.1 hall t hm)⟩)
    (by kernel_rfl)
#print axioms proved
end fnExactReadFogDone
end Go.Proofs.YtimfpnmcdicldaaDoor
