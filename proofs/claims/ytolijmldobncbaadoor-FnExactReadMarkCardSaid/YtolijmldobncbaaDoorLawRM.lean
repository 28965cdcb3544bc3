/- The program's ReadMark answers as the reference's, for all texts, where the listed tables of Go's library hold what its text lays (the card ties them). -/
import Derived.Test.YtolijmldobncbaaDoorReadMD
namespace Go.Proofs.YtolijmldobncbaaDoor
open Go Go.RowKit Go.Shelf
set_option maxRecDepth 100000 in
set_option maxHeartbeats 8000000 in
theorem implReadMark_c (s : ByteArray) (hs : s.size ≤ 1048576) (w : World) (hM : MaxL w) (hT : Spaces w) :
    Calls Tryd.prog 40 #[.string s] w fun e w' => e = .returned (ansM (readM s)) ∧ Below w.heap.size w w' := by
  unfold readM
  cases hno : (s.toList == [110, 111, 110, 101])
  · rw [if_neg (by simp), four_same]
    by_cases h4 : (nonB (pieces 32 s)).length = 4
    · obtain ⟨a, b, c, d, hp⟩ : ∃ a b c d, nonB (pieces 32 s) = [a, b, c, d] := by
        match nonB (pieces 32 s), h4 with
        | [a, b, c, d], _ => exact ⟨a, b, c, d, rfl⟩
      rw [hp]
      exact implRead_four s a b c d hs hno hp w hM hT
    · have HE := Lib.hid (show ansM (four s (nonB (pieces 32 s))) = .tuple #[.agg #[.int .i64 0, .string ⟨#[]⟩, .string ⟨#[]⟩, .string ⟨#[]⟩], .bool false] by
        have : four s (nonB (pieces 32 s)) = none := by
          unfold four
          split
          · rename_i he; rw [he] at h4; exact absurd rfl h4
          · rfl
        rw [this]; rfl)
      rw [HE.out]
      have HS := Lib.hid (fun W hW => splitWords_c s hs W hW)
      have hlen : (nonB (pieces 32 s)).length ≤ 1048577 := by have := nonB_len (pieces 32 s); have := pieces_count 32 s; omega
      clear HE
      generalize nonB (pieces 32 s) = ps at *
      have hne : ((ps.length : Int) == 4) = false := by simp; omega
      have hne2 : ((ps.length : Int) != 4) = true := by simp; omega
      have hn0 : pickS markNames 0 = (⟨#[110, 111, 110, 101]⟩ : ByteArray) := by decide +kernel
      go_enter Tryd.func40, Tryd.ntmps40
      go_wp2_with fail
      refine (markName_c 0 _).mono ?_
      rintro e w1 ⟨rfl, hb1⟩
      rw [hn0]
      have hbw : Below w.heap.size w w1 := held_next (Below.alloc (Below.refl _ _) (Nat.le_refl _) _) hb1
      have hZ : Blk w1 w.heap.size 23 #[.int .i64 0, .string ⟨#[]⟩, .string ⟨#[]⟩, .string ⟨#[]⟩] := (Blk.new _ _ _).below hb1
      clear hb1 hn0
      go_wp2_with fail
      refine (HS.out _ (hM.below hbw)).mono ?_
      rintro e w2 ⟨v, rfl, hown, hb2⟩
      have hv : ∃ A c, v = .slice A ps.length c := by
        rcases hown.2 with ⟨rfl, h0⟩ | ⟨g, cp, cur, rfl, _⟩
        · exact ⟨none, 0, by rw [h0]⟩
        · exact ⟨_, _, rfl⟩
      obtain ⟨A, cp, rfl⟩ := hv
      replace hZ := hZ.below hb2
      have hb5 := held_next hbw hb2
      have cZ := hZ.cell
      have fZ := hZ.frozen
      clear hown hb2 hZ HS hbw
      go_wp2
      refine bodyPost_ret (v := Value.tuple #[.agg #[.int .i64 0, .string ⟨#[]⟩, .string ⟨#[]⟩, .string ⟨#[]⟩], .bool false]) (by simp [results, Tryd.results40, go_sem, cZ]) rfl ⟨rfl, ?_⟩
      first
        | with_reducible exact hb5
        | exact (((hb5.setCell (by simp) _).setCell (by simp) _).setCell (by simp) _).setCell (by simp) _
  · rw [if_pos (by simp)]
    have hn0 : pickS markNames 0 = (⟨#[110, 111, 110, 101]⟩ : ByteArray) := by decide +kernel
    go_enter Tryd.func40, Tryd.ntmps40
    go_wp2_with fail
    refine (markName_c 0 _).mono ?_
    rintro e w1 ⟨rfl, hb1⟩
    rw [hn0]
    have hZ : Blk w1 w.heap.size 23 #[.int .i64 0, .string ⟨#[]⟩, .string ⟨#[]⟩, .string ⟨#[]⟩] := (Blk.new _ _ _).below hb1
    have hb5 : Below w.heap.size w w1 := held_next (Below.alloc (Below.refl _ _) (Nat.le_refl _) _) hb1
    have cZ := hZ.cell
    have fZ := hZ.frozen
    clear hb1 hZ hn0
    go_wp2
    refine bodyPost_ret (v := Value.tuple #[.agg #[.int .i64 0, .string ⟨#[]⟩, .string ⟨#[]⟩, .string ⟨#[]⟩], .bool true]) (by simp [results, Tryd.results40, go_sem, cZ]) rfl ⟨rfl, ?_⟩
    first
      | with_reducible exact hb5
      | exact (((hb5.setCell (by simp) _).setCell (by simp) _).setCell (by simp) _).setCell (by simp) _
set_option maxRecDepth 100000 in
set_option maxHeartbeats 8000000 in
theorem fnExactReadMark_walk {w : World} (s : ByteArray) (hs : s.size ≤ maxLen) (hT : Spaces w) (hM : MaxL w) :
    Calls Tryd.prog 11 #[.string s] w fun e w' => e = .returned (.bool true) ∧ Below w.heap.size w w' := by
  unfold maxLen at hs
  by_cases l1 : 1048576 < (s.size : Int)
  · go_enter Tryd.func11, Tryd.ntmps11
    go_wp2
    go_ret
    exact ⟨rfl, Below.refl _ _⟩
  have HP := Lib.hid (fun W => specReadMark_c s (by omega) W)
  have HI := Lib.hid (fun W h h' => implReadMark_c s (by omega) W h h')
  obtain ⟨k, b, c, t, v, hv⟩ := ansM_form (readM s)
  rw [hv] at HP HI
  clear hv
  go_enter Tryd.func11, Tryd.ntmps11
  go_wp2_with fail
  refine (HP.out _).mono ?_
  rintro e w1 ⟨rfl, b1⟩
  go_wp2_with fail
  have hB : Blk (w1.alloc (.cells #[.int .i64 k, .string b, .string c, .string t] 23)) w1.heap.size 23 #[.int .i64 k, .string b, .string c, .string t] := Blk.new _ _ _
  have hb : Below w.heap.size w (w1.alloc (.cells #[.int .i64 k, .string b, .string c, .string t] 23)) := b1.alloc b1.size _
  generalize w1.alloc (.cells #[.int .i64 k, .string b, .string c, .string t] 23) = W1 at *
  generalize w1.heap.size = G1 at *
  refine (HI.out _ (hM.below hb) (hT.below hb)).mono ?_
  rintro e w2 ⟨rfl, b2⟩
  replace hB := hB.below b2
  replace hb := held_next hb b2
  have cB := hB.cell
  have cB2 : ∀ o j, (w2.alloc o).cell? ⟨G1, j, none⟩ = (#[.int .i64 k, .string b, .string c, .string t] : Array Value)[j]? := fun o j => (cell_past hB.lt o j).trans (hB.cell j)
  clear HI HP b1 b2 hB
  go_wp2_with fail
  refine (eqMark_same k b c t _).mono ?_
  rintro e w3 ⟨rfl, b3⟩
  go_wp2
  go_ret
  exact ⟨rfl, held_next hb (below_box b3)⟩
namespace fnExactReadMarkDone
open Go.ChangeShapes Go.WideShapes Go.ChangeAt Go.RowKit Go.Joins
open Go.ChangeMaps (open_string shut_string)
set_option maxRecDepth 100000 in
theorem lifted (os : Os) (started : os.Started) (H : Type) (enc : TypeId × Value → H) :
    ReturnsInHanded {} Tryd.checked os 11 .any (fun w args => (Rows.fnExactReadMarkSpec.pre enc Tryd.prog Tryd.f11 Rows.fnExactReadMarkRow.domain false w args ∧ laidMetH Tryd.prog Rows.fnExactReadMarkRow.laid w) ∧ sizedMet enc Tryd.prog Tryd.f11 (OpenSpec.ofChange Rows.fnExactReadMarkSpec) false w args)
      (Rows.fnExactReadMarkSpec.post enc Tryd.prog Tryd.f11 false true false false) := by
  refine returnsAndShaped (C := Tryd.checked) (X := fun w _ => laidMetH Tryd.prog Rows.fnExactReadMarkRow.laid w) (fun _ _ _ hh h => h.of_heap hh) lawOwn started (by kernel_rfl) Tryd.func11
    (ChangeSpec.witness_shaped (enc := enc) (C := Tryd.checked) (os := os) (X := fun w _ => laidMetH Tryd.prog Rows.fnExactReadMarkRow.laid w) false (World.laidAll Tryd.prog os Rows.fnExactReadMarkRow.laid) #[.string ByteArray.empty] 8 (World.laidAll_os _ _ _)
      (World.shaped_of_ZipB (by kernel_rfl) (by kernel_rfl)) (by kernel_rfl) (by kernel_rfl) (by kernel_rfl)
      (by rw [MakeChecks.laidMetH_plain _ _ _ (by kernel_rfl)]; exact laidMet_laidAll _ (by kernel_rfl) (by kernel_rfl))) ?_
  intro W base args ds gs before hval0 hW hsh hL
  have hval : ∀ (j : Nat) t v, Tryd.f11.params[j]? = some t → args[j]? = some v → Value.okWide Tryd.prog W .any base t v := hval0
  have hW' := hW
  obtain ⟨p, q, hA0, hV, rfl, hfz, hnd⟩ := hW
  have hA : DataW.TrodAll enc Tryd.prog W 0 (fun _ => true) true Tryd.f11.params.toList args.toList ds p := hA0
  rw [Tryd.params11] at hA hval
  obtain ⟨v0, vs0, d0, ds0, p0, q0, hargs, rfl, rfl, h0, r0⟩ := trodAll_cons hA
  obtain ⟨rfl, rfl, rfl⟩ := trodAll_nil r0
  obtain rfl : args = #[v0] := by cases args; simp_all
  obtain ⟨rfl, rfl⟩ := trodVars_none hV
  have k0 := h0
  have lt0 : ∀ x ∈ p0, x.block < W.heap.size := by obtain ⟨m, hm⟩ := k0; exact DataW.trod_lt m _ _ _ hm
  suffices hwalk : Calls Tryd.prog 11 #[v0] W fun e w' => e = .returned (.bool true) ∧ Below W.heap.size W w' by
    refine hwalk.mono fun e W' ⟨he, bel⟩ => ?_
    subst he
    exact ⟨_, rfl, _, _, _, [], _, [], hW', trodAll_mk1 (shut_bool Tryd.underlying4 _), (trodAll_cons_mk (Below.trod lawLaid (by kernel_rfl) (of_decide_eq_true (by kernel_rfl)) k0 bel lt0) trodAll_mk0), rfl, bel.frame _, fun h => by cases h⟩
  clear hA0 hval0
  obtain ⟨s0, rfl, rfl, rfl, w0⟩ := open_string Tryd.underlying9 (hval 0 9 v0 rfl rfl) h0
  rw [MakeChecks.laidMetH_plain _ _ _ (by kernel_rfl)] at hL
  have hTab := asciiTab_of (Lib.laidMet.reads hL (.tail _ (.tail _ (.head _))))
  have hMax := maxL_of hsh
  exact fnExactReadMark_walk (w := W) s0 w0 hTab hMax

theorem over : Rows.fnExactReadMarkRow.holds Tryd.pinned (OpenSpec.ofChange Rows.fnExactReadMarkSpec) :=
  OpenClaim.holds_of_wide 11 Tryd.f11 rfl rfl rfl rfl rfl rfl rfl ⟨rfl, rfl, rfl, rfl, rfl⟩ rfl rfl rfl rfl rfl (by kernel_rfl) Tryd.func11 (by kernel_rfl)
    (of_decide_eq_true (by kernel_rfl)) (by unfold Func.isWrapper; first | (rw [if_pos (by decide +kernel)]; kernel_rfl) | (rw [if_neg (by decide +kernel)]; exact ⟨rfl, rfl⟩))
    (fun os started H enc _ => lifted os started H enc)

theorem proved : Rows.FnExactReadMarkCardSaid :=
  Claim7.holds_tied_plain_at .later [] [.data, .listed, .data, .pinned] true (true, "a6357595bf9999fd0109d346879aa51bdc7c32d128cba37b7695526da005853e") false over (fun _ h => by cases h) (by kernel_rfl) (fun _ h => by cases h) fnExactReadMark_row_tie rfl ⟨rfl, rfl⟩ (by kernel_rfl) rfl
    (fun f fn hf hfn => by
      obtain rfl : f = 11 := Option.some.inj ((show Tryd.prog.funcNamed "loop.example/g00953/laws.FnExactReadMark" = some 11 by kernel_rfl).symm.trans hf) |>.symm
      obtain rfl : fn = Tryd.f11 := (Option.some.inj (Tryd.func11.symm.trans hfn)).symm
      exact ⟨by kernel_rfl, fun j t ht => by
        rw [Tryd.params11] at ht
        have hm : t ∈ [9] := by simpa using Array.mem_of_getElem? ht
        have hall : ([9].all fun u => !Tryd.prog.wantsStandIn u) = true := by kernel_rfl
        exact (show Tryd.prog.wantsStandIn t = false by simpa using List.all_eq_true.1 hall t hm)⟩)
    (by kernel_rfl)
#print axioms proved
end fnExactReadMarkDone
end Go.Proofs.YtolijmldobncbaaDoor
