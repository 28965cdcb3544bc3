/- Reading fog signals: the program's ReadFog. -/
import Derived.Test.YtimfpnmcdicldaaDoorFgB
namespace Go.Proofs.YtimfpnmcdicldaaDoor
open Go Go.RowKit Go.Shelf
theorem head_cut {k b : Int} (hk : 1 ≤ k ∧ k ≤ 4) (hb : 1 ≤ b ∧ b ≤ 6) : cut1 40 (fogHead k b) = pickS fogNames k ∧ (cut3 40 (fogHead k b) = true → trimS 41 (cut2 40 (fogHead k b)) = dec b) ∧ (cut3 40 (fogHead k b) = false → b = 1) := by
  have f1 := name_free hk
  unfold cut1 cut2 cut3
  rw [head_data]
  by_cases h : 1 < b
  · rw [if_pos h, cut_app f1]
    refine ⟨rfl, fun _ => trimS_of ?_, fun h => (Bool.false_ne_true h.symm).elim⟩
    simp
  · rw [if_neg h, cut_none f1]
    exact ⟨rfl, fun h => (Bool.false_ne_true h).elim, fun _ => by omega⟩
theorem size_ne {s : ByteArray} (h : 0 < s.size) : s.toList.isEmpty = false := by
  rw [ByteArray.toList_eq]
  cases hl : s.data.toList with
  | nil =>
    have := data_len s
    rw [hl] at this
    simp at this
    omega
  | cons a l => rfl
theorem fog_words {s : ByteArray} {k b p pw : Int} (h : FogOf s k b p pw) : nonB (pieces 32 s) = [fogHead k b, secT p ++ (⟨#[115]⟩ : ByteArray), dec pw] := by
  rw [fogOf_pieces h]
  obtain ⟨hk, hb, hp, hpw⟩ := okFog_yes h.1
  have h1 : (fogHead k b).toList.isEmpty = false := by
    apply size_ne
    have hn : 4 ≤ (pickS fogNames k).size := by rcases four_cases hk with rfl | rfl | rfl | rfl <;> decide +kernel
    unfold fogHead
    split
    · rw [ByteArray.size_append]; omega
    · omega
  have h2 : (secT p ++ (⟨#[115]⟩ : ByteArray)).toList.isEmpty = false := by
    apply size_ne
    rw [ByteArray.size_append]
    have : ((⟨#[115]⟩ : ByteArray)).size = 1 := rfl
    omega
  have h3 : (dec pw).toList.isEmpty = false := by
    apply size_ne
    have : (dec pw).size = (Lib.itoa pw).length := by show (Lib.itoa pw).toArray.size = _; rw [List.size_toArray]
    rw [this]
    unfold Lib.itoa
    rw [if_neg (by omega)]
    exact List.length_pos_iff.2 (decDigits_ne _)
  unfold nonB
  simp [h1, h2, h3]
set_option maxRecDepth 100000 in
set_option maxHeartbeats 8000000 in
theorem implReadFog_c (s : ByteArray) (hs : s.size ≤ 1048576) (w : World) (hT : Pows w) (hE : Errs w) (hM : MaxL w) :
    Calls Tryd.prog 26 #[.string s] w (FogPost s w) := by
  generalize hW0 : w.alloc (.cells #[.int .i64 0, .int .i64 0, .int .i64 0, .int .i64 0] 36) = W0
  have hbW0 : Below w.heap.size w W0 := hW0 ▸ (by repeat (first | exact Below.refl _ _ | refine Below.alloc ?_ (by simp; try omega) _ | refine Below.drew ?_))
  have HB0 : Hid (Blk W0 w.heap.size 36 #[.int .i64 0, .int .i64 0, .int .i64 0, .int .i64 0]) := Lib.hid (hW0 ▸ Blk.new _ _ _)
  have HTE := Lib.hid (And.intro hT (And.intro hE hM))
  have HSp := Lib.hid (splitWords_c s hs W0 (hM.below hbW0))
  clear hT hE hM
  by_cases h3 : (nonB (pieces 32 s)).length = 3
  · obtain ⟨q0, q1, q2, hq⟩ : ∃ q0 q1 q2, nonB (pieces 32 s) = [q0, q1, q2] := by
      match hm : nonB (pieces 32 s), h3 with
      | [a, b, c], _ => exact ⟨a, b, c, rfl⟩
    have hz : ∀ q ∈ nonB (pieces 32 s), q.size ≤ 1048576 := fun q hqm => Nat.le_trans (pieces_le (c := 32) (s := s) (nonB_mem hqm).1) hs
    rw [hq] at hz
    have hz0 := hz q0 (by simp)
    have hz1 := hz q1 (by simp)
    have hz2 := hz q2 (by simp)
    have hse : Hid (s ≠ ⟨#[]⟩) := Lib.hid (by
      rintro rfl
      have : nonB (pieces 32 ⟨#[]⟩) = [] := by
        have e : pieces 32 ⟨#[]⟩ = [⟨#[]⟩] := rfl
        rw [e]
        unfold nonB
        simp
      rw [this] at h3
      cases h3)
    have HFx0 : Hid (∀ k b p pw, FogOf s k b p pw → cut1 40 q0 = pickS fogNames k ∧ (cut3 40 q0 = true → num (trimS 41 (cut2 40 q0)) = some b) ∧ (cut3 40 q0 = false → b = 1) ∧ (trimS 115 q1 = secT p ∧ (0 ≤ p ∧ p ≤ 1200)) ∧ num q2 = some pw) := Lib.hid (fun k b p pw h => by
      have e := (fog_words h).symm.trans hq
      simp only [List.cons.injEq, and_true] at e
      obtain ⟨hk, hb, hp, hpw⟩ := okFog_yes h.1
      obtain ⟨e1, e2, e3⟩ := e
      have hc := head_cut hk hb
      rw [e1] at hc
      refine ⟨hc.1, fun hf => ?_, hc.2.2, ⟨?_, hp⟩, ?_⟩
      · rw [hc.2.1 hf]
        exact num_dec (by omega) (by omega)
      · rw [← e2]
        exact trimS_of (by simp [ByteArray.data_append])
      · rw [← e3]
        exact num_dec (by omega) (by omega))
    rw [hq] at HSp
    have hlen : [q0, q1, q2].length = 3 := rfl
    rw [hlen] at HSp
    have HCut := Lib.hid (fun W hW => cutC 40 q0 W hz0 hW)
    have hzr := Nat.le_trans (cut2_le 40 q0) hz0
    have HTr0 := Lib.hid (fun W => trimC 41 (cut2 40 q0) W hzr)
    have hztr := Nat.le_trans (trimS_size 41 (cut2 40 q0)) hzr
    have HNum0 := Lib.hid (fun W hW hE => readDecimal_c (trimS 41 (cut2 40 q0)) hztr W hW hE)
    have HTr1 := Lib.hid (fun W => trimC 115 q1 W hz1)
    have hzt1 := Nat.le_trans (trimS_size 115 q1) hz1
    have HSecs := Lib.hid (fun W hW hE hM => readSeconds_c (trimS 115 q1) hzt1 W hW hE hM)
    have HNum2 := Lib.hid (fun W hW hE => readDecimal_c q2 hz2 W hW hE)
    have HFx1 : Hid (∀ k b p pw, FogOf s k b p pw → cut1 40 q0 = pickS fogNames k ∧ (cut3 40 q0 = true → (num (trimS 41 (cut2 40 q0))).getD 0 = b ∧ (num (trimS 41 (cut2 40 q0))).isSome = true) ∧ (cut3 40 q0 = false → b = 1) ∧ (trimS 115 q1 = secT p ∧ (0 ≤ p ∧ p ≤ 1200)) ∧ ((num q2).getD 0 = pw ∧ (num q2).isSome = true)) := Lib.hid (fun k b p pw h => by
      obtain ⟨h1, h2, h3, h4, h5⟩ := HFx0.out k b p pw h
      refine ⟨h1, fun hf => ?_, h3, h4, ?_⟩
      · rw [h2 hf]; exact ⟨rfl, rfl⟩
      · rw [h5]; exact ⟨rfl, rfl⟩)
    generalize cut1 40 q0 = nm at *
    generalize (num (trimS 41 (cut2 40 q0))).getD 0 = b0 at *
    generalize (num (trimS 41 (cut2 40 q0))).isSome = o1 at *
    generalize trimS 41 (cut2 40 q0) = tr at *
    generalize cut2 40 q0 = rs at *
    generalize cut3 40 q0 = fd at *
    generalize (num q2).getD 0 = w0 at *
    generalize (num q2).isSome = o3 at *
    generalize trimS 115 q1 = t1 at *
    clear HFx0 h3 hlen hq hz hz0 hz1 hz2 hzr hztr hzt1
    cases fd
    · have HFx : Hid (∀ k b p pw, FogOf s k b p pw → nm = pickS fogNames k ∧ 1 = b ∧ true = true ∧ (t1 = secT p ∧ (0 ≤ p ∧ p ≤ 1200)) ∧ (w0 = pw ∧ o3 = true)) := Lib.hid (fun k b p pw h => by
        obtain ⟨h1, _, h3, h4, h5⟩ := HFx1.out k b p pw h
        exact ⟨h1, (h3 rfl).symm, rfl, h4, h5⟩)
      clear HFx1 HTr0 HNum0
      go_enter Tryd.func26, Tryd.ntmps26
      go_wp2_with fail
      refine HSp.out.mono ?_
      rintro e w1 ⟨v, rfl, hown, hb1⟩
      obtain ⟨gp, cp, rfl⟩ := Go.Joins.ownsRow_form hown (by omega)
      have hbW1 := held_next hbW0 hb1
      have p0' : w1.cell? ⟨gp, 0, none⟩ = some (.string q0) := (hown.cellAt 0 (by omega)).trans rfl
      have HP1 : Hid (∀ y : Aft w1, y.w1.cell? ⟨gp, 1, none⟩ = some (.string q1)) := Lib.hid (fun y => by
        have h0 : w1.cell? ⟨gp, 1, none⟩ = some (.string q1) := (hown.cellAt 1 (by omega)).trans rfl
        exact y.cell (cell_lt h0) h0)
      have HP2 : Hid (∀ y : Aft w1, y.w1.cell? ⟨gp, 2, none⟩ = some (.string q2)) := Lib.hid (fun y => by
        have h0 : w1.cell? ⟨gp, 2, none⟩ = some (.string q2) := (hown.cellAt 2 (by omega)).trans rfl
        exact y.cell (cell_lt h0) h0)
      have HB1 := Lib.hid (fun (y : Aft w1) => (HB0.out.below hb1).below y.below)
      clear hown HB0
      go_wp2_with fail
      refine (HCut.out _ (HTE.out.2.2.below hbW1)).mono ?_
      rintro e w2 ⟨rfl, hb2⟩
      have hB3 := Blk.new w2 36 #[.int .i64 0, .int .i64 1, .int .i64 0, .int .i64 0]
      have hb3 : Below w2.heap.size w2 (w2.alloc (.cells #[.int .i64 0, .int .i64 1, .int .i64 0, .int .i64 0] 36)) := (by repeat (first | exact Below.refl _ _ | refine Below.alloc ?_ (by simp; try omega) _ | refine Below.drew ?_))
      have hg8 : w1.heap.size ≤ w2.heap.size := hb2.size
      have hy4 : Below w1.heap.size w1 (w2.alloc (.cells #[.int .i64 0, .int .i64 1, .int .i64 0, .int .i64 0] 36)) := held_next hb2 hb3
      have hw4 := held_next hbW1 hy4
      have pq1 : (w2.alloc (.cells #[.int .i64 0, .int .i64 1, .int .i64 0, .int .i64 0] 36)).cell? ⟨gp, 1, none⟩ = some (.string q1) := HP1.out ⟨_, hy4⟩
      go_wp2_with fail
      generalize w2.alloc (.cells #[.int .i64 0, .int .i64 1, .int .i64 0, .int .i64 0] 36) = w4 at *
      generalize w2.heap.size = g8 at hB3 hg8 ⊢
      have HB4 := Lib.hid hB3
      clear hB3 hb3 hb2 p0'
      refine (HTr1.out _).mono ?_
      rintro e _ ⟨rfl, rfl⟩
      go_wp2_with fail
      refine (HSecs.out _ (HTE.out.1.below hw4) (HTE.out.2.1.below hw4) (HTE.out.2.2.below hw4)).mono ?_
      rintro e w5 ⟨p0, o2, rfl, hb5, hS2⟩
      have HB5 := Lib.hid (HB4.out.below hb5)
      have hy5 := held_next hy4 hb5
      have hw5 := held_next hw4 hb5
      have pq2 := HP2.out ⟨w5, hy5⟩
      simp only at pq2
      clear pq1
      go_wp2_with fail
      refine (HNum2.out _ (HTE.out.1.below hw5) (HTE.out.2.1.below hw5)).mono ?_
      rintro e w6 ⟨rfl, hb6⟩
      have HB6 := Lib.hid (HB5.out.below hb6)
      have hy6 := held_next hy5 hb6
      have c2 : w6.cell? ⟨g8, 2, none⟩ = some (.int .i64 0) := HB6.out.cell 2
      have c3 : w6.cell? ⟨g8, 3, none⟩ = some (.int .i64 0) := HB6.out.cell 3
      have fc2 := HB6.out.frozen 2
      have fc3 := HB6.out.frozen 3
      clear pq2
      go_wp2
      go_loopw [14] (fun kv wr => ∃ (j : Nat) (kd : Int) (z : Aft w1), 1 ≤ j ∧ j ≤ 5 ∧ kv = .int .i64 j ∧ wr = z.w1 ∧ Blk wr g8 36 #[.int .i64 kd, .int .i64 1, .int .i64 p0, .int .i64 w0] ∧ Hid (∀ i : Int, 1 ≤ i → i < j → pickS fogNames i = nm → kd = i)) (fun kv _ => 5 - (intOf kv).toNat)
      case atStart => exact ⟨1, 0, ⟨_, (hy6.setCell hg8 _).setCell hg8 _⟩, by omega, by omega, rfl, rfl, (HB6.out.set_ 2 (.int .i64 p0)).set_ 3 (.int .i64 w0), Lib.hid (fun i h1 h2 _ => by omega)⟩
      case round =>
        obtain ⟨j, kd, z, hj1, hj5, rfl, rfl, hblk, hkd⟩ := hrel
        have HBz := Lib.hid hblk
        clear hblk c2 c3 fc2 fc3
        by_cases hj4 : j ≤ 4
        · have hji : (j : Int) ≤ 4 := by omega
          have hjI : 1 ≤ (j : Int) ∧ (j : Int) ≤ 4 := by omega
          have HFN := Lib.hid (fun W => implFogName_c (j : Int) W)
          cases hn : ((pickS fogNames j).toList == nm.toList)
          · have hnext : Hid (∀ i : Int, 1 ≤ i → i < ((j + 1 : Nat) : Int) → pickS fogNames i = nm → kd = i) := Lib.hid (fun i h1 h2 h3 => by
              by_cases e : i = j
              · subst e
                rw [str_beq.2 h3] at hn
                cases hn
              · exact hkd.out i h1 (by omega) h3)
            generalize pickS fogNames j = fj at *
            go_wp2_with (go_at_call 39; refine (HFN.out _).mono ?_; rintro e w7 ⟨rfl, hb7⟩)
            go_roundw
            case rel => exact ⟨j + 1, kd, ⟨w7, held_next z.below hb7⟩, by omega, by omega, by go_num, rfl, HBz.out.below hb7, hnext⟩
            case measure => simp [intOf]; omega
          · have hnext : Hid (∀ i : Int, 1 ≤ i → i < ((j + 1 : Nat) : Int) → pickS fogNames i = nm → (j : Int) = i) := Lib.hid (fun i h1 h2 h3 => by
              have := str_beq.1 hn
              rw [← h3] at this
              exact fogName_inj hjI ⟨h1, by omega⟩ this)
            generalize pickS fogNames j = fj at *
            go_wp2_with fail
            refine (HFN.out _).mono ?_
            rintro e w7 ⟨rfl, hb7⟩
            have HB7 := Lib.hid (HBz.out.below hb7)
            have d0 : w7.cell? ⟨g8, 0, none⟩ = some (.int .i64 kd) := HB7.out.cell 0
            have fd0 := HB7.out.frozen 0
            go_wp2
            go_roundw
            case rel => exact ⟨j + 1, (j : Int), ⟨_, (held_next z.below hb7).setCell hg8 _⟩, by omega, by omega, by go_num, rfl, HB7.out.set_ 0 (.int .i64 (j : Int)), hnext⟩
            case measure => simp [intOf]; omega
        · obtain rfl : j = 5 := by omega
          have HK : Hid (∀ k b p pw, FogOf s k b p pw → kd = k ∧ 1 = b ∧ true = true ∧ p0 = p ∧ o2 = true ∧ w0 = pw ∧ o3 = true) := Lib.hid (fun k b p pw h => by
            obtain ⟨h1, h2, h3, h4, h5⟩ := HFx.out k b p pw h
            have hk := (okFog_yes h.1).1
            have h6 := hS2.out p h4.2 h4.1
            exact ⟨hkd.out k hk.1 (by omega) h1.symm, h2, by first | exact h3 | rfl, h6.1, h6.2, h5.1, h5.2⟩)
          have c0 : z.w1.cell? ⟨g8, 0, none⟩ = some (.int .i64 kd) := HBz.out.cell 0
          have c1 : z.w1.cell? ⟨g8, 1, none⟩ = some (.int .i64 1) := HBz.out.cell 1
          have c2 : z.w1.cell? ⟨g8, 2, none⟩ = some (.int .i64 p0) := HBz.out.cell 2
          have c3 : z.w1.cell? ⟨g8, 3, none⟩ = some (.int .i64 w0) := HBz.out.cell 3
          have hbzz := held_next hbW1 z.below
          have HFT := Lib.hid (fun W hW => implFogText_c kd 1 p0 w0 W hW)
          have hTz := HTE.out.1.below hbzz
          clear hkd hS2 HNum2 HSecs HTr1 HFx
          by_cases hall : true = true ∧ o2 = true ∧ o3 = true
          · obtain ⟨h1, rfl, rfl⟩ := hall
            clear h1
            cases he : ((fogTextS kd 1 p0 w0).toList == s.toList)
            · have hno : Hid (∀ k b p pw, ¬ FogOf s k b p pw) := Lib.hid (fun k b p pw h => by
                obtain ⟨h1, h2, _, h4, _, h6, _⟩ := HK.out k b p pw h
                subst h1 h4 h6; rw [← h2] at h
                have ht : fogTextS kd 1 p0 w0 = s := by unfold fogTextS; rw [if_pos h.1]; exact h.2
                rw [str_beq.2 ht] at he
                cases he)
              generalize fogTextS kd 1 p0 w0 = tx at *
              clear HK
              go_wp2_with fail
              refine (HFT.out _ hTz).mono ?_
              rintro e w8 ⟨rfl, hb8⟩
              have hB := HB1.out ⟨w8, held_next z.below hb8⟩
              simp only at hB
              have e0 : w8.cell? ⟨w.heap.size, 0, none⟩ = some (.int .i64 0) := hB.cell 0
              have e1 : w8.cell? ⟨w.heap.size, 1, none⟩ = some (.int .i64 0) := hB.cell 1
              have e2 : w8.cell? ⟨w.heap.size, 2, none⟩ = some (.int .i64 0) := hB.cell 2
              have e3 : w8.cell? ⟨w.heap.size, 3, none⟩ = some (.int .i64 0) := hB.cell 3
              have f0 := hB.frozen 0
              have f1 := hB.frozen 1
              have f2 := hB.frozen 2
              have f3 := hB.frozen 3
              clear hB
              have hbz := held_next hbzz hb8
              go_wp2
              refine bodyPost_ret (v := .tuple #[.agg #[.int .i64 0, .int .i64 0, .int .i64 0, .int .i64 0], .bool false]) (by simp [results, Tryd.results26, go_sem, e0, e1, e2, e3]) rfl ⟨?_, .inr ⟨hno.out, rfl⟩⟩
              exact (((hbz.setCell (by simp) _).setCell (by simp) _).setCell (by simp) _).setCell (by simp) _
            · have hfo : Hid (FogOf s kd 1 p0 w0) := Lib.hid (by
                have ht := str_beq.1 he
                unfold fogTextS at ht
                by_cases hok : okFog kd 1 p0 w0 = true
                · rw [if_pos hok] at ht
                  exact ⟨hok, ht⟩
                · rw [if_neg hok] at ht
                  exact (hse.out ht.symm).elim)
              generalize fogTextS kd 1 p0 w0 = tx at *
              clear HK
              go_wp2_with fail
              refine (HFT.out _ hTz).mono ?_
              rintro e w8 ⟨rfl, hb8⟩
              have HB8 := Lib.hid (HBz.out.below hb8)
              have d0 : w8.cell? ⟨g8, 0, none⟩ = some (.int .i64 kd) := HB8.out.cell 0
              have d1 : w8.cell? ⟨g8, 1, none⟩ = some (.int .i64 1) := HB8.out.cell 1
              have d2 : w8.cell? ⟨g8, 2, none⟩ = some (.int .i64 p0) := HB8.out.cell 2
              have d3 : w8.cell? ⟨g8, 3, none⟩ = some (.int .i64 w0) := HB8.out.cell 3
              have hB := HB1.out ⟨w8, held_next z.below hb8⟩
              simp only at hB
              have e0 : w8.cell? ⟨w.heap.size, 0, none⟩ = some (.int .i64 0) := hB.cell 0
              have e1 : w8.cell? ⟨w.heap.size, 1, none⟩ = some (.int .i64 0) := hB.cell 1
              have e2 : w8.cell? ⟨w.heap.size, 2, none⟩ = some (.int .i64 0) := hB.cell 2
              have e3 : w8.cell? ⟨w.heap.size, 3, none⟩ = some (.int .i64 0) := hB.cell 3
              have f0 := hB.frozen 0
              have f1 := hB.frozen 1
              have f2 := hB.frozen 2
              have f3 := hB.frozen 3
              clear hB
              have hbz := held_next hbzz hb8
              clear c0 c1 c2 c3
              go_wp2
              refine bodyPost_ret (v := .tuple #[.agg #[.int .i64 kd, .int .i64 1, .int .i64 p0, .int .i64 w0], .bool true]) (by simp [results, Tryd.results26, go_sem, e0, e1, e2, e3]) rfl ⟨?_, .inl ⟨_, _, _, _, hfo.out, rfl⟩⟩
              exact (((hbz.setCell (by simp) _).setCell (by simp) _).setCell (by simp) _).setCell (by simp) _
          · have hno : Hid (∀ k b p pw, ¬ FogOf s k b p pw) := Lib.hid (fun k b p pw h => by
              obtain ⟨_, _, h3, _, h5, _, h7⟩ := HK.out k b p pw h
              exact hall ⟨by first | exact h3 | rfl, h5, h7⟩)
            have hB := HB1.out z
            have e0 : z.w1.cell? ⟨w.heap.size, 0, none⟩ = some (.int .i64 0) := hB.cell 0
            have e1 : z.w1.cell? ⟨w.heap.size, 1, none⟩ = some (.int .i64 0) := hB.cell 1
            have e2 : z.w1.cell? ⟨w.heap.size, 2, none⟩ = some (.int .i64 0) := hB.cell 2
            have e3 : z.w1.cell? ⟨w.heap.size, 3, none⟩ = some (.int .i64 0) := hB.cell 3
            have f0 := hB.frozen 0
            have f1 := hB.frozen 1
            have f2 := hB.frozen 2
            have f3 := hB.frozen 3
            clear hB
            have hbz := hbzz
            clear HK HFT
            cases o2 <;> cases o3
            all_goals
              first
                | exact (hall ⟨rfl, rfl, rfl⟩).elim
                | (clear hall
                   go_wp2
                   refine bodyPost_ret (v := .tuple #[.agg #[.int .i64 0, .int .i64 0, .int .i64 0, .int .i64 0], .bool false]) (by simp [results, Tryd.results26, go_sem, e0, e1, e2, e3]) rfl ⟨?_, .inr ⟨hno.out, rfl⟩⟩
                   exact (((hbz.setCell (by simp) _).setCell (by simp) _).setCell (by simp) _).setCell (by simp) _)

    · have HFx : Hid (∀ k b p pw, FogOf s k b p pw → nm = pickS fogNames k ∧ b0 = b ∧ o1 = true ∧ (t1 = secT p ∧ (0 ≤ p ∧ p ≤ 1200)) ∧ (w0 = pw ∧ o3 = true)) := Lib.hid (fun k b p pw h => by
        obtain ⟨h1, h2, _, h4, h5⟩ := HFx1.out k b p pw h
        exact ⟨h1, (h2 rfl).1, (h2 rfl).2, h4, h5⟩)
      clear HFx1
      go_enter Tryd.func26, Tryd.ntmps26
      go_wp2_with fail
      refine HSp.out.mono ?_
      rintro e w1 ⟨v, rfl, hown, hb1⟩
      obtain ⟨gp, cp, rfl⟩ := Go.Joins.ownsRow_form hown (by omega)
      have hbW1 := held_next hbW0 hb1
      have p0' : w1.cell? ⟨gp, 0, none⟩ = some (.string q0) := (hown.cellAt 0 (by omega)).trans rfl
      have HP1 : Hid (∀ y : Aft w1, y.w1.cell? ⟨gp, 1, none⟩ = some (.string q1)) := Lib.hid (fun y => by
        have h0 : w1.cell? ⟨gp, 1, none⟩ = some (.string q1) := (hown.cellAt 1 (by omega)).trans rfl
        exact y.cell (cell_lt h0) h0)
      have HP2 : Hid (∀ y : Aft w1, y.w1.cell? ⟨gp, 2, none⟩ = some (.string q2)) := Lib.hid (fun y => by
        have h0 : w1.cell? ⟨gp, 2, none⟩ = some (.string q2) := (hown.cellAt 2 (by omega)).trans rfl
        exact y.cell (cell_lt h0) h0)
      have HB1 := Lib.hid (fun (y : Aft w1) => (HB0.out.below hb1).below y.below)
      clear hown HB0
      go_wp2_with fail
      refine (HCut.out _ (HTE.out.2.2.below hbW1)).mono ?_
      rintro e w2 ⟨rfl, hb2⟩
      have hB3 := Blk.new w2 36 #[.int .i64 0, .int .i64 1, .int .i64 0, .int .i64 0]
      have hb3 : Below w2.heap.size w2 (w2.alloc (.cells #[.int .i64 0, .int .i64 1, .int .i64 0, .int .i64 0] 36)) := (by repeat (first | exact Below.refl _ _ | refine Below.alloc ?_ (by simp; try omega) _ | refine Below.drew ?_))
      have hg8 : w1.heap.size ≤ w2.heap.size := hb2.size
      have hy3 : Below w1.heap.size w1 (w2.alloc (.cells #[.int .i64 0, .int .i64 1, .int .i64 0, .int .i64 0] 36)) := held_next hb2 hb3
      have hw3 := held_next hbW1 hy3
      go_wp2_with fail
      generalize w2.alloc (.cells #[.int .i64 0, .int .i64 1, .int .i64 0, .int .i64 0] 36) = w3 at *
      generalize w2.heap.size = g8 at hB3 hg8 ⊢
      have HB3 := Lib.hid hB3
      clear hB3 hb3 hb2 p0'
      refine (HTr0.out _).mono ?_
      rintro e _ ⟨rfl, rfl⟩
      go_wp2_with fail
      refine (HNum0.out _ (HTE.out.1.below hw3) (HTE.out.2.1.below hw3)).mono ?_
      rintro e w3' ⟨rfl, hb3'⟩
      have hB3' := HB3.out.below hb3'
      have hy3' := held_next hy3 hb3'
      have hy4 := hy3'.setCell (p := ⟨g8, 1, none⟩) hg8 (.int .i64 b0)
      have hw4 := held_next hbW1 hy4
      have pq1 : (w3'.setCell ⟨g8, 1, none⟩ (.int .i64 b0)).cell? ⟨gp, 1, none⟩ = some (.string q1) := HP1.out ⟨_, hy4⟩
      have hB4 := hB3'.set_ 1 (.int .i64 b0)
      have c1 : w3'.cell? ⟨g8, 1, none⟩ = some (.int .i64 1) := hB3'.cell 1
      have fc1 := hB3'.frozen 1
      go_wp2_with fail
      generalize w3'.setCell ⟨g8, 1, none⟩ (.int .i64 b0) = w4 at *
      have HB4 : Hid (Blk w4 g8 36 #[.int .i64 0, .int .i64 b0, .int .i64 0, .int .i64 0]) := Lib.hid hB4
      clear hB4 hB3' c1 fc1 hb3' HB3 hy3 hw3 hy3'
      refine (HTr1.out _).mono ?_
      rintro e _ ⟨rfl, rfl⟩
      go_wp2_with fail
      refine (HSecs.out _ (HTE.out.1.below hw4) (HTE.out.2.1.below hw4) (HTE.out.2.2.below hw4)).mono ?_
      rintro e w5 ⟨p0, o2, rfl, hb5, hS2⟩
      have HB5 := Lib.hid (HB4.out.below hb5)
      have hy5 := held_next hy4 hb5
      have hw5 := held_next hw4 hb5
      have pq2 := HP2.out ⟨w5, hy5⟩
      simp only at pq2
      clear pq1
      go_wp2_with fail
      refine (HNum2.out _ (HTE.out.1.below hw5) (HTE.out.2.1.below hw5)).mono ?_
      rintro e w6 ⟨rfl, hb6⟩
      have HB6 := Lib.hid (HB5.out.below hb6)
      have hy6 := held_next hy5 hb6
      have c2 : w6.cell? ⟨g8, 2, none⟩ = some (.int .i64 0) := HB6.out.cell 2
      have c3 : w6.cell? ⟨g8, 3, none⟩ = some (.int .i64 0) := HB6.out.cell 3
      have fc2 := HB6.out.frozen 2
      have fc3 := HB6.out.frozen 3
      clear pq2
      go_wp2
      go_loopw [14] (fun kv wr => ∃ (j : Nat) (kd : Int) (z : Aft w1), 1 ≤ j ∧ j ≤ 5 ∧ kv = .int .i64 j ∧ wr = z.w1 ∧ Blk wr g8 36 #[.int .i64 kd, .int .i64 b0, .int .i64 p0, .int .i64 w0] ∧ Hid (∀ i : Int, 1 ≤ i → i < j → pickS fogNames i = nm → kd = i)) (fun kv _ => 5 - (intOf kv).toNat)
      case atStart => exact ⟨1, 0, ⟨_, (hy6.setCell hg8 _).setCell hg8 _⟩, by omega, by omega, rfl, rfl, (HB6.out.set_ 2 (.int .i64 p0)).set_ 3 (.int .i64 w0), Lib.hid (fun i h1 h2 _ => by omega)⟩
      case round =>
        obtain ⟨j, kd, z, hj1, hj5, rfl, rfl, hblk, hkd⟩ := hrel
        have HBz := Lib.hid hblk
        clear hblk c2 c3 fc2 fc3
        by_cases hj4 : j ≤ 4
        · have hji : (j : Int) ≤ 4 := by omega
          have hjI : 1 ≤ (j : Int) ∧ (j : Int) ≤ 4 := by omega
          have HFN := Lib.hid (fun W => implFogName_c (j : Int) W)
          cases hn : ((pickS fogNames j).toList == nm.toList)
          · have hnext : Hid (∀ i : Int, 1 ≤ i → i < ((j + 1 : Nat) : Int) → pickS fogNames i = nm → kd = i) := Lib.hid (fun i h1 h2 h3 => by
              by_cases e : i = j
              · subst e
                rw [str_beq.2 h3] at hn
                cases hn
              · exact hkd.out i h1 (by omega) h3)
            generalize pickS fogNames j = fj at *
            go_wp2_with (go_at_call 39; refine (HFN.out _).mono ?_; rintro e w7 ⟨rfl, hb7⟩)
            go_roundw
            case rel => exact ⟨j + 1, kd, ⟨w7, held_next z.below hb7⟩, by omega, by omega, by go_num, rfl, HBz.out.below hb7, hnext⟩
            case measure => simp [intOf]; omega
          · have hnext : Hid (∀ i : Int, 1 ≤ i → i < ((j + 1 : Nat) : Int) → pickS fogNames i = nm → (j : Int) = i) := Lib.hid (fun i h1 h2 h3 => by
              have := str_beq.1 hn
              rw [← h3] at this
              exact fogName_inj hjI ⟨h1, by omega⟩ this)
            generalize pickS fogNames j = fj at *
            go_wp2_with fail
            refine (HFN.out _).mono ?_
            rintro e w7 ⟨rfl, hb7⟩
            have HB7 := Lib.hid (HBz.out.below hb7)
            have d0 : w7.cell? ⟨g8, 0, none⟩ = some (.int .i64 kd) := HB7.out.cell 0
            have fd0 := HB7.out.frozen 0
            go_wp2
            go_roundw
            case rel => exact ⟨j + 1, (j : Int), ⟨_, (held_next z.below hb7).setCell hg8 _⟩, by omega, by omega, by go_num, rfl, HB7.out.set_ 0 (.int .i64 (j : Int)), hnext⟩
            case measure => simp [intOf]; omega
        · obtain rfl : j = 5 := by omega
          have HK : Hid (∀ k b p pw, FogOf s k b p pw → kd = k ∧ b0 = b ∧ o1 = true ∧ p0 = p ∧ o2 = true ∧ w0 = pw ∧ o3 = true) := Lib.hid (fun k b p pw h => by
            obtain ⟨h1, h2, h3, h4, h5⟩ := HFx.out k b p pw h
            have hk := (okFog_yes h.1).1
            have h6 := hS2.out p h4.2 h4.1
            exact ⟨hkd.out k hk.1 (by omega) h1.symm, h2, by first | exact h3 | rfl, h6.1, h6.2, h5.1, h5.2⟩)
          have c0 : z.w1.cell? ⟨g8, 0, none⟩ = some (.int .i64 kd) := HBz.out.cell 0
          have c1 : z.w1.cell? ⟨g8, 1, none⟩ = some (.int .i64 b0) := HBz.out.cell 1
          have c2 : z.w1.cell? ⟨g8, 2, none⟩ = some (.int .i64 p0) := HBz.out.cell 2
          have c3 : z.w1.cell? ⟨g8, 3, none⟩ = some (.int .i64 w0) := HBz.out.cell 3
          have hbzz := held_next hbW1 z.below
          have HFT := Lib.hid (fun W hW => implFogText_c kd b0 p0 w0 W hW)
          have hTz := HTE.out.1.below hbzz
          clear hkd hS2 HNum2 HSecs HTr1 HFx
          by_cases hall : o1 = true ∧ o2 = true ∧ o3 = true
          · obtain ⟨h1, rfl, rfl⟩ := hall
            subst h1
            cases he : ((fogTextS kd b0 p0 w0).toList == s.toList)
            · have hno : Hid (∀ k b p pw, ¬ FogOf s k b p pw) := Lib.hid (fun k b p pw h => by
                obtain ⟨h1, h2, _, h4, _, h6, _⟩ := HK.out k b p pw h
                subst h1 h2 h4 h6
                have ht : fogTextS kd b0 p0 w0 = s := by unfold fogTextS; rw [if_pos h.1]; exact h.2
                rw [str_beq.2 ht] at he
                cases he)
              generalize fogTextS kd b0 p0 w0 = tx at *
              clear HK
              go_wp2_with fail
              refine (HFT.out _ hTz).mono ?_
              rintro e w8 ⟨rfl, hb8⟩
              have hB := HB1.out ⟨w8, held_next z.below hb8⟩
              simp only at hB
              have e0 : w8.cell? ⟨w.heap.size, 0, none⟩ = some (.int .i64 0) := hB.cell 0
              have e1 : w8.cell? ⟨w.heap.size, 1, none⟩ = some (.int .i64 0) := hB.cell 1
              have e2 : w8.cell? ⟨w.heap.size, 2, none⟩ = some (.int .i64 0) := hB.cell 2
              have e3 : w8.cell? ⟨w.heap.size, 3, none⟩ = some (.int .i64 0) := hB.cell 3
              have f0 := hB.frozen 0
              have f1 := hB.frozen 1
              have f2 := hB.frozen 2
              have f3 := hB.frozen 3
              clear hB
              have hbz := held_next hbzz hb8
              go_wp2
              refine bodyPost_ret (v := .tuple #[.agg #[.int .i64 0, .int .i64 0, .int .i64 0, .int .i64 0], .bool false]) (by simp [results, Tryd.results26, go_sem, e0, e1, e2, e3]) rfl ⟨?_, .inr ⟨hno.out, rfl⟩⟩
              exact (((hbz.setCell (by simp) _).setCell (by simp) _).setCell (by simp) _).setCell (by simp) _
            · have hfo : Hid (FogOf s kd b0 p0 w0) := Lib.hid (by
                have ht := str_beq.1 he
                unfold fogTextS at ht
                by_cases hok : okFog kd b0 p0 w0 = true
                · rw [if_pos hok] at ht
                  exact ⟨hok, ht⟩
                · rw [if_neg hok] at ht
                  exact (hse.out ht.symm).elim)
              generalize fogTextS kd b0 p0 w0 = tx at *
              clear HK
              go_wp2_with fail
              refine (HFT.out _ hTz).mono ?_
              rintro e w8 ⟨rfl, hb8⟩
              have HB8 := Lib.hid (HBz.out.below hb8)
              have d0 : w8.cell? ⟨g8, 0, none⟩ = some (.int .i64 kd) := HB8.out.cell 0
              have d1 : w8.cell? ⟨g8, 1, none⟩ = some (.int .i64 b0) := HB8.out.cell 1
              have d2 : w8.cell? ⟨g8, 2, none⟩ = some (.int .i64 p0) := HB8.out.cell 2
              have d3 : w8.cell? ⟨g8, 3, none⟩ = some (.int .i64 w0) := HB8.out.cell 3
              have hB := HB1.out ⟨w8, held_next z.below hb8⟩
              simp only at hB
              have e0 : w8.cell? ⟨w.heap.size, 0, none⟩ = some (.int .i64 0) := hB.cell 0
              have e1 : w8.cell? ⟨w.heap.size, 1, none⟩ = some (.int .i64 0) := hB.cell 1
              have e2 : w8.cell? ⟨w.heap.size, 2, none⟩ = some (.int .i64 0) := hB.cell 2
              have e3 : w8.cell? ⟨w.heap.size, 3, none⟩ = some (.int .i64 0) := hB.cell 3
              have f0 := hB.frozen 0
              have f1 := hB.frozen 1
              have f2 := hB.frozen 2
              have f3 := hB.frozen 3
              clear hB
              have hbz := held_next hbzz hb8
              clear c0 c1 c2 c3
              go_wp2
              refine bodyPost_ret (v := .tuple #[.agg #[.int .i64 kd, .int .i64 b0, .int .i64 p0, .int .i64 w0], .bool true]) (by simp [results, Tryd.results26, go_sem, e0, e1, e2, e3]) rfl ⟨?_, .inl ⟨_, _, _, _, hfo.out, rfl⟩⟩
              exact (((hbz.setCell (by simp) _).setCell (by simp) _).setCell (by simp) _).setCell (by simp) _
          · have hno : Hid (∀ k b p pw, ¬ FogOf s k b p pw) := Lib.hid (fun k b p pw h => by
              obtain ⟨_, _, h3, _, h5, _, h7⟩ := HK.out k b p pw h
              exact hall ⟨by first | exact h3 | rfl, h5, h7⟩)
            have hB := HB1.out z
            have e0 : z.w1.cell? ⟨w.heap.size, 0, none⟩ = some (.int .i64 0) := hB.cell 0
            have e1 : z.w1.cell? ⟨w.heap.size, 1, none⟩ = some (.int .i64 0) := hB.cell 1
            have e2 : z.w1.cell? ⟨w.heap.size, 2, none⟩ = some (.int .i64 0) := hB.cell 2
            have e3 : z.w1.cell? ⟨w.heap.size, 3, none⟩ = some (.int .i64 0) := hB.cell 3
            have f0 := hB.frozen 0
            have f1 := hB.frozen 1
            have f2 := hB.frozen 2
            have f3 := hB.frozen 3
            clear hB
            have hbz := hbzz
            clear HK HFT
            cases o1 <;> cases o2 <;> cases o3
            all_goals
              first
                | exact (hall ⟨rfl, rfl, rfl⟩).elim
                | (clear hall
                   go_wp2
                   refine bodyPost_ret (v := .tuple #[.agg #[.int .i64 0, .int .i64 0, .int .i64 0, .int .i64 0], .bool false]) (by simp [results, Tryd.results26, go_sem, e0, e1, e2, e3]) rfl ⟨?_, .inr ⟨hno.out, rfl⟩⟩
                   exact (((hbz.setCell (by simp) _).setCell (by simp) _).setCell (by simp) _).setCell (by simp) _)

  · have hno : Hid (∀ k b p pw, ¬ FogOf s k b p pw) := Lib.hid (fun k b p pw h => h3 (by rw [fog_words h]; rfl))
    have hl3 : (((nonB (pieces 32 s)).length : Int) == 3) = false := by rw [beq_eq_false_iff_ne]; omega
    have hlen : (nonB (pieces 32 s)).length ≤ 1048577 := Nat.le_trans (nonB_len _) (Nat.le_trans (pieces_count 32 s) (by omega))
    generalize nonB (pieces 32 s) = ps at *
    go_enter Tryd.func26, Tryd.ntmps26
    go_wp2_with fail
    refine HSp.out.mono ?_
    rintro e w1 ⟨v, rfl, hown, hb1⟩
    obtain ⟨AA, cp, rfl⟩ : ∃ AA cp, v = .slice AA ps.length cp := by
      rcases Go.Joins.ownsRow_forms hown with ⟨h0, h1⟩ | ⟨g, c, h0⟩
      · exact ⟨none, 0, by rw [h1]; exact h0⟩
      · exact ⟨_, _, h0⟩
    have hB := HB0.out.below hb1
    have e0 : w1.cell? ⟨w.heap.size, 0, none⟩ = some (.int .i64 0) := hB.cell 0
    have e1 : w1.cell? ⟨w.heap.size, 1, none⟩ = some (.int .i64 0) := hB.cell 1
    have e2 : w1.cell? ⟨w.heap.size, 2, none⟩ = some (.int .i64 0) := hB.cell 2
    have e3 : w1.cell? ⟨w.heap.size, 3, none⟩ = some (.int .i64 0) := hB.cell 3
    have f0 := hB.frozen 0
    have f1 := hB.frozen 1
    have f2 := hB.frozen 2
    have f3 := hB.frozen 3
    clear hB
    have hbz := held_next hbW0 hb1
    clear hown
    go_wp2
    refine bodyPost_ret (v := .tuple #[.agg #[.int .i64 0, .int .i64 0, .int .i64 0, .int .i64 0], .bool false]) (by simp [results, Tryd.results26, go_sem, e0, e1, e2, e3]) rfl ⟨?_, .inr ⟨hno.out, rfl⟩⟩
    exact (((hbz.setCell (by simp) _).setCell (by simp) _).setCell (by simp) _).setCell (by simp) _
end Go.Proofs.YtimfpnmcdicldaaDoor
