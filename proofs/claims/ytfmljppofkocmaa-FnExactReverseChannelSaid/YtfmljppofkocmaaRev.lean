/- A channel turned round: the program and the reference. -/
import Derived.Test.YtfmljppofkocmaaChLen
import Derived.Test.YtfmljppofkocmaaQMix
import Derived.Deep.AppendLies
namespace Go.Proofs.Ytfmljppofkocmaa
open Go Go.RowKit
attribute [local go_sem ↓] Go.wp_at_zero Go.wp_at_succ
/-- A block known whole. -/
def Blk (w : World) (g : Nat) (t : TypeId) (cs : Array Value) : Prop := w.heap[g]? = some (.cells cs t (0, 0))
theorem Blk.lt {w : World} {g : Nat} {t : TypeId} {cs : Array Value} (h : Blk w g t cs) : g < w.heap.size := by
  rcases Nat.lt_or_ge g w.heap.size with hlt | hge
  · exact hlt
  · unfold Blk at h; rw [Array.getElem?_eq_none hge] at h; cases h
theorem Blk.cell {w : World} {g : Nat} {t : TypeId} {cs : Array Value} (h : Blk w g t cs) (i : Nat) : w.cell? ⟨g, i, none⟩ = cs[i]? := by
  unfold Blk at h
  simp [World.cell?, h]
theorem Blk.frozen {w : World} {g : Nat} {t : TypeId} {cs : Array Value} (h : Blk w g t cs) (i : Nat) : w.frozen? ⟨g, i, none⟩ = false := by
  unfold Blk at h
  simp [World.frozen?, h]
theorem Blk.set_ {w : World} {g : Nat} {t : TypeId} {cs : Array Value} (h : Blk w g t cs) (i : Nat) (u : Value) : Blk (w.setCell ⟨g, i, none⟩ u) g t (cs.setIfInBounds i u) := by
  unfold Blk at h ⊢
  simp [World.setCell, Array.getElem?_modify, h]
theorem Blk.below {w w' : World} {g : Nat} {t : TypeId} {cs : Array Value} (h : Blk w g t cs) (hb : Below w.heap.size w w') : Blk w' g t cs := (hb.block g h.lt).trans h
theorem Blk.grown {w w' : World} {g : Nat} {t : TypeId} {cs : Array Value} {row : Option Nat} (h : Blk w g t cs) (hb : w.grownBy w' row) (hg : some g ≠ row) : Blk w' g t cs := (hb.block g h.lt hg).trans h
theorem Blk.new (w : World) (t : TypeId) (cs : Array Value) : Blk (w.alloc (.cells cs t)) w.heap.size t cs := heap_alloc_new w _
theorem only_set {a w : World} {g : Nat} (h : a.grownBy w (some g)) {p : Addr} (hp : p.block = g ∨ a.heap.size ≤ p.block) (u : Value) : a.grownBy (w.setCell p u) (some g) :=
  ⟨h.os, h.tape, h.output, by simpa [World.setCell] using h.size, fun i hi hne => (Below.heap_setCell w p u i (by
    rintro rfl
    rcases hp with hp | hp
    · exact hne (by rw [hp])
    · omega)).trans (h.block i hi hne)⟩
theorem only_below {a w w' : World} {g : Nat} (h : a.grownBy w (some g)) (hb : Below w.heap.size w w') : a.grownBy w' (some g) :=
  ⟨hb.os.trans h.os, hb.tape.trans h.tape, hb.output.trans h.output, Nat.le_trans h.size hb.size, fun i hi hne => (hb.block i (Nat.lt_of_lt_of_le hi h.size)).trans (h.block i hi hne)⟩
theorem only_grown {a w w' : World} {g : Nat} {row : Option Nat} (h : a.grownBy w (some g)) (hb : w.grownBy w' row) (hr : ∀ k, row = some k → a.heap.size ≤ k) : a.grownBy w' (some g) :=
  ⟨hb.os.trans h.os, hb.tape.trans h.tape, hb.output.trans h.output, Nat.le_trans h.size hb.size, fun i hi hne => (hb.block i (Nat.lt_of_lt_of_le hi h.size) (fun e => by have := hr _ e.symm; omega)).trans (h.block i hi hne)⟩
set_option maxRecDepth 100000 in
set_option maxHeartbeats 4000000 in
theorem specRev_yes (nm : ByteArray) (A : Option Addr) (n cap : Nat) (wd : Int) (X Y : Nat → Int) (w : World) (hs : nm.size ≤ maxLen) (hn : n ≤ 1048576) (hv : okChan nm n X Y wd = true) (hR : Rec 2 w A n (vPoint X Y)) :
    Calls Try.prog 51 #[.agg #[.string nm, .slice A n cap, .int .i64 wd]] w fun e w' => ∃ B c, e = .returned (.tuple #[.agg #[.string nm, .slice B n c, .int .i64 wd], .int .i64 0]) ∧ SO w' w.heap.size 73 2 (.slice B n c) n (fun i => vPoint X Y (n - 1 - i)) ∧ Below w.heap.size w w' := by
  obtain ⟨i0, hi0, hz0, hz1, hz2⟩ := info_parts infoPoint
  go_enter Try.func51, Try.ntmps51
  go_wp2_with fail
  refine (l13Ok_c _ nm A n cap wd X Y _ hs hn (hR.below (by repeat (first | exact Below.refl _ _ | refine Below.alloc ?_ (by simp; try omega) _ | refine Below.drew ?_))) (by simp [go_sem]) (by simp [go_sem]) (by simp [go_sem])).mono ?_
  rintro e w1 ⟨rfl, hb1⟩
  rw [hv]
  have hvv := Lib.hid hv
  obtain ⟨hc, hf⟩ := bcell hb1
  have hz := hb1.size
  simp at hz
  have hbw := below_box (below_box hb1)
  have c0 : w1.cell? ⟨w.heap.size, 0, none⟩ = some (.string nm) := (hc _ _ (by simp; omega)).trans (by simp [go_sem])
  have c1 : w1.cell? ⟨w.heap.size, 1, none⟩ = some (.slice A n cap) := (hc _ _ (by simp; omega)).trans (by simp [go_sem])
  have c2 : w1.cell? ⟨w.heap.size, 2, none⟩ = some (.int .i64 wd) := (hc _ _ (by simp; omega)).trans (by simp [go_sem])
  have r0 : ∀ j, j < 3 → ∃ u, w1.cell? ⟨w.heap.size + 1, j, none⟩ = some u := by
    intro j hj
    rw [hc _ _ (by simp)]
    match j, hj with
    | 0, _ => exact ⟨_, by simp [go_sem]; rfl⟩
    | 1, _ => exact ⟨_, by simp [go_sem]; rfl⟩
    | 2, _ => exact ⟨_, by simp [go_sem]; rfl⟩
  have f0 : ∀ j, w1.frozen? ⟨w.heap.size + 1, j, none⟩ = false := by
    intro j
    rw [hf _ _ (by simp)]
    simp [go_sem]
  have a1 : ∀ o, (w1.alloc o).cell? ⟨w.heap.size, 1, none⟩ = some (.slice A n cap) := fun o => (cell_past (cell_lt c1) o 1).trans c1
  clear hc hf hv
  obtain ⟨ok, n2, n12, _, _⟩ := okChan_yes hvv.out
  go_wp2
  generalize hW : w1.alloc (.cells #[.string nm, .slice none 0 0, .int .i64 wd] 47) = W at *
  have hbW : Below w1.heap.size w1 W := hW ▸ (by repeat (first | exact Below.refl _ _ | refine Below.alloc ?_ (by simp; try omega) _ | refine Below.drew ?_))
  have hB0 : Blk W w1.heap.size 47 #[.string nm, .slice none 0 0, .int .i64 wd] := hW ▸ Blk.new w1 _ _
  have d1 := a1 (.cells #[.string nm, .slice none 0 0, .int .i64 wd] 47)
  rw [hW] at d1
  have lR : ∀ j, j < 3 → ∃ u, W.cell? ⟨w.heap.size + 1, j, none⟩ = some u := by
    intro j hj
    obtain ⟨u, hu⟩ := r0 j hj
    exact ⟨u, (hbW.cell (p := ⟨w.heap.size + 1, j, none⟩) (cell_lt hu)).trans hu⟩
  have lF : ∀ j, W.frozen? ⟨w.heap.size + 1, j, none⟩ = false := by
    intro j
    exact (hbW.frozen (p := ⟨w.heap.size + 1, j, none⟩) (by show w.heap.size + 1 < w1.heap.size; omega)).trans (f0 j)
  have hbw2 := held_next hbw hbW
  have hgB : w.heap.size + 1 < w1.heap.size := by omega
  have hgW : w1.heap.size < W.heap.size := hB0.lt
  generalize w1.heap.size = gB at *
  clear hW a1 r0 f0 c0 c1 c2 hb1 hbW
  have HlR := Lib.hid lR
  have HlF := Lib.hid lF
  clear lR lF
  go_loopw [5] (fun i wr => ∃ (k j : Nat) (v : Value) (xs : List Value), k + j = n ∧ i = .int .i64 ((j : Int) - 1) ∧ wr.ownsRow W.heap.size 73 2 v k xs ∧
      Hid (∀ i, i < k → ∀ c, c < 2 → xs[i * 2 + c]? = some (vPoint X Y (n - 1 - i) c)) ∧ Blk wr gB 47 #[.string nm, v, .int .i64 wd] ∧ W.grownBy wr (some gB)) (fun i _ => (intOf i + 1).toNat)
  case atStart => exact ⟨0, n, _, [], by omega, rfl, ⟨by simp, .inl ⟨rfl, rfl⟩⟩, Lib.hid (fun i hi => by omega), hB0, World.grownBy.refl W _⟩
  case round =>
    obtain ⟨k, j, v, xs, hkj, rfl, hown, hxs, hB, hgr⟩ := hrel
    have e1 : wr.cell? ⟨w.heap.size, 1, none⟩ = some (.slice A n cap) := (World.cell?_of_block (hgr.block _ (cell_lt d1) (by simp; omega))).trans d1
    have b1 : ∀ x : Aft wr, x.w1.cell? ⟨gB, 1, none⟩ = some v := fun x => x.cell hB.lt (hB.cell 1)
    have k1 : ∀ x : Aft wr, x.w1.cell? ⟨w.heap.size, 1, none⟩ = some (.slice A n cap) := fun x => x.cell (cell_lt e1) e1
    rcases Nat.eq_zero_or_pos j with h0 | h0
    · subst h0
      obtain rfl : k = n := by omega
      have sB0 : wr.cell? ⟨gB, 0, none⟩ = some (.string nm) := hB.cell 0
      have sB1 : wr.cell? ⟨gB, 1, none⟩ = some v := hB.cell 1
      have sB2 : wr.cell? ⟨gB, 2, none⟩ = some (.int .i64 wd) := hB.cell 2
      have tR : ∀ j, j < 3 → ∃ u, wr.cell? ⟨w.heap.size + 1, j, none⟩ = some u := fun j hj => by
        obtain ⟨u, hu⟩ := HlR.out j hj
        exact ⟨u, (World.cell?_of_block (hgr.block _ (cell_lt hu) (by simp; omega))).trans hu⟩
      obtain ⟨u0, t0⟩ := tR 0 (by omega)
      obtain ⟨u1, t1⟩ := tR 1 (by omega)
      obtain ⟨u2, t2⟩ := tR 2 (by omega)
      have tF : ∀ j, wr.frozen? ⟨w.heap.size + 1, j, none⟩ = false := fun j => (World.frozen?_of_block (hgr.block _ (by show w.heap.size + 1 < W.heap.size; omega) (by simp; omega))).trans (HlF.out j)
      obtain ⟨g', c', rfl⟩ := Go.Joins.ownsRow_form hown (by omega)
      have HO := Lib.hid hown
      have HG := Lib.hid hgr
      clear hown hgr hB tR b1 k1 e1 d1 hR hkj
      go_wp2
      refine bodyPost_ret (v := .tuple #[.agg #[.string nm, .slice (some ⟨g', 0, none⟩) k c', .int .i64 wd], .int .i64 0]) (by simp [results, Try.results51, go_sem, t0, t1, t2]) rfl ⟨some ⟨g', 0, none⟩, c', rfl, ?_, ?_⟩
      · have hlt := (HO.out.lt g' rfl).1
        have hbs := hbw2.size
        refine SO.mono (base := W.heap.size) ⟨xs, ?_, hxs.out⟩ hbs
        exact own_far (own_far (own_far HO.out (by simp; omega) _) (by simp; omega) _) (by simp; omega) _
      · repeat refine Below.setCell ?_ (by simp; try omega) _
        exact grown_below hbw2 HG.out (fun k hk => by cases hk; omega)
    · obtain ⟨q, rfl⟩ : ∃ q, j = q + 1 := ⟨j - 1, by omega⟩
      obtain ⟨b, o, hi⟩ := hR
      obtain ⟨rfl, hc⟩ := hi q (by omega)
      have p0 : w.cell? ⟨b, o + q * 2, none⟩ = some (.int .i64 (X q)) := by simpa [vPoint, Nat.add_assoc] using hc 0 (by omega)
      have p1 : w.cell? ⟨b, o + q * 2 + 1, none⟩ = some (.int .i64 (Y q)) := by simpa [vPoint, Nat.add_assoc] using hc 1 (by omega)
      have hbl : b < w.heap.size := cell_lt p0
      have hfar : ∀ i, wr.cell? ⟨b, i, none⟩ = w.cell? ⟨b, i, none⟩ := fun i =>
        (World.cell?_of_block (hgr.block _ (show b < W.heap.size by omega) (by simp; omega))).trans (hbw2.cell (p := ⟨b, i, none⟩) hbl)
      have m0 : ∀ x : Aft wr, x.w1.cell? ⟨b, o + q * 2, none⟩ = some (.int .i64 (X q)) := fun x => x.cell (cell_lt ((hfar _).trans p0)) ((hfar _).trans p0)
      have m1 : ∀ x : Aft wr, x.w1.cell? ⟨b, o + q * 2 + 1, none⟩ = some (.int .i64 (Y q)) := fun x => x.cell (cell_lt ((hfar _).trans p1)) ((hfar _).trans p1)
      have hq0 : (0 : Int) ≤ (q : Int) := by omega
      have hq1 : (q : Int) < (n : Int) := by omega
      rw [show (((q + 1 : Nat) : Int) - 1) = (q : Int) by omega]
      have HO := Lib.hid hown
      have HB := Lib.hid hB
      have HG := Lib.hid hgr
      have HE := Lib.hid hkj
      clear hc hi hfar p0 p1 hown hB hgr hkj e1 d1
      go_wp2
      refine wp_region_mix (C := fun w' => ∃ x : Aft wr, w' = x.w1) [true, true, true, true, true, true, true, false] (by kernel_rfl) (by kernel_rfl) (fun _ _ d _ _ h => by cases d <;> exact h) ⟨⟨_, (Below.refl wr.heap.size wr).drew⟩, rfl⟩ ?_
      iterate 7 (refine mix_look _ rfl (by rintro _ ⟨x, rfl⟩; go_simp; rfl) ?_; go_simp)
      refine mix_alone rfl ?_
      go_simp
      refine ⟨⟨⟨_, ((Below.refl wr.heap.size wr).drew).alloc (by simp) _⟩, rfl⟩, ?_⟩
      simp only [wpMix]
      have hOW := (HO.out.alloc (.cells #[.int .i64 (X q), .int .i64 (Y q)] 73)).drew
      have hEE := HE.out
      have hbase : W.heap.size ≤ ((wr.alloc (.cells #[.int .i64 (X q), .int .i64 (Y q)] 73)).drew).heap.size := by
        have := HG.out.size
        simp
        omega
      go_wp2_with (at_builtin; refine wpList_append_own _ rfl _ _ 45 rfl W.heap.size 73 i0 _ 2 16 Try.underlying45 hi0 hz0 hz1 hz2 rfl (by decide) v k xs rfl hOW ⟨wr.heap.size, 0, none⟩ 1 1 [.int .i64 (X q), .int .i64 (Y q)] rfl rfl (World.news_of_block (cs := #[.int .i64 (X q), .int .i64 (Y q)]) (t := 73) (fr := (0, 0)) (heap_alloc_new wr _)) (by simp [Value.oneCell']) (by unfold maxLen; omega) (by omega) hbase ?_)
      intro v' w2 hown2 hgrow _
      have hvb : ∀ g, v.ownBlock = some g → W.heap.size ≤ g := fun g hg => (HO.out.lt g hg).1
      have hB2 : Blk w2 gB 47 #[.string nm, v, .int .i64 wd] := by
        refine Blk.grown (w := (wr.alloc (.cells #[.int .i64 (X q), .int .i64 (Y q)] 73)).drew) ?_ hgrow (fun e => by have := hvb _ e.symm; omega)
        exact HB.out.below (Below.drew (by repeat (first | exact Below.refl _ _ | refine Below.alloc ?_ (by simp; try omega) _ | refine Below.drew ?_)))
      have hG2 : W.grownBy w2 (some gB) := only_grown (only_below HG.out (Below.drew (by repeat (first | exact Below.refl _ _ | refine Below.alloc ?_ (by simp; try omega) _ | refine Below.drew ?_)))) hgrow hvb
      obtain ⟨g', c', rfl⟩ := Go.Joins.ownsRow_form hown2 (by omega)
      have s0 : w2.cell? ⟨gB, 1, none⟩ = some v := hB2.cell 1
      have s1 : w2.frozen? ⟨gB, 1, none⟩ = false := hB2.frozen 1
      have HO2 := Lib.hid hown2
      have HB2 := Lib.hid hB2
      have HG2 := Lib.hid hG2
      clear hown2 hgrow hB2 hG2 hOW hEE hvb
      go_wp2
      go_roundw
      case rel =>
        have hEE := HE.out
        have hl : xs.length = k * 2 := HO.out.1
        refine ⟨k + 1, q, _, xs ++ [.int .i64 (X q), .int .i64 (Y q)], by omega, rfl, ?_, Lib.hid (fun i hi c hc => ?_), HB2.out.set_ 1 _, only_set HG2.out (.inl rfl) _⟩
        · exact own_far HO2.out (fun e => by have := (HO2.out.lt g' rfl).1; simp at e; omega) _
        · by_cases e : i = k
          · subst e
            have e2 : n - 1 - i = q := by omega
            rw [e2]
            rcases (by omega : c = 0 ∨ c = 1) with rfl | rfl
            · rw [List.getElem?_append_right (by omega)]; simp [hl, vPoint]
            · rw [List.getElem?_append_right (by omega)]; simp [hl, vPoint]
          · rw [List.getElem?_append_left (by omega)]
            exact hxs.out i (by omega) c hc
      case measure => simp [intOf]
set_option maxHeartbeats 2000000 in
theorem specRev_no (nm : ByteArray) (A : Option Addr) (n cap : Nat) (wd : Int) (X Y : Nat → Int) (w : World) (hs : nm.size ≤ maxLen) (hn : n ≤ 1048576) (hv : okChan nm n X Y wd = false) (hR : Rec 2 w A n (vPoint X Y)) :
    Calls Try.prog 51 #[.agg #[.string nm, .slice A n cap, .int .i64 wd]] w fun e w' => e = .returned (.tuple #[.agg #[.string ⟨#[]⟩, .slice none 0 0, .int .i64 0], .int .i64 1]) ∧ Below w.heap.size w w' := by
  go_enter Try.func51, Try.ntmps51
  go_wp2_with fail
  refine (l13Ok_c _ nm A n cap wd X Y _ hs hn (hR.below (by repeat (first | exact Below.refl _ _ | refine Below.alloc ?_ (by simp; try omega) _ | refine Below.drew ?_))) (by simp [go_sem]) (by simp [go_sem]) (by simp [go_sem])).mono ?_
  rintro e w1 ⟨rfl, hb1⟩
  rw [hv]
  obtain ⟨hc, hf⟩ := bcell hb1
  have hz := hb1.size
  simp at hz
  go_wp2
  refine bodyPost_ret (v := .tuple #[.agg #[.string ⟨#[]⟩, .slice none 0 0, .int .i64 0], .int .i64 1]) (by simp [results, Try.results51, go_sem, hc]) rfl ⟨rfl, ?_⟩
  repeat refine Below.setCell ?_ (by simp; try omega) _
  exact below_box (below_box hb1)
/-- All cells of n records in one list. -/
def flatF (m n : Nat) (f : Nat → Nat → Value) : List Value := (List.range (n * m)).map (fun q => f (q / m) (q % m))
theorem flatF_len (m n : Nat) (f : Nat → Nat → Value) : (flatF m n f).length = n * m := by simp [flatF]
theorem flatF_at {m n i j : Nat} (f : Nat → Nat → Value) (hi : i < n) (hj : j < m) : (flatF m n f)[i * m + j]? = some (f i j) := by
  have h := idx_lt hi hj
  unfold flatF
  rw [List.getElem?_map, List.getElem?_range h]
  have e1 : (i * m + j) / m = i := by rw [Nat.add_comm, Nat.add_mul_div_right _ _ (by omega), Nat.div_eq_of_lt hj, Nat.zero_add]
  have e2 : (i * m + j) % m = j := by rw [Nat.add_comm, Nat.add_mul_mod_self_right, Nat.mod_eq_of_lt hj]
  simp [e1, e2]
set_option maxHeartbeats 2000000 in
theorem clonePoint_c (A : Option Addr) (n cap : Nat) (X Y : Nat → Int) (w : World) (hn : n ≤ 1048576) (h1 : 1 ≤ n) (hR : Rec 2 w A n (vPoint X Y)) :
    Calls Try.prog 97 #[.slice A n cap] w fun e w' => ∃ g c, e = .returned (.slice (some ⟨g, 0, none⟩) n c) ∧ SO w' w.heap.size 73 2 (.slice (some ⟨g, 0, none⟩) n c) n (vPoint X Y) ∧ Below w.heap.size w w' := by
  obtain ⟨i0, hi0, hz0, hz1, hz2⟩ := info_parts infoPoint
  obtain ⟨b, o, hi⟩ := hR
  obtain ⟨rfl, _⟩ := hi 0 (by omega)
  have hcell : ∀ j u, (flatF 2 n (vPoint X Y))[j]? = some u → w.cell? ⟨b, o + j, none⟩ = some u := by
    intro j u hu
    have hj : j < n * 2 := by
      have := (List.getElem?_eq_some_iff.1 hu).1
      rwa [flatF_len] at this
    have h2 := (hi (j / 2) (by omega)).2 (j % 2) (by omega)
    have e : j / 2 * 2 + j % 2 = j := by omega
    have h3 := flatF_at (m := 2) (n := n) (i := j / 2) (j := j % 2) (vPoint X Y) (by omega) (by omega)
    rw [e] at h2 h3
    rw [h3] at hu
    rw [h2, hu]
  have hbl : b < w.heap.size := by
    have := (hi 0 (by omega)).2 0 (by omega)
    exact cell_lt this
  clear hi
  go_enter Try.func97, Try.ntmps97
  go_wp2_with (at_make; refine wpList_make_own _ rfl _ _ 45 rfl w.heap.size 73 i0 _ 2 Try.underlying45 hi0 hz0 hz1 _ _ _ n rfl rfl rfl (by rw [hz2]; omega) (by unfold maxLen; omega) (by simp) ?_)
  intro w1 hown hgrow
  have hb1 : Below w.heap.size w w1 := (Below.refl _ _).grown hgrow (Nat.le_refl _) (by simp)
  go_wp2_with (at_builtin; refine wpList_append_own _ rfl _ _ 45 rfl w.heap.size 73 i0 _ 2 16 Try.underlying45 hi0 hz0 hz1 hz2 rfl (by decide) _ _ _ rfl hown ⟨b, o, none⟩ n _ (flatF 2 n (vPoint X Y)) rfl (flatF_len _ _ _) ?c1 ?c2 (by unfold maxLen; omega) (by omega) hb1.size ?_)
  case c1 =>
    intro j u hu
    rw [Addr.add_lit]
    exact (hb1.cell (p := ⟨b, o + j, none⟩) hbl).trans (hcell j u hu)
  case c2 =>
    intro u hu
    unfold flatF at hu
    obtain ⟨q, _, rfl⟩ := List.mem_map.1 hu
    unfold vPoint
    split <;> rfl
  intro v' w2 hown2 hgrow2 _
  go_wp2
  try simp only [Nat.zero_add, List.nil_append] at hown2
  obtain ⟨g', c', rfl⟩ := Go.Joins.ownsRow_form hown2 (by omega)
  go_ret
  exact ⟨g', c', rfl, ⟨_, hown2, fun i hi j hj => flatF_at _ hi hj⟩, hb1.grown hgrow2 hb1.size (fun k hk => (hown.lt k hk).1)⟩
end Go.Proofs.Ytfmljppofkocmaa
