/- slices.Reverse at points; the program's ReverseChannel. -/
import Derived.Test.YtfmljppofkocmaaRev
import Derived.BigRegion
namespace Go.Proofs.Ytfmljppofkocmaa
open Go Go.RowKit
def turned (p q n : Nat) (X : Nat → Int) (i : Nat) : Int := if i < p ∨ q < i then X (n - 1 - i) else X i
set_option maxRecDepth 100000 in
set_option maxHeartbeats 8000000 in
theorem revPoints_c (g n c : Nat) (base : Nat) (X Y : Nat → Int) (w : World) (h1 : 1 ≤ n) (hn : n ≤ 1048576) (h : SO w base 73 2 (.slice (some ⟨g, 0, none⟩) n c) n (vPoint X Y)) :
    Calls Try.prog 98 #[.slice (some ⟨g, 0, none⟩) n c] w fun e w' => e = .returned (.tuple #[]) ∧ SO w' base 73 2 (.slice (some ⟨g, 0, none⟩) n c) n (vPoint (fun i => X (n - 1 - i)) (fun i => Y (n - 1 - i))) ∧ w.grownBy w' (some g) := by
  go_enter Try.func98, Try.ntmps98
  go_wp2
  go_loopw [2, 3] (fun i j wr => ∃ (p q : Nat) (xs : List Value), p + q + 1 = n ∧ i = .int .i64 p ∧ j = .int .i64 q ∧ wr.ownsRow base 73 2 (.slice (some ⟨g, 0, none⟩) n c) n xs ∧
      Hid (∀ i, i < n → ∀ c, c < 2 → xs[i * 2 + c]? = some (vPoint (turned p q n X) (turned p q n Y) i c)) ∧ w.grownBy wr (some g)) (fun i _ _ => n - (intOf i).toNat)
  case atStart =>
    obtain ⟨xs, hown, hxs⟩ := h
    refine ⟨0, n - 1, xs, by omega, rfl, ?_, hown, Lib.hid (fun i hi c hc => ?_), World.grownBy.refl w _⟩
    · congr 1; omega
    · rw [hxs i hi c hc]
      have e : ¬ (i < 0 ∨ n - 1 < i) := by omega
      unfold vPoint turned
      rw [if_neg e, if_neg e]
  case round =>
    obtain ⟨p, q, xs, hpq, rfl, rfl, hown, hxs, hgr⟩ := hrel
    by_cases hlt : p < q
    · have hlen : xs.length = n * 2 := hown.1
      have x0 : xs[p * 2]? = some (.int .i64 (X p)) := by
        have := hxs.out p (by omega) 0 (by omega)
        simpa [vPoint, turned, show ¬ (q < p) by omega] using this
      have x1 : xs[p * 2 + 1]? = some (.int .i64 (Y p)) := by
        have := hxs.out p (by omega) 1 (by omega)
        simpa [vPoint, turned, show ¬ (q < p) by omega] using this
      have x2 : xs[q * 2]? = some (.int .i64 (X q)) := by
        have := hxs.out q (by omega) 0 (by omega)
        simpa [vPoint, turned, show ¬ (q < p) by omega] using this
      have x3 : xs[q * 2 + 1]? = some (.int .i64 (Y q)) := by
        have := hxs.out q (by omega) 1 (by omega)
        simpa [vPoint, turned, show ¬ (q < p) by omega] using this
      have c0 : wr.cell? ⟨g, p * 2, none⟩ = some (.int .i64 (X p)) := (hown.cellAt _ (by omega)).trans x0
      have c1 : wr.cell? ⟨g, p * 2 + 1, none⟩ = some (.int .i64 (Y p)) := (hown.cellAt _ (by omega)).trans x1
      have c2 : wr.cell? ⟨g, q * 2, none⟩ = some (.int .i64 (X q)) := (hown.cellAt _ (by omega)).trans x2
      have c3 : wr.cell? ⟨g, q * 2 + 1, none⟩ = some (.int .i64 (Y q)) := (hown.cellAt _ (by omega)).trans x3
      have f0 := hown.frozenAt (p * 2)
      have f1 := hown.frozenAt (p * 2 + 1)
      have f2 := hown.frozenAt (q * 2)
      have f3 := hown.frozenAt (q * 2 + 1)
      have i0 : (0 : Int) ≤ (p : Int) := by omega
      have i1 : (p : Int) < (n : Int) := by omega
      have i2 : (0 : Int) ≤ (q : Int) := by omega
      have i3 : (q : Int) < (n : Int) := by omega
      have n0 : ¬ p * 2 = q * 2 := by omega
      have n1 : ¬ p * 2 = q * 2 + 1 := by omega
      have n2 : ¬ p * 2 + 1 = q * 2 := by omega
      have n3 : ¬ q * 2 = p * 2 := by omega
      have n4 : ¬ q * 2 = p * 2 + 1 := by omega
      have n5 : ¬ q * 2 + 1 = p * 2 := by omega
      have n6 : ¬ p = q := by omega
      have n7 : ¬ q = p := by omega
      have HO := Lib.hid hown
      have HG := Lib.hid hgr
      have HP := Lib.hid hpq
      clear hown hgr x0 x1 x2 x3 hpq hlen h
      go_wp2
      go_region
      go_wp2
      go_roundw
      case rel =>
        have hpq := HP.out
        have hl : xs.length = n * 2 := HO.out.1
        obtain ⟨o1, t1⟩ := HO.out.stored (p * 2) (.int .i64 (X q))
        obtain ⟨o2, t2⟩ := o1.stored (p * 2 + 1) (.int .i64 (Y q))
        obtain ⟨o3, t3⟩ := o2.stored (q * 2) (.int .i64 (X p))
        obtain ⟨o4, t4⟩ := o3.stored (q * 2 + 1) (.int .i64 (Y p))
        have hg5 := grown_trans (grown_trans (grown_trans (grown_trans HG.out t1) t2) t3) t4
        refine ⟨p + 1, q - 1, _, by omega, by go_num, by congr 1; omega, o4.drew, Lib.hid (fun i hi c hc => ?_), ⟨hg5.os, hg5.tape, hg5.output, hg5.size, hg5.block⟩⟩
        have hcc : c = 0 ∨ c = 1 := by omega
        by_cases ep : i = p
        · subst ep
          have e2 : n - 1 - i = q := by omega
          rcases hcc with rfl | rfl
          · refine (set_other (set_other (set_other (set_here (by omega)) (by omega)) (by omega)) (by omega) : _ = some (Value.int .i64 (X q))).trans ?_
            simp [vPoint, turned, e2]
          · refine (set_other (set_other (set_here (by simp only [List.length_set]; omega)) (by omega)) (by omega) : _ = some (Value.int .i64 (Y q))).trans ?_
            simp [vPoint, turned, e2]
        · by_cases eq : i = q
          · subst eq
            have e2 : n - 1 - i = p := by omega
            have e3 : i - 1 < i := by omega
            rcases hcc with rfl | rfl
            · refine (set_other (set_here (by simp only [List.length_set]; omega)) (by omega) : _ = some (Value.int .i64 (X p))).trans ?_
              simp [vPoint, turned, e2, e3]
            · refine (set_here (by simp only [List.length_set]; omega) : _ = some (Value.int .i64 (Y p))).trans ?_
              simp [vPoint, turned, e2, e3]
          · refine (set_other (set_other (set_other (set_other (hxs.out i hi c hc) (by omega)) (by omega)) (by omega)) (by omega)).trans ?_
            have e4 : (i < p ∨ q < i) ↔ (i < p + 1 ∨ q - 1 < i) := by omega
            simp only [vPoint, turned, e4]
      case measure => simp [intOf]; omega
    · go_wp2
      go_end0
      refine ⟨rfl, ⟨xs, hown, fun i hi j hj => ?_⟩, hgr⟩
      rw [hxs.out i hi j hj]
      have e : ∀ Z : Nat → Int, turned p q n Z i = Z (n - 1 - i) := by
        intro Z
        unfold turned
        split
        · rfl
        · have : n - 1 - i = i := by omega
          rw [this]
      simp only [vPoint, e]
set_option maxHeartbeats 2000000 in
theorem implRev_no (nm : ByteArray) (A : Option Addr) (n cap : Nat) (wd : Int) (X Y : Nat → Int) (w : World) (hs : nm.size ≤ maxLen) (hn : n ≤ 1048576) (hv : okChan nm n X Y wd = false) (hR : Rec 2 w A n (vPoint X Y)) :
    Calls Try.prog 52 #[.agg #[.string nm, .slice A n cap, .int .i64 wd]] w fun e w' => e = .returned (.tuple #[.agg #[.string ⟨#[]⟩, .slice none 0 0, .int .i64 0], .int .i64 1]) ∧ Below w.heap.size w w' := by
  go_enter Try.func52, Try.ntmps52
  go_wp2_with fail
  refine (validChannel_c nm A n cap wd X Y _ hs hn (hR.below (by repeat (first | exact Below.refl _ _ | refine Below.alloc ?_ (by simp; try omega) _ | refine Below.drew ?_)))).mono ?_
  rintro e w1 ⟨rfl, hb1⟩
  rw [hv]
  obtain ⟨hc, hf⟩ := bcell hb1
  have hz := hb1.size
  simp at hz
  go_wp2
  refine bodyPost_ret (v := .tuple #[.agg #[.string ⟨#[]⟩, .slice none 0 0, .int .i64 0], .int .i64 1]) (by simp [results, Try.results52, go_sem, hc]) rfl ⟨rfl, ?_⟩
  repeat refine Below.setCell ?_ (by simp; try omega) _
  exact below_box (below_box hb1)
set_option maxHeartbeats 4000000 in
theorem implRev_yes (nm : ByteArray) (A : Option Addr) (n cap : Nat) (wd : Int) (X Y : Nat → Int) (w : World) (hs : nm.size ≤ maxLen) (hn : n ≤ 1048576) (hv : okChan nm n X Y wd = true) (hR : Rec 2 w A n (vPoint X Y)) :
    Calls Try.prog 52 #[.agg #[.string nm, .slice A n cap, .int .i64 wd]] w fun e w' => ∃ B c, e = .returned (.tuple #[.agg #[.string nm, .slice B n c, .int .i64 wd], .int .i64 0]) ∧ SO w' w.heap.size 73 2 (.slice B n c) n (vPoint (fun i => X (n - 1 - i)) (fun i => Y (n - 1 - i))) ∧ Below w.heap.size w w' := by
  obtain ⟨ok, n2, n12, _, _⟩ := okChan_yes hv
  go_enter Try.func52, Try.ntmps52
  go_wp2_with fail
  refine (validChannel_c nm A n cap wd X Y _ hs hn (hR.below (by repeat (first | exact Below.refl _ _ | refine Below.alloc ?_ (by simp; try omega) _ | refine Below.drew ?_)))).mono ?_
  rintro e w1 ⟨rfl, hb1⟩
  rw [hv]
  have hbw := below_box (below_box hb1)
  obtain ⟨hc, hf⟩ := bcell hb1
  have hz := hb1.size
  simp at hz
  have c0 : w1.cell? ⟨w.heap.size, 0, none⟩ = some (.string nm) := (hc _ _ (by simp; omega)).trans (by simp [go_sem])
  have c1 : w1.cell? ⟨w.heap.size, 1, none⟩ = some (.slice A n cap) := (hc _ _ (by simp; omega)).trans (by simp [go_sem])
  have c2 : w1.cell? ⟨w.heap.size, 2, none⟩ = some (.int .i64 wd) := (hc _ _ (by simp; omega)).trans (by simp [go_sem])
  have r0 : ∀ j, j < 3 → ∃ u, w1.cell? ⟨w.heap.size + 1, j, none⟩ = some u := by
    intro j hj
    rw [hc _ _ (by simp)]
    match j, hj with
    | 0, _ => exact ⟨_, by simp [go_sem]; rfl⟩
    | 1, _ => exact ⟨_, by simp [go_sem]; rfl⟩
    | 2, _ => exact ⟨_, by simp [go_sem]; rfl⟩
  have f0 : ∀ j, w1.frozen? ⟨w.heap.size + 1, j, none⟩ = false := by
    intro j
    rw [hf _ _ (by simp)]
    simp [go_sem]
  obtain ⟨u0, t0⟩ := r0 0 (by omega)
  obtain ⟨u1, t1⟩ := r0 1 (by omega)
  obtain ⟨u2, t2⟩ := r0 2 (by omega)
  clear hc hf hv r0
  go_wp2_with fail
  refine (clonePoint_c A n cap X Y _ hn (by omega) (hR.below hbw)).mono ?_
  rintro e w2 ⟨g, c, rfl, hS, hb2⟩
  have hg := (hS.lt g rfl).1
  go_wp2_with fail
  refine (revPoints_c g n c w1.heap.size X Y _ (by omega) hn hS).mono ?_
  rintro e w3 ⟨rfl, hS3, hg3⟩
  have far : ∀ b i, b < w1.heap.size → w3.cell? ⟨b, i, none⟩ = w1.cell? ⟨b, i, none⟩ := fun b i hlt =>
    (World.cell?_of_block (hg3.block b (Nat.lt_of_lt_of_le hlt hb2.size) (by simp; omega))).trans (hb2.cell (p := ⟨b, i, none⟩) hlt)
  have farF : ∀ b i, b < w1.heap.size → w3.frozen? ⟨b, i, none⟩ = w1.frozen? ⟨b, i, none⟩ := fun b i hlt =>
    (World.frozen?_of_block (hg3.block b (Nat.lt_of_lt_of_le hlt hb2.size) (by simp; omega))).trans (hb2.frozen (p := ⟨b, i, none⟩) hlt)
  have c0' := (far _ 0 (cell_lt c0)).trans c0
  have c1' := (far _ 1 (cell_lt c1)).trans c1
  have c2' := (far _ 2 (cell_lt c2)).trans c2
  have t0' := (far _ 0 (cell_lt t0)).trans t0
  have t1' := (far _ 1 (cell_lt t1)).trans t1
  have t2' := (far _ 2 (cell_lt t2)).trans t2
  have g0 := (farF _ 0 (cell_lt t0)).trans (f0 0)
  have g1 := (farF _ 1 (cell_lt t1)).trans (f0 1)
  have g2 := (farF _ 2 (cell_lt t2)).trans (f0 2)
  have hbf : Below w.heap.size w w3 := grown_below (held_next hbw hb2) hg3 (fun k hk => by cases hk; have := hbw.size; omega)
  have HS := Lib.hid hS3
  clear far farF c0 c1 c2 t0 t1 t2 f0 hS hb1 hg3 hS3
  go_wp2
  refine bodyPost_ret (v := .tuple #[.agg #[.string nm, .slice (some ⟨g, 0, none⟩) n c, .int .i64 wd], .int .i64 0]) (by simp [results, Try.results52, go_sem, t0', t1', t2']) rfl ⟨some ⟨g, 0, none⟩, c, rfl, ?_, ?_⟩
  · obtain ⟨xs, h1, h2⟩ := HS.out
    refine SO.mono (base := w1.heap.size) ⟨xs, ?_, h2⟩ hbw.size
    exact own_far (own_far (own_far h1 (by simp; omega) _) (by simp; omega) _) (by simp; omega) _
  · repeat refine Below.setCell ?_ (by simp; try omega) _
    exact hbf
end Go.Proofs.Ytfmljppofkocmaa
