/- The blasts of a fog signal: the program and the reference. -/
import Derived.Test.YtffdipcogkhkmaaPairs
import Derived.Deep.AppendLies
namespace Go.Proofs.Ytffdipcogkhkmaa
open Go Go.RowKit
theorem infoPair : (Try.prog.info? 49).map (fun i => (i.zero, i.size, i.bytes)) = some (some (.slice none 0 0), 1, 24) := by kernel_rfl
theorem own_type_ne {w : World} {base base2 es et m m2 n n2 g c : Nat} {v : Value} {xs ys : List Value} (h : w.ownsRow base es m v n xs) (h2 : w.ownsRow base2 et m2 (.slice (some ⟨g, 0, none⟩) n2 c) n2 ys) (hne : es ≠ et) : v.ownBlock ≠ some g := by
  rcases h.2 with ⟨rfl, _⟩ | ⟨g', cap', cur, rfl, _, hh, _⟩
  · simp [Value.ownBlock]
  · intro he
    have e : g' = g := by simpa [Value.ownBlock] using he
    subst e
    rcases h2.2 with ⟨h0, _⟩ | ⟨g'', cap'', cur', h0, _, hh', _⟩
    · cases h0
    · injection h0 with h0 _ _
      injection h0 with h0
      injection h0 with h0 _ _
      subst h0
      rw [hh] at hh'
      injection hh' with hh'
      injection hh' with _ ht
      exact hne ht
/-- One pair more. -/
theorem Pairs.push {w0 wr w1 w2 : World} {es et n B : Nat} {v v' : Value} {xs : List Value} {P Q : Nat → Int} {f : Nat → Nat}
    (hown : wr.ownsRow w0.heap.size es 1 v n xs) (hx : ∀ i, i < n → xs[i]? = some (.slice (some ⟨f i, 0, none⟩) 2 2))
    (hr : ∀ i, i < n → SO wr w0.heap.size et 1 (.slice (some ⟨f i, 0, none⟩) 2 2) 2 (nuF (two (P i) (Q i)))) (hd : ∀ i j, i < n → j < n → i ≠ j → f i ≠ f j)
    (hb : Below wr.heap.size wr w1) (hB : wr.heap.size ≤ B) (hnew : SO w1 w0.heap.size et 1 (.slice (some ⟨B, 0, none⟩) 2 2) 2 (nuF (two (P n) (Q n))))
    (hown2 : w2.ownsRow w0.heap.size es 1 v' (n + 1) (xs ++ [.slice (some ⟨B, 0, none⟩) 2 2])) (hg : w1.grownBy w2 v.ownBlock) (hne : es ≠ et) (hl : xs.length = n) :
    Pairs w2 w0.heap.size es et v' (n + 1) P Q := by
  refine ⟨fun i => if i = n then B else f i, _, hown2, fun i hi => ?_, fun i hi => ?_, fun i j hi hj hij => ?_⟩
  · by_cases e : i = n
    · subst e
      rw [List.getElem?_append_right (by omega)]
      simp [hl]
    · rw [List.getElem?_append_left (by omega), hx i (by omega)]
      simp [e]
  · have hown1 := own_below hown hb
    by_cases e : i = n
    · subst e
      simp only [if_true]
      obtain ⟨ys, hy, hy2⟩ := hnew
      exact SO.far ⟨ys, hy, hy2⟩ hg (.inr (by have := own_type_ne hown1 hy hne; simp only [Value.ownBlock]; exact fun e => this e.symm))
    · simp only [e, if_false]
      obtain ⟨ys, hy, hy2⟩ := (hr i (by omega)).below hb
      exact SO.far ⟨ys, hy, hy2⟩ hg (.inr (by have := own_type_ne hown1 hy hne; simp only [Value.ownBlock]; exact fun e => this e.symm))
  · have lt : ∀ i, i < n → f i < wr.heap.size := fun i hi => ((hr i hi).lt (f i) rfl).2
    by_cases e1 : i = n
    · subst e1
      have := lt j (by omega)
      simp only [if_true, if_neg (show ¬ j = i by omega)]
      omega
    · by_cases e2 : j = n
      · subst e2
        have := lt i (by omega)
        simp only [if_true, if_neg e1]
        omega
      · simp only [if_neg e1, if_neg e2]
        exact hd i j (by omega) (by omega) hij
theorem pair_new (w : World) (B : Nat) (t : TypeId) (a b : Int) (base : Nat) (hB : w.heap.size = B) (hb : base ≤ B) : SO (w.alloc (.cells #[.int .i64 a, .int .i64 b] t)) base t 1 (.slice (some ⟨B, 0, none⟩) 2 2) 2 (nuF (two a b)) := by
  subst hB
  refine ⟨[.int .i64 a, .int .i64 b], ⟨rfl, .inr ⟨w.heap.size, 2, #[.int .i64 a, .int .i64 b], rfl, hb, heap_alloc_new w _, Nat.le_refl _, by unfold maxLen; omega, rfl, rfl⟩⟩, fun i hi j hj => ?_⟩
  obtain rfl : j = 0 := by omega
  rcases (by omega : i = 0 ∨ i = 1) with rfl | rfl <;> rfl
theorem mul_bd {k L : Int} (k0 : 0 ≤ k) (k1 : k ≤ 6) (l0 : 0 ≤ L) (l1 : L ≤ 40) : 0 ≤ 2 * k * L ∧ 2 * k * L ≤ 480 := by
  constructor
  · exact Int.mul_nonneg (by omega) l0
  · have := Int.mul_le_mul (show 2 * k ≤ 12 by omega) l1 l0 (by omega)
    omega
theorem blastZ_40 {k : Int} (_h : 1 ≤ k ∧ k ≤ 4) : 0 ≤ blastZ k ∧ blastZ k ≤ 40 := by unfold blastZ; omega
def bP (L : Int) (i : Nat) : Int := 2 * (i : Int) * L
def bQ (L : Int) (i : Nat) : Int := 2 * (i : Int) * L + L
set_option maxRecDepth 100000 in
set_option maxHeartbeats 4000000 in
theorem l10Blasts_c (g : Nat) (k b : Int) (hk : 1 ≤ k ∧ k ≤ 4) (hb : 1 ≤ b ∧ b ≤ 6) (w : World) (c0 : w.cell? ⟨g, 0, none⟩ = some (.int .i64 k)) (c1 : w.cell? ⟨g, 1, none⟩ = some (.int .i64 b)) :
    Calls Try.prog 72 #[.pointer (some ⟨g, 0, none⟩)] w fun e w' => ∃ A c, e = .returned (.slice A b.toNat c) ∧ Pairs w' w.heap.size 49 2 (.slice A b.toNat c) b.toNat (bP (blastZ k)) (bQ (blastZ k)) ∧ Below w.heap.size w w' := by
  obtain ⟨i0, hi0, hz0, hz1, hz2⟩ := info_parts infoPair
  obtain ⟨l0, l1⟩ := blastZ_40 hk
  have HL := Lib.hid (fun W => l10Length_c k hk W)
  generalize blastZ k = L at *
  have hg : g < w.heap.size := cell_lt c0
  have a0 : ∀ o, (w.alloc o).cell? ⟨g, 0, none⟩ = some (.int .i64 k) := fun o => (cell_past hg o 0).trans c0
  obtain ⟨b0, b1⟩ := hb
  go_enter Try.func72, Try.ntmps72
  go_wp2_with fail
  refine (HL.out _).mono ?_
  rintro e w1 ⟨rfl, hb1⟩
  have hown0 : w1.ownsRow w.heap.size 49 1 (.slice (some ⟨w.heap.size, 0, none⟩) 0 0) 0 [] := own_below (ownsRow_at (w := w) (cs := #[]) rfl (Nat.le_refl _) rfl (by omega) rfl) hb1
  have hbw := below_box hb1
  obtain ⟨n, rfl⟩ : ∃ n : Nat, b = (n : Int) := ⟨b.toNat, by omega⟩
  clear a0 c0 hb1
  go_wp2
  go_loopw [3, 5] (fun v i wr => ∃ (q : Nat) (f : Nat → Nat) (xs : List Value), q ≤ n ∧ i = .int .i64 q ∧ Below w.heap.size w wr ∧ wr.ownsRow w.heap.size 49 1 v q xs ∧ Hid (∀ i, i < q → xs[i]? = some (.slice (some ⟨f i, 0, none⟩) 2 2)) ∧
      Hid (∀ i, i < q → SO wr w.heap.size 2 1 (.slice (some ⟨f i, 0, none⟩) 2 2) 2 (nuF (two (bP L i) (bQ L i)))) ∧ Hid (∀ i j, i < q → j < q → i ≠ j → f i ≠ f j)) (fun _ i _ => n - (intOf i).toNat)
  case atStart => exact ⟨0, fun _ => 0, [], by omega, rfl, hbw, hown0, Lib.hid (fun i hi => by omega), Lib.hid (fun i hi => by omega), Lib.hid (fun i j hi => by omega)⟩
  case round =>
    obtain ⟨q, f, xs, hq, rfl, hbel, hown, h1, h2, h3⟩ := hrel
    have hc1 : wr.cell? ⟨g, 1, none⟩ = some (.int .i64 (n : Int)) := (hbel.cell (p := ⟨g, 1, none⟩) hg).trans c1
    by_cases hlt : q < n
    · obtain ⟨m0, m1⟩ := mul_bd (k := (q : Int)) (L := L) (by omega) (by omega) l0 l1
      have q1 : IntKind.i64.wrap (2 * (q : Int) * L) = 2 * (q : Int) * L := IntWalk.i64_in _ (by omega)
      have q2 : IntKind.i64.wrap (2 * (q : Int) * L + L) = 2 * (q : Int) * L + L := IntWalk.i64_in _ (by omega)
      have HO := Lib.hid hown
      have HB := Lib.hid hbel
      have hbase : w.heap.size ≤ ((wr.alloc (.cells #[.int .i64 (2 * (q : Int) * L), .int .i64 (2 * (q : Int) * L + L)] 2)).alloc (.cells #[.slice (some ⟨wr.heap.size, 0, none⟩) 2 2] 49)).heap.size := by have := hbel.size; simp; omega
      have hOW := (hown.alloc (.cells #[.int .i64 (2 * (q : Int) * L), .int .i64 (2 * (q : Int) * L + L)] 2)).alloc (.cells #[.slice (some ⟨wr.heap.size, 0, none⟩) 2 2] 49)
      have hnews := World.news_of_block (w := (wr.alloc (.cells #[.int .i64 (2 * (q : Int) * L), .int .i64 (2 * (q : Int) * L + L)] 2)).alloc (.cells #[.slice (some ⟨wr.heap.size, 0, none⟩) 2 2] 49)) (B := wr.heap.size + 1) (cs := #[.slice (some ⟨wr.heap.size, 0, none⟩) 2 2]) (t := 49) (fr := (0, 0)) (by have := heap_alloc_new (wr.alloc (.cells #[.int .i64 (2 * (q : Int) * L), .int .i64 (2 * (q : Int) * L + L)] 2)) (.cells #[.slice (some ⟨wr.heap.size, 0, none⟩) 2 2] 49); simpa using this)
      have HN := Lib.hid hnews
      clear hown hbel hown0 hnews
      go_wp2_with (at_builtin; refine wpList_append_own _ rfl _ _ 47 rfl w.heap.size 49 i0 _ 1 24 Try.underlying47 hi0 hz0 hz1 hz2 rfl (by decide) _ q xs rfl hOW ⟨wr.heap.size + 1, 0, none⟩ 1 1 [.slice (some ⟨wr.heap.size, 0, none⟩) 2 2] rfl rfl HN.out (by simp [Value.oneCell']) (small_row (by omega)) (by omega) hbase ?_)
      intro v' w2 hown2 hgrow _
      have HO2 := Lib.hid hown2
      have HG2 := Lib.hid hgrow
      clear hown2 hgrow hOW hbase
      go_wp2
      go_roundw
      case rel =>
        have hl : xs.length = q := by have := HO.out.1; omega
        have bb : Below wr.heap.size wr ((wr.alloc (.cells #[.int .i64 (2 * (q : Int) * L), .int .i64 (2 * (q : Int) * L + L)] 2)).alloc (.cells #[.slice (some ⟨wr.heap.size, 0, none⟩) 2 2] 49)) := (by repeat (first | exact Below.refl _ _ | refine Below.alloc ?_ (by simp; try omega) _ | refine Below.drew ?_))
        obtain ⟨f', xs', p1, p2, p3, p4⟩ := Pairs.push (w0 := w) (et := 2) (P := bP L) (Q := bQ L) HO.out h1.out h2.out h3.out bb (Nat.le_refl _) ((pair_new wr wr.heap.size 2 _ _ w.heap.size rfl HB.out.size).below (by repeat (first | exact Below.refl _ _ | refine Below.alloc ?_ (by simp; try omega) _ | refine Below.drew ?_))) HO2.out HG2.out (by decide) hl
        exact ⟨q + 1, f', xs', by omega, by go_num, (held_next HB.out bb).grown HG2.out (by have := HB.out.size; simp; omega) (fun k hk => (HO.out.lt k hk).1), p1, Lib.hid p2, Lib.hid p3, Lib.hid p4⟩
      case measure => simp [intOf]; omega
    · obtain rfl : q = n := by omega
      obtain ⟨A, c, hv⟩ := Pairs.form (P := bP L) (Q := bQ L) ⟨f, xs, hown, h1.out, h2.out, h3.out⟩
      subst hv
      have HO := Lib.hid hown
      have HB := Lib.hid hbel
      clear hown hbel hown0
      go_wp2
      go_ret
      exact ⟨A, c, rfl, ⟨f, xs, HO.out, h1.out, h2.out, h3.out⟩, HB.out⟩
set_option maxRecDepth 100000 in
set_option maxHeartbeats 4000000 in
theorem blasts_c (k b pe pw : Int) (hk : 1 ≤ k ∧ k ≤ 4) (hb : 1 ≤ b ∧ b ≤ 6) (w : World) :
    Calls Try.prog 74 #[.agg #[.int .i64 k, .int .i64 b, .int .i64 pe, .int .i64 pw]] w fun e w' => ∃ A c, e = .returned (.slice A b.toNat c) ∧ Pairs w' w.heap.size 49 2 (.slice A b.toNat c) b.toNat (bP (blastZ k)) (bQ (blastZ k)) ∧ Below w.heap.size w w' := by
  obtain ⟨i0, hi0, hz0, hz1, hz2⟩ := info_parts infoPair
  obtain ⟨l0, l1⟩ := blastZ_40 hk
  have HL := Lib.hid (fun W => blast_c k W)
  generalize blastZ k = L at *
  obtain ⟨b0, b1⟩ := hb
  go_enter Try.func74, Try.ntmps74
  go_wp2_with fail
  refine (HL.out _).mono ?_
  rintro e w1 ⟨rfl, rfl⟩
  have hown0 : ((w.alloc (.cells #[.int .i64 k, .int .i64 b, .int .i64 pe, .int .i64 pw] 36)).alloc (.cells #[] 49)).ownsRow w.heap.size 49 1 (.slice (some ⟨w.heap.size + 1, 0, none⟩) 0 0) 0 [] := ownsRow_at (cs := #[]) (by simp) (by simp) rfl (by omega) rfl
  have c1 : ((w.alloc (.cells #[.int .i64 k, .int .i64 b, .int .i64 pe, .int .i64 pw] 36)).alloc (.cells #[] 49)).cell? ⟨w.heap.size, 1, none⟩ = some (.int .i64 b) := by simp [go_sem]
  obtain ⟨n, rfl⟩ : ∃ n : Nat, b = (n : Int) := ⟨b.toNat, by omega⟩
  go_wp2
  clear c1
  go_loopw [3, 12] (fun v i wr => ∃ (q : Nat) (f : Nat → Nat) (xs : List Value), q ≤ n ∧ i = .int .i64 q ∧ Below w.heap.size w wr ∧ wr.ownsRow w.heap.size 49 1 v q xs ∧ Hid (∀ i, i < q → xs[i]? = some (.slice (some ⟨f i, 0, none⟩) 2 2)) ∧
      Hid (∀ i, i < q → SO wr w.heap.size 2 1 (.slice (some ⟨f i, 0, none⟩) 2 2) 2 (nuF (two (bP L i) (bQ L i)))) ∧ Hid (∀ i j, i < q → j < q → i ≠ j → f i ≠ f j)) (fun _ i _ => n - (intOf i).toNat)
  case atStart => exact ⟨0, fun _ => 0, [], by omega, rfl, (by repeat (first | exact Below.refl _ _ | refine Below.alloc ?_ (by simp; try omega) _ | refine Below.drew ?_)), hown0, Lib.hid (fun i hi => by omega), Lib.hid (fun i hi => by omega), Lib.hid (fun i j hi => by omega)⟩
  case round =>
    obtain ⟨q, f, xs, hq, rfl, hbel, hown, h1, h2, h3⟩ := hrel
    by_cases hlt : q < n
    · obtain ⟨m0, m1⟩ := mul_bd (k := (q : Int)) (L := L) (by omega) (by omega) l0 l1
      have q1 : IntKind.i64.wrap (2 * (q : Int) * L) = 2 * (q : Int) * L := IntWalk.i64_in _ (by omega)
      have q2 : IntKind.i64.wrap (2 * (q : Int) * L + L) = 2 * (q : Int) * L + L := IntWalk.i64_in _ (by omega)
      have hm : (2 * (q : Int) + 1) * L = 2 * (q : Int) * L + L := by rw [Int.add_mul, Int.one_mul]
      have HO := Lib.hid hown
      have HB := Lib.hid hbel
      have hbase : w.heap.size ≤ ((wr.alloc (.cells #[.int .i64 (2 * (q : Int) * L), .int .i64 (2 * (q : Int) * L + L)] 2)).alloc (.cells #[.slice (some ⟨wr.heap.size, 0, none⟩) 2 2] 49)).heap.size := by have := hbel.size; simp; omega
      have hOW := (hown.alloc (.cells #[.int .i64 (2 * (q : Int) * L), .int .i64 (2 * (q : Int) * L + L)] 2)).alloc (.cells #[.slice (some ⟨wr.heap.size, 0, none⟩) 2 2] 49)
      have hnews := World.news_of_block (w := (wr.alloc (.cells #[.int .i64 (2 * (q : Int) * L), .int .i64 (2 * (q : Int) * L + L)] 2)).alloc (.cells #[.slice (some ⟨wr.heap.size, 0, none⟩) 2 2] 49)) (B := wr.heap.size + 1) (cs := #[.slice (some ⟨wr.heap.size, 0, none⟩) 2 2]) (t := 49) (fr := (0, 0)) (by have := heap_alloc_new (wr.alloc (.cells #[.int .i64 (2 * (q : Int) * L), .int .i64 (2 * (q : Int) * L + L)] 2)) (.cells #[.slice (some ⟨wr.heap.size, 0, none⟩) 2 2] 49); simpa using this)
      have HN := Lib.hid hnews
      clear hown hbel hown0 hnews
      go_wp2_with (at_builtin; refine wpList_append_own _ rfl _ _ 47 rfl w.heap.size 49 i0 _ 1 24 Try.underlying47 hi0 hz0 hz1 hz2 rfl (by decide) _ q xs rfl hOW ⟨wr.heap.size + 1, 0, none⟩ 1 1 [.slice (some ⟨wr.heap.size, 0, none⟩) 2 2] rfl rfl HN.out (by simp [Value.oneCell']) (small_row (by omega)) (by omega) hbase ?_)
      intro v' w2 hown2 hgrow _
      have HO2 := Lib.hid hown2
      have HG2 := Lib.hid hgrow
      clear hown2 hgrow hOW hbase
      go_wp2
      go_roundw
      case rel =>
        have hl : xs.length = q := by have := HO.out.1; omega
        have bb : Below wr.heap.size wr ((wr.alloc (.cells #[.int .i64 (2 * (q : Int) * L), .int .i64 (2 * (q : Int) * L + L)] 2)).alloc (.cells #[.slice (some ⟨wr.heap.size, 0, none⟩) 2 2] 49)) := (by repeat (first | exact Below.refl _ _ | refine Below.alloc ?_ (by simp; try omega) _ | refine Below.drew ?_))
        obtain ⟨f', xs', p1, p2, p3, p4⟩ := Pairs.push (w0 := w) (et := 2) (P := bP L) (Q := bQ L) HO.out h1.out h2.out h3.out bb (Nat.le_refl _) ((pair_new wr wr.heap.size 2 _ _ w.heap.size rfl HB.out.size).below (by repeat (first | exact Below.refl _ _ | refine Below.alloc ?_ (by simp; try omega) _ | refine Below.drew ?_))) HO2.out HG2.out (by decide) hl
        exact ⟨q + 1, f', xs', by omega, by go_num, (held_next HB.out bb).grown HG2.out (by have := HB.out.size; simp; omega) (fun k hk => (HO.out.lt k hk).1), p1, Lib.hid p2, Lib.hid p3, Lib.hid p4⟩
      case measure => simp [intOf]; omega
    · obtain rfl : q = n := by omega
      obtain ⟨A, c, hv⟩ := Pairs.form (P := bP L) (Q := bQ L) ⟨f, xs, hown, h1.out, h2.out, h3.out⟩
      subst hv
      have HO := Lib.hid hown
      have HB := Lib.hid hbel
      clear hown hbel hown0
      go_wp2
      go_ret
      exact ⟨A, c, rfl, ⟨f, xs, HO.out, h1.out, h2.out, h3.out⟩, HB.out⟩
end Go.Proofs.Ytffdipcogkhkmaa
