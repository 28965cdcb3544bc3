/- ReadMark: the program's side and the reference's. -/
import Derived.Test.YtolijmldobncbaaDoorReadM
import Derived.Test.YtolijmldobncbaaDoorBlk
import Derived.Deep.RegionHeld3
namespace Go.Proofs.YtolijmldobncbaaDoor
open Go Go.RowKit Go.Shelf
theorem kind_or (a : ByteArray) : (NoName a 10 ∧ kindOf a = none) ∨ ∃ k, FirstName a k ∧ kindOf a = some k := by
  rcases first_or (s := a) 10 (Nat.le_refl _) with h | ⟨k, h⟩
  · exact .inl ⟨h, kindOf_none h⟩
  · exact .inr ⟨k, h, kindOf_some h⟩
/-- What is answered. -/
def ansM (r : Option (Nat × ByteArray × ByteArray × ByteArray)) : Value :=
  match r with
  | none => .tuple #[.agg #[.int .i64 0, .string ⟨#[]⟩, .string ⟨#[]⟩, .string ⟨#[]⟩], .bool false]
  | some (k, b, c, t) => .tuple #[.agg #[.int .i64 k, .string b, .string c, .string t], .bool true]
theorem past1 {Z : World} {b i : Nat} {v : Value} (h : Z.cell? ⟨b, i, none⟩ = some v) : ∀ o, (Z.alloc o).cell? ⟨b, i, none⟩ = some v := fun o => (cell_past (cell_lt h) o i).trans h
theorem keep4 {Y : World} {g b i : Nat} {u0 u1 u2 u3 x : Value} (h : Y.cell? ⟨b, i, none⟩ = some x) (hne : b ≠ g) : ((((Y.setCell ⟨g, 0, none⟩ u0).setCell ⟨g, 1, none⟩ u1).setCell ⟨g, 2, none⟩ u2).setCell ⟨g, 3, none⟩ u3).cell? ⟨b, i, none⟩ = some x := by
  have e : ∀ (Y : World) (k : Nat) (u : Value), (Y.setCell ⟨g, k, none⟩ u).cell? ⟨b, i, none⟩ = Y.cell? ⟨b, i, none⟩ := fun Y k u => by
    have := Below.heap_setCell Y ⟨g, k, none⟩ u b hne
    simp only [World.cell?, this]
  rw [e, e, e, e]
  exact h
theorem keepB {X u : World} {g j : Nat} {v : Value} (hb : Below X.heap.size X u) (h : X.cell? ⟨g, j, none⟩ = some v) : u.cell? ⟨g, j, none⟩ = some v := (hb.cell (p := ⟨g, j, none⟩) (cell_lt h)).trans h
def zeroM : Value := .agg #[.int .i64 0, .string ⟨#[]⟩, .string ⟨#[]⟩, .string ⟨#[]⟩]
def kindI (a : ByteArray) : Int := match kindOf a with | none => -1 | some k => (k : Int)
def ansK (s b c t : ByteArray) (kk : Int) : Value := if (inR kk 1 9 && (okM kk b c t && ((markTxt (pickS markNames kk) b c t).toList == s.toList))) = true then .tuple #[.agg #[.int .i64 kk, .string b, .string c, .string t], .bool true] else .tuple #[.agg #[.int .i64 0, .string ⟨#[]⟩, .string ⟨#[]⟩, .string ⟨#[]⟩], .bool false]
theorem ansM_K (s a b c d : ByteArray) : ansM (markOf s a b c d) = ansK s b c (topB d) (kindI a) := by
  unfold markOf kindI
  cases kindOf a with
  | none => rfl
  | some k =>
    have e : inR (k : Int) 1 9 = decide (1 ≤ k ∧ k ≤ 9) := by unfold inR; rw [← Bool.decide_and]; congr 1; apply propext; omega
    have em : markOk s b c d k = (inR (k : Int) 1 9 && (okM k b c (topB d) && ((markTxt (pickS markNames k) b c (topB d)).toList == s.toList))) := by unfold markOk; rw [e]
    unfold ansK
    rw [← em]
    show ansM (if markOk s b c d k = true then some (k, b, c, topB d) else none) = _
    cases markOk s b c d k <;> rfl
theorem Blk.off_ {w : World} {g g' : Nat} {t : TypeId} {cs : Array Value} (h : Blk w g t cs) (hne : g ≠ g') (j : Nat) (u : Value) : Blk (w.setCell ⟨g', j, none⟩ u) g t cs := (Below.heap_setCell w ⟨g', j, none⟩ u g hne).trans h
theorem named_c (a : ByteArray) (w : World) : Calls Tryd.prog 99 #[.string a] w fun e w' => e = .returned (.int .i64 (kindI a)) ∧ Below w.heap.size w w' := by
  rcases kind_or a with ⟨h, e⟩ | ⟨k, h, e⟩
  · unfold kindI; rw [e]; exact specNamed_no a h w
  · unfold kindI; rw [e]; exact specNamed_yes a k h w
set_option maxRecDepth 100000 in
set_option maxHeartbeats 8000000 in
theorem l11Read_four (s a b c d : ByteArray) (hs : s.size ≤ 1048576) (hno : (s.toList == [110, 111, 110, 101]) = false) (hp : pieces 32 s = [a, b, c, d]) (w : World) :
    Calls Tryd.prog 74 #[.string s] w fun e w' => e = .returned (ansM (markOf s a b c d)) ∧ Below w.heap.size w w' := by
  have HS := Lib.hid (fun W => l01Split_c 32 s hs W)
  have hle : ∀ p ∈ pieces 32 s, p.size ≤ s.size := fun p hp => pieces_le hp
  rw [hp] at hle HS
  have za := hle a (by simp)
  have zb := hle b (by simp)
  have zc := hle c (by simp)
  have zd := hle d (by simp)
  clear hle hp
  rw [ansM_K]
  have HNm := Lib.hid (fun W => named_c a W)
  generalize kindI a = kk at *
  have HKd := Lib.hid (fun W v hv => l11KindM_c kk v hv W)
  have HOk := Lib.hid (fun G t W c0 c1 c2 c3 => l11Ok_c G kk b c t W c0 c1 c2 c3)
  have HTx := Lib.hid (fun (hr : inR kk 1 9 = true) G t ht W c0 c1 c2 c3 => l11Text_c G kk (inR_iff.1 hr) b c t (by omega) (by omega) ht W c0 c1 c2 c3)
  go_enter Tryd.func74, Tryd.ntmps74
  go_wp2_with fail
  refine (HS.out _).mono ?_
  rintro e w1 ⟨v, rfl, hown, hb1⟩
  obtain ⟨g, cp, rfl⟩ := Go.Joins.ownsRow_form hown (by simp)
  have m0 : w1.cell? ⟨g, 0, none⟩ = some (.string a) := (hown.cellAt 0 (by simp)).trans rfl
  have m1 : w1.cell? ⟨g, 1, none⟩ = some (.string b) := (hown.cellAt 1 (by simp)).trans rfl
  have m2 : w1.cell? ⟨g, 2, none⟩ = some (.string c) := (hown.cellAt 2 (by simp)).trans rfl
  have m3 : w1.cell? ⟨g, 3, none⟩ = some (.string d) := (hown.cellAt 3 (by simp)).trans rfl
  have hbw : Below w.heap.size w w1 := held_next (Below.alloc (Below.refl _ _) (Nat.le_refl _) _) hb1
  have hZ : Blk w1 w.heap.size 23 #[.int .i64 0, .string ⟨#[]⟩, .string ⟨#[]⟩, .string ⟨#[]⟩] := (Blk.new _ _ _).below hb1
  have hgl := (hown.lt _ rfl).1
  rw [World.size_alloc] at hgl
  clear hown hb1 HS
  simp only [List.length_cons, List.length_nil]
  go_wp2_with fail
  have gne : g ≠ w1.heap.size := Nat.ne_of_lt (cell_lt m0)
  go_region_held3 (fun w' => w'.cell? ⟨g, 0, none⟩ = some (.string a) ∧ w'.cell? ⟨g, 1, none⟩ = some (.string b) ∧ w'.cell? ⟨g, 2, none⟩ = some (.string c) ∧ w'.cell? ⟨g, 3, none⟩ = some (.string d))
    (first | go_keep | with_reducible exact ⟨n0, n1, n2, n3⟩ | with_reducible exact ⟨keep4 n0 gne, keep4 n1 gne, keep4 n2 gne, keep4 n3 gne⟩)
    (first
      | (go_at_call 99; refine (HNm.out _).mono ?_; rintro e u6 ⟨rfl, b6⟩; have n0 := keepB b6 (show w1.drew.cell? ⟨g, 0, none⟩ = some (.string a) from m0); have n1 := keepB b6 (show w1.drew.cell? ⟨g, 1, none⟩ = some (.string b) from m1); have n2 := keepB b6 (show w1.drew.cell? ⟨g, 2, none⟩ = some (.string c) from m2); have n3 := keepB b6 (show w1.drew.cell? ⟨g, 3, none⟩ = some (.string d) from m3); have q6 := (Below.refl w1.heap.size w1).drew.trans b6)
      | (go_at_call 99; refine (HNm.out _).mono ?_; rintro e u6 ⟨rfl, b6⟩; have n0 := keepB b6 (past1 (Z := w1.drew) m0 _); have n1 := keepB b6 (past1 (Z := w1.drew) m1 _); have n2 := keepB b6 (past1 (Z := w1.drew) m2 _); have n3 := keepB b6 (past1 (Z := w1.drew) m3 _); have nB : Blk u6 w1.heap.size 23 #[.int .i64 0, .string ⟨#[]⟩, .string ⟨#[]⟩, .string ⟨#[]⟩] := (Blk.new w1.drew _ _).below b6; have zc0 : u6.cell? ⟨w1.heap.size, 0, none⟩ = some (.int .i64 0) := nB.cell 0; have zc1 : u6.cell? ⟨w1.heap.size, 1, none⟩ = some (.string ⟨#[]⟩) := nB.cell 1; have zc2 : u6.cell? ⟨w1.heap.size, 2, none⟩ = some (.string ⟨#[]⟩) := nB.cell 2; have zc3 : u6.cell? ⟨w1.heap.size, 3, none⟩ = some (.string ⟨#[]⟩) := nB.cell 3; have zf := nB.frozen; have q6 := held_next ((Below.refl w1.heap.size w1).drew.alloc (Nat.le_refl _) _) b6))
  · have B2 : Blk (u6.alloc (.cells #[.int .i64 kk, .string b, .string c, .string d] 23)) u6.heap.size 23 #[.int .i64 kk, .string b, .string c, .string d] := Blk.new _ _ _
    have Z2 : Blk (u6.alloc (.cells #[.int .i64 kk, .string b, .string c, .string d] 23)) w.heap.size 23 #[.int .i64 0, .string ⟨#[]⟩, .string ⟨#[]⟩, .string ⟨#[]⟩] := (hZ.below q6).below (by repeat (first | exact Below.refl _ _ | refine Below.alloc ?_ (by simp; try omega) _ | refine Below.drew ?_))
    have hb2 : Below w.heap.size w (u6.alloc (.cells #[.int .i64 kk, .string b, .string c, .string d] 23)) := (held_next hbw q6).alloc (held_next hbw q6).size _
    have hne : w.heap.size ≠ u6.heap.size := Nat.ne_of_lt (hZ.below q6).lt
    have hlG : w.heap.size ≤ u6.heap.size := (held_next hbw q6).size
    generalize u6.alloc (.cells #[.int .i64 kk, .string b, .string c, .string d] 23) = W2 at *
    generalize u6.heap.size = G at *
    clear q6 b6 n0 n1 n2 n3 hZ hbw hgl m0 m1 m2 m3 gne HNm
    cases hd : (d.toList == [45])
    · skip
      have ht : topB d = d := by unfold topB; rw [if_neg (by simpa using hd)]
      have htz : (d : ByteArray).size ≤ 1048576 := by omega
      have HR := Lib.hid (show ansK s b c (topB d) kk = if (inR kk 1 9 && (okM kk b c d && ((markTxt (pickS markNames kk) b c d).toList == s.toList))) = true then Value.tuple #[.agg #[.int .i64 kk, .string b, .string c, .string d], .bool true] else Value.tuple #[.agg #[.int .i64 0, .string ⟨#[]⟩, .string ⟨#[]⟩, .string ⟨#[]⟩], .bool false] from by rw [ht]; rfl)
      have HOk2 := Lib.hid (fun W c0 c1 c2 c3 => HOk.out G d W c0 c1 c2 c3)
      have HTx2 := Lib.hid (fun hr W c0 c1 c2 c3 => HTx.out hr G d htz W c0 c1 c2 c3)
      have cG := B2.cell
      have fG := B2.frozen
      clear ht htz HOk HTx
      generalize okM kk b c d = v2 at *
      generalize hX : markTxt (pickS markNames kk) b c d = X at *
      clear hX
      cases v1 : inR kk 1 9
      · skip
        have HA := Lib.hid (show ansK s b c (topB d) kk = Value.tuple #[.agg #[.int .i64 0, .string ⟨#[]⟩, .string ⟨#[]⟩, .string ⟨#[]⟩], .bool false] from by rw [HR.out, v1]; rfl)
        have HK := Lib.hid (fun W => HKd.out W _ v1)
        clear HR
        go_wp2_with fail
        have B3 := B2
        have Z3 := Z2
        have hb3 := hb2
        generalize W2 = W3 at *
        clear cG fG B2 Z2 hb2
        have k0 : ∀ y : Aft W3, y.w1.cell? ⟨G, 0, none⟩ = some (.int .i64 kk) := fun y => (B3.below y.below).cell 0
        have k1 : ∀ y : Aft W3, y.w1.cell? ⟨G, 1, none⟩ = some (.string b) := fun y => (B3.below y.below).cell 1
        have k2 : ∀ y : Aft W3, y.w1.cell? ⟨G, 2, none⟩ = some (.string c) := fun y => (B3.below y.below).cell 2
        have k3 : ∀ y : Aft W3, y.w1.cell? ⟨G, 3, none⟩ = some (.string d) := fun y => (B3.below y.below).cell 3
        have HO4 := Lib.hid (fun y : Aft W3 => HOk2.out y.w1 (k0 y) (k1 y) (k2 y) (k3 y))
        clear HOk2 HTx2
        have cZ : ∀ (y : Aft W3) j, y.w1.cell? ⟨w.heap.size, j, none⟩ = (#[.int .i64 0, .string ⟨#[]⟩, .string ⟨#[]⟩, .string ⟨#[]⟩] : Array Value)[j]? := fun y => (Z3.below y.below).cell
        have fZ : ∀ (y : Aft W3) j, y.w1.frozen? ⟨w.heap.size, j, none⟩ = false := fun y => (Z3.below y.below).frozen
        have cM : ∀ (y : Aft W3) j, y.w1.cell? ⟨G, j, none⟩ = (#[.int .i64 kk, .string b, .string c, .string d] : Array Value)[j]? := fun y => (B3.below y.below).cell
        have cZ0 := Z3.cell
        have fZ0 := Z3.frozen
        have cM0 := B3.cell
        clear B3 Z3 k0 k1 k2 k3
        go_wp2_with (first
          | (go_at_call 41; refine (HK.out _).mono ?_; rintro e _ ⟨rfl, rfl⟩)
          | (go_at_call 49; refine (Aft.first (w := W3) (HO4.out ⟨W3, Below.refl _ _⟩)).mono ?_; rintro e _ ⟨rfl, y, rfl⟩))
        rw [HA.out]
        refine bodyPost_ret (v := Value.tuple #[.agg #[.int .i64 0, .string ⟨#[]⟩, .string ⟨#[]⟩, .string ⟨#[]⟩], .bool false]) (by simp [results, Tryd.results74, go_sem, cZ0]) rfl ⟨rfl, ?_⟩
        have hb5 := held_next hb3 (Aft.below (w := W3) ⟨W3, Below.refl _ _⟩)
        first
          | with_reducible exact hb5
          | with_reducible exact hb3
          | exact (((hb5.setCell (by simp) _).setCell (by simp) _).setCell (by simp) _).setCell (by simp) _
          | exact (((hb3.setCell (by simp) _).setCell (by simp) _).setCell (by simp) _).setCell (by simp) _
      · have HTx3 := Lib.hid (HTx2.out v1)
        cases v2
        · skip
          have HTx4 := Lib.hid HTx3.out
          have HA := Lib.hid (show ansK s b c (topB d) kk = Value.tuple #[.agg #[.int .i64 0, .string ⟨#[]⟩, .string ⟨#[]⟩, .string ⟨#[]⟩], .bool false] from by rw [HR.out, v1]; rfl)
          have HK := Lib.hid (fun W => HKd.out W _ v1)
          clear HR
          go_wp2_with fail
          have B3 := B2
          have Z3 := Z2
          have hb3 := hb2
          generalize W2 = W3 at *
          clear cG fG B2 Z2 hb2
          have k0 : ∀ y : Aft W3, y.w1.cell? ⟨G, 0, none⟩ = some (.int .i64 kk) := fun y => (B3.below y.below).cell 0
          have k1 : ∀ y : Aft W3, y.w1.cell? ⟨G, 1, none⟩ = some (.string b) := fun y => (B3.below y.below).cell 1
          have k2 : ∀ y : Aft W3, y.w1.cell? ⟨G, 2, none⟩ = some (.string c) := fun y => (B3.below y.below).cell 2
          have k3 : ∀ y : Aft W3, y.w1.cell? ⟨G, 3, none⟩ = some (.string d) := fun y => (B3.below y.below).cell 3
          have HO4 := Lib.hid (fun y : Aft W3 => HOk2.out y.w1 (k0 y) (k1 y) (k2 y) (k3 y))
          have HT4 := Lib.hid (fun y : Aft W3 => HTx4.out y.w1 (k0 y) (k1 y) (k2 y) (k3 y))
          clear HTx4 HTx3
          clear HOk2 HTx2
          have cZ : ∀ (y : Aft W3) j, y.w1.cell? ⟨w.heap.size, j, none⟩ = (#[.int .i64 0, .string ⟨#[]⟩, .string ⟨#[]⟩, .string ⟨#[]⟩] : Array Value)[j]? := fun y => (Z3.below y.below).cell
          have fZ : ∀ (y : Aft W3) j, y.w1.frozen? ⟨w.heap.size, j, none⟩ = false := fun y => (Z3.below y.below).frozen
          have cM : ∀ (y : Aft W3) j, y.w1.cell? ⟨G, j, none⟩ = (#[.int .i64 kk, .string b, .string c, .string d] : Array Value)[j]? := fun y => (B3.below y.below).cell
          have cZ0 := Z3.cell
          have fZ0 := Z3.frozen
          have cM0 := B3.cell
          clear B3 Z3 k0 k1 k2 k3
          go_wp2_with (first
            | (go_at_call 41; refine (HK.out _).mono ?_; rintro e _ ⟨rfl, rfl⟩)
            | (go_at_call 49; refine (Aft.first (w := W3) (HO4.out ⟨W3, Below.refl _ _⟩)).mono ?_; rintro e _ ⟨rfl, y, rfl⟩)
            | (go_at_call 56; refine (Aft.call (HT4.out _)).mono ?_; rintro e _ ⟨rfl, y, rfl⟩))
          rw [HA.out]
          refine bodyPost_ret (v := Value.tuple #[.agg #[.int .i64 0, .string ⟨#[]⟩, .string ⟨#[]⟩, .string ⟨#[]⟩], .bool false]) (by simp [results, Tryd.results74, go_sem, cZ]) rfl ⟨rfl, ?_⟩
          have hb5 := held_next hb3 (Aft.below (w := W3) y)
          first
            | with_reducible exact hb5
            | with_reducible exact hb3
            | exact (((hb5.setCell (by simp) _).setCell (by simp) _).setCell (by simp) _).setCell (by simp) _
            | exact (((hb3.setCell (by simp) _).setCell (by simp) _).setCell (by simp) _).setCell (by simp) _
        · cases v3 : (X.toList == s.toList)
          · skip
            have HTx4 := Lib.hid HTx3.out
            have HA := Lib.hid (show ansK s b c (topB d) kk = Value.tuple #[.agg #[.int .i64 0, .string ⟨#[]⟩, .string ⟨#[]⟩, .string ⟨#[]⟩], .bool false] from by rw [HR.out, v1, v3]; rfl)
            have HK := Lib.hid (fun W => HKd.out W _ v1)
            clear HR
            go_wp2_with fail
            have B3 := B2
            have Z3 := Z2
            have hb3 := hb2
            generalize W2 = W3 at *
            clear cG fG B2 Z2 hb2
            have k0 : ∀ y : Aft W3, y.w1.cell? ⟨G, 0, none⟩ = some (.int .i64 kk) := fun y => (B3.below y.below).cell 0
            have k1 : ∀ y : Aft W3, y.w1.cell? ⟨G, 1, none⟩ = some (.string b) := fun y => (B3.below y.below).cell 1
            have k2 : ∀ y : Aft W3, y.w1.cell? ⟨G, 2, none⟩ = some (.string c) := fun y => (B3.below y.below).cell 2
            have k3 : ∀ y : Aft W3, y.w1.cell? ⟨G, 3, none⟩ = some (.string d) := fun y => (B3.below y.below).cell 3
            have HO4 := Lib.hid (fun y : Aft W3 => HOk2.out y.w1 (k0 y) (k1 y) (k2 y) (k3 y))
            have HT4 := Lib.hid (fun y : Aft W3 => HTx4.out y.w1 (k0 y) (k1 y) (k2 y) (k3 y))
            clear HTx4 HTx3
            clear HOk2 HTx2
            have cZ : ∀ (y : Aft W3) j, y.w1.cell? ⟨w.heap.size, j, none⟩ = (#[.int .i64 0, .string ⟨#[]⟩, .string ⟨#[]⟩, .string ⟨#[]⟩] : Array Value)[j]? := fun y => (Z3.below y.below).cell
            have fZ : ∀ (y : Aft W3) j, y.w1.frozen? ⟨w.heap.size, j, none⟩ = false := fun y => (Z3.below y.below).frozen
            have cM : ∀ (y : Aft W3) j, y.w1.cell? ⟨G, j, none⟩ = (#[.int .i64 kk, .string b, .string c, .string d] : Array Value)[j]? := fun y => (B3.below y.below).cell
            have cZ0 := Z3.cell
            have fZ0 := Z3.frozen
            have cM0 := B3.cell
            clear B3 Z3 k0 k1 k2 k3
            go_wp2_with (first
              | (go_at_call 41; refine (HK.out _).mono ?_; rintro e _ ⟨rfl, rfl⟩)
              | (go_at_call 49; refine (Aft.first (w := W3) (HO4.out ⟨W3, Below.refl _ _⟩)).mono ?_; rintro e _ ⟨rfl, y, rfl⟩)
              | (go_at_call 56; refine (Aft.call (HT4.out _)).mono ?_; rintro e _ ⟨rfl, y, rfl⟩))
            rw [HA.out]
            refine bodyPost_ret (v := Value.tuple #[.agg #[.int .i64 0, .string ⟨#[]⟩, .string ⟨#[]⟩, .string ⟨#[]⟩], .bool false]) (by simp [results, Tryd.results74, go_sem, cZ]) rfl ⟨rfl, ?_⟩
            have hb5 := held_next hb3 (Aft.below (w := W3) y)
            first
              | with_reducible exact hb5
              | with_reducible exact hb3
              | exact (((hb5.setCell (by simp) _).setCell (by simp) _).setCell (by simp) _).setCell (by simp) _
              | exact (((hb3.setCell (by simp) _).setCell (by simp) _).setCell (by simp) _).setCell (by simp) _
          · skip
            have HTx4 := Lib.hid HTx3.out
            have HA := Lib.hid (show ansK s b c (topB d) kk = Value.tuple #[.agg #[.int .i64 kk, .string b, .string c, .string d], .bool true] from by rw [HR.out, v1, v3]; rfl)
            have HK := Lib.hid (fun W => HKd.out W _ v1)
            clear HR
            go_wp2_with fail
            have B3 := B2
            have Z3 := Z2
            have hb3 := hb2
            generalize W2 = W3 at *
            clear cG fG B2 Z2 hb2
            have k0 : ∀ y : Aft W3, y.w1.cell? ⟨G, 0, none⟩ = some (.int .i64 kk) := fun y => (B3.below y.below).cell 0
            have k1 : ∀ y : Aft W3, y.w1.cell? ⟨G, 1, none⟩ = some (.string b) := fun y => (B3.below y.below).cell 1
            have k2 : ∀ y : Aft W3, y.w1.cell? ⟨G, 2, none⟩ = some (.string c) := fun y => (B3.below y.below).cell 2
            have k3 : ∀ y : Aft W3, y.w1.cell? ⟨G, 3, none⟩ = some (.string d) := fun y => (B3.below y.below).cell 3
            have HO4 := Lib.hid (fun y : Aft W3 => HOk2.out y.w1 (k0 y) (k1 y) (k2 y) (k3 y))
            have HT4 := Lib.hid (fun y : Aft W3 => HTx4.out y.w1 (k0 y) (k1 y) (k2 y) (k3 y))
            clear HTx4 HTx3
            clear HOk2 HTx2
            have cZ : ∀ (y : Aft W3) j, y.w1.cell? ⟨w.heap.size, j, none⟩ = (#[.int .i64 0, .string ⟨#[]⟩, .string ⟨#[]⟩, .string ⟨#[]⟩] : Array Value)[j]? := fun y => (Z3.below y.below).cell
            have fZ : ∀ (y : Aft W3) j, y.w1.frozen? ⟨w.heap.size, j, none⟩ = false := fun y => (Z3.below y.below).frozen
            have cM : ∀ (y : Aft W3) j, y.w1.cell? ⟨G, j, none⟩ = (#[.int .i64 kk, .string b, .string c, .string d] : Array Value)[j]? := fun y => (B3.below y.below).cell
            have cZ0 := Z3.cell
            have fZ0 := Z3.frozen
            have cM0 := B3.cell
            clear B3 Z3 k0 k1 k2 k3
            go_wp2_with (first
              | (go_at_call 41; refine (HK.out _).mono ?_; rintro e _ ⟨rfl, rfl⟩)
              | (go_at_call 49; refine (Aft.first (w := W3) (HO4.out ⟨W3, Below.refl _ _⟩)).mono ?_; rintro e _ ⟨rfl, y, rfl⟩)
              | (go_at_call 56; refine (Aft.call (HT4.out _)).mono ?_; rintro e _ ⟨rfl, y, rfl⟩))
            rw [HA.out]
            refine bodyPost_ret (v := Value.tuple #[.agg #[.int .i64 kk, .string b, .string c, .string d], .bool true]) (by simp [results, Tryd.results74, go_sem, cZ]) rfl ⟨rfl, ?_⟩
            have hb5 := held_next hb3 (Aft.below (w := W3) y)
            first
              | with_reducible exact hb5
              | with_reducible exact hb3
              | exact (((hb5.setCell (by simp) _).setCell (by simp) _).setCell (by simp) _).setCell (by simp) _
              | exact (((hb3.setCell (by simp) _).setCell (by simp) _).setCell (by simp) _).setCell (by simp) _
    · skip
      have ht : topB d = ⟨#[]⟩ := by unfold topB; rw [if_pos (by simpa using hd)]
      have htz : (⟨#[]⟩ : ByteArray).size ≤ 1048576 := by decide
      have HR := Lib.hid (show ansK s b c (topB d) kk = if (inR kk 1 9 && (okM kk b c ⟨#[]⟩ && ((markTxt (pickS markNames kk) b c ⟨#[]⟩).toList == s.toList))) = true then Value.tuple #[.agg #[.int .i64 kk, .string b, .string c, .string ⟨#[]⟩], .bool true] else Value.tuple #[.agg #[.int .i64 0, .string ⟨#[]⟩, .string ⟨#[]⟩, .string ⟨#[]⟩], .bool false] from by rw [ht]; rfl)
      have HOk2 := Lib.hid (fun W c0 c1 c2 c3 => HOk.out G ⟨#[]⟩ W c0 c1 c2 c3)
      have HTx2 := Lib.hid (fun hr W c0 c1 c2 c3 => HTx.out hr G ⟨#[]⟩ htz W c0 c1 c2 c3)
      have cG := B2.cell
      have fG := B2.frozen
      clear ht htz HOk HTx
      generalize okM kk b c ⟨#[]⟩ = v2 at *
      generalize hX : markTxt (pickS markNames kk) b c ⟨#[]⟩ = X at *
      clear hX
      cases v1 : inR kk 1 9
      · skip
        have HA := Lib.hid (show ansK s b c (topB d) kk = Value.tuple #[.agg #[.int .i64 0, .string ⟨#[]⟩, .string ⟨#[]⟩, .string ⟨#[]⟩], .bool false] from by rw [HR.out, v1]; rfl)
        have HK := Lib.hid (fun W => HKd.out W _ v1)
        clear HR
        go_wp2_with fail
        have B3 := B2.set_ 3 (.string ⟨#[]⟩)
        have Z3 := Z2.off_ hne 3 (.string ⟨#[]⟩)
        have hb3 := Below.setCell (p := ⟨G, 3, none⟩) hb2 hlG (.string ⟨#[]⟩)
        replace B3 : Blk (W2.setCell ⟨G, 3, none⟩ (.string ⟨#[]⟩)) G 23 #[.int .i64 kk, .string b, .string c, .string ⟨#[]⟩] := B3
        generalize W2.setCell ⟨G, 3, none⟩ (.string ⟨#[]⟩) = W3 at *
        clear cG fG B2 Z2 hb2
        have k0 : ∀ y : Aft W3, y.w1.cell? ⟨G, 0, none⟩ = some (.int .i64 kk) := fun y => (B3.below y.below).cell 0
        have k1 : ∀ y : Aft W3, y.w1.cell? ⟨G, 1, none⟩ = some (.string b) := fun y => (B3.below y.below).cell 1
        have k2 : ∀ y : Aft W3, y.w1.cell? ⟨G, 2, none⟩ = some (.string c) := fun y => (B3.below y.below).cell 2
        have k3 : ∀ y : Aft W3, y.w1.cell? ⟨G, 3, none⟩ = some (.string ⟨#[]⟩) := fun y => (B3.below y.below).cell 3
        have HO4 := Lib.hid (fun y : Aft W3 => HOk2.out y.w1 (k0 y) (k1 y) (k2 y) (k3 y))
        clear HOk2 HTx2
        have cZ : ∀ (y : Aft W3) j, y.w1.cell? ⟨w.heap.size, j, none⟩ = (#[.int .i64 0, .string ⟨#[]⟩, .string ⟨#[]⟩, .string ⟨#[]⟩] : Array Value)[j]? := fun y => (Z3.below y.below).cell
        have fZ : ∀ (y : Aft W3) j, y.w1.frozen? ⟨w.heap.size, j, none⟩ = false := fun y => (Z3.below y.below).frozen
        have cM : ∀ (y : Aft W3) j, y.w1.cell? ⟨G, j, none⟩ = (#[.int .i64 kk, .string b, .string c, .string ⟨#[]⟩] : Array Value)[j]? := fun y => (B3.below y.below).cell
        have cZ0 := Z3.cell
        have fZ0 := Z3.frozen
        have cM0 := B3.cell
        clear B3 Z3 k0 k1 k2 k3
        go_wp2_with (first
          | (go_at_call 41; refine (HK.out _).mono ?_; rintro e _ ⟨rfl, rfl⟩)
          | (go_at_call 49; refine (Aft.first (w := W3) (HO4.out ⟨W3, Below.refl _ _⟩)).mono ?_; rintro e _ ⟨rfl, y, rfl⟩))
        rw [HA.out]
        refine bodyPost_ret (v := Value.tuple #[.agg #[.int .i64 0, .string ⟨#[]⟩, .string ⟨#[]⟩, .string ⟨#[]⟩], .bool false]) (by simp [results, Tryd.results74, go_sem, cZ0]) rfl ⟨rfl, ?_⟩
        have hb5 := held_next hb3 (Aft.below (w := W3) ⟨W3, Below.refl _ _⟩)
        first
          | with_reducible exact hb5
          | with_reducible exact hb3
          | exact (((hb5.setCell (by simp) _).setCell (by simp) _).setCell (by simp) _).setCell (by simp) _
          | exact (((hb3.setCell (by simp) _).setCell (by simp) _).setCell (by simp) _).setCell (by simp) _
      · have HTx3 := Lib.hid (HTx2.out v1)
        cases v2
        · skip
          have HTx4 := Lib.hid HTx3.out
          have HA := Lib.hid (show ansK s b c (topB d) kk = Value.tuple #[.agg #[.int .i64 0, .string ⟨#[]⟩, .string ⟨#[]⟩, .string ⟨#[]⟩], .bool false] from by rw [HR.out, v1]; rfl)
          have HK := Lib.hid (fun W => HKd.out W _ v1)
          clear HR
          go_wp2_with fail
          have B3 := B2.set_ 3 (.string ⟨#[]⟩)
          have Z3 := Z2.off_ hne 3 (.string ⟨#[]⟩)
          have hb3 := Below.setCell (p := ⟨G, 3, none⟩) hb2 hlG (.string ⟨#[]⟩)
          replace B3 : Blk (W2.setCell ⟨G, 3, none⟩ (.string ⟨#[]⟩)) G 23 #[.int .i64 kk, .string b, .string c, .string ⟨#[]⟩] := B3
          generalize W2.setCell ⟨G, 3, none⟩ (.string ⟨#[]⟩) = W3 at *
          clear cG fG B2 Z2 hb2
          have k0 : ∀ y : Aft W3, y.w1.cell? ⟨G, 0, none⟩ = some (.int .i64 kk) := fun y => (B3.below y.below).cell 0
          have k1 : ∀ y : Aft W3, y.w1.cell? ⟨G, 1, none⟩ = some (.string b) := fun y => (B3.below y.below).cell 1
          have k2 : ∀ y : Aft W3, y.w1.cell? ⟨G, 2, none⟩ = some (.string c) := fun y => (B3.below y.below).cell 2
          have k3 : ∀ y : Aft W3, y.w1.cell? ⟨G, 3, none⟩ = some (.string ⟨#[]⟩) := fun y => (B3.below y.below).cell 3
          have HO4 := Lib.hid (fun y : Aft W3 => HOk2.out y.w1 (k0 y) (k1 y) (k2 y) (k3 y))
          have HT4 := Lib.hid (fun y : Aft W3 => HTx4.out y.w1 (k0 y) (k1 y) (k2 y) (k3 y))
          clear HTx4 HTx3
          clear HOk2 HTx2
          have cZ : ∀ (y : Aft W3) j, y.w1.cell? ⟨w.heap.size, j, none⟩ = (#[.int .i64 0, .string ⟨#[]⟩, .string ⟨#[]⟩, .string ⟨#[]⟩] : Array Value)[j]? := fun y => (Z3.below y.below).cell
          have fZ : ∀ (y : Aft W3) j, y.w1.frozen? ⟨w.heap.size, j, none⟩ = false := fun y => (Z3.below y.below).frozen
          have cM : ∀ (y : Aft W3) j, y.w1.cell? ⟨G, j, none⟩ = (#[.int .i64 kk, .string b, .string c, .string ⟨#[]⟩] : Array Value)[j]? := fun y => (B3.below y.below).cell
          have cZ0 := Z3.cell
          have fZ0 := Z3.frozen
          have cM0 := B3.cell
          clear B3 Z3 k0 k1 k2 k3
          go_wp2_with (first
            | (go_at_call 41; refine (HK.out _).mono ?_; rintro e _ ⟨rfl, rfl⟩)
            | (go_at_call 49; refine (Aft.first (w := W3) (HO4.out ⟨W3, Below.refl _ _⟩)).mono ?_; rintro e _ ⟨rfl, y, rfl⟩)
            | (go_at_call 56; refine (Aft.call (HT4.out _)).mono ?_; rintro e _ ⟨rfl, y, rfl⟩))
          rw [HA.out]
          refine bodyPost_ret (v := Value.tuple #[.agg #[.int .i64 0, .string ⟨#[]⟩, .string ⟨#[]⟩, .string ⟨#[]⟩], .bool false]) (by simp [results, Tryd.results74, go_sem, cZ]) rfl ⟨rfl, ?_⟩
          have hb5 := held_next hb3 (Aft.below (w := W3) y)
          first
            | with_reducible exact hb5
            | with_reducible exact hb3
            | exact (((hb5.setCell (by simp) _).setCell (by simp) _).setCell (by simp) _).setCell (by simp) _
            | exact (((hb3.setCell (by simp) _).setCell (by simp) _).setCell (by simp) _).setCell (by simp) _
        · cases v3 : (X.toList == s.toList)
          · skip
            have HTx4 := Lib.hid HTx3.out
            have HA := Lib.hid (show ansK s b c (topB d) kk = Value.tuple #[.agg #[.int .i64 0, .string ⟨#[]⟩, .string ⟨#[]⟩, .string ⟨#[]⟩], .bool false] from by rw [HR.out, v1, v3]; rfl)
            have HK := Lib.hid (fun W => HKd.out W _ v1)
            clear HR
            go_wp2_with fail
            have B3 := B2.set_ 3 (.string ⟨#[]⟩)
            have Z3 := Z2.off_ hne 3 (.string ⟨#[]⟩)
            have hb3 := Below.setCell (p := ⟨G, 3, none⟩) hb2 hlG (.string ⟨#[]⟩)
            replace B3 : Blk (W2.setCell ⟨G, 3, none⟩ (.string ⟨#[]⟩)) G 23 #[.int .i64 kk, .string b, .string c, .string ⟨#[]⟩] := B3
            generalize W2.setCell ⟨G, 3, none⟩ (.string ⟨#[]⟩) = W3 at *
            clear cG fG B2 Z2 hb2
            have k0 : ∀ y : Aft W3, y.w1.cell? ⟨G, 0, none⟩ = some (.int .i64 kk) := fun y => (B3.below y.below).cell 0
            have k1 : ∀ y : Aft W3, y.w1.cell? ⟨G, 1, none⟩ = some (.string b) := fun y => (B3.below y.below).cell 1
            have k2 : ∀ y : Aft W3, y.w1.cell? ⟨G, 2, none⟩ = some (.string c) := fun y => (B3.below y.below).cell 2
            have k3 : ∀ y : Aft W3, y.w1.cell? ⟨G, 3, none⟩ = some (.string ⟨#[]⟩) := fun y => (B3.below y.below).cell 3
            have HO4 := Lib.hid (fun y : Aft W3 => HOk2.out y.w1 (k0 y) (k1 y) (k2 y) (k3 y))
            have HT4 := Lib.hid (fun y : Aft W3 => HTx4.out y.w1 (k0 y) (k1 y) (k2 y) (k3 y))
            clear HTx4 HTx3
            clear HOk2 HTx2
            have cZ : ∀ (y : Aft W3) j, y.w1.cell? ⟨w.heap.size, j, none⟩ = (#[.int .i64 0, .string ⟨#[]⟩, .string ⟨#[]⟩, .string ⟨#[]⟩] : Array Value)[j]? := fun y => (Z3.below y.below).cell
            have fZ : ∀ (y : Aft W3) j, y.w1.frozen? ⟨w.heap.size, j, none⟩ = false := fun y => (Z3.below y.below).frozen
            have cM : ∀ (y : Aft W3) j, y.w1.cell? ⟨G, j, none⟩ = (#[.int .i64 kk, .string b, .string c, .string ⟨#[]⟩] : Array Value)[j]? := fun y => (B3.below y.below).cell
            have cZ0 := Z3.cell
            have fZ0 := Z3.frozen
            have cM0 := B3.cell
            clear B3 Z3 k0 k1 k2 k3
            go_wp2_with (first
              | (go_at_call 41; refine (HK.out _).mono ?_; rintro e _ ⟨rfl, rfl⟩)
              | (go_at_call 49; refine (Aft.first (w := W3) (HO4.out ⟨W3, Below.refl _ _⟩)).mono ?_; rintro e _ ⟨rfl, y, rfl⟩)
              | (go_at_call 56; refine (Aft.call (HT4.out _)).mono ?_; rintro e _ ⟨rfl, y, rfl⟩))
            rw [HA.out]
            refine bodyPost_ret (v := Value.tuple #[.agg #[.int .i64 0, .string ⟨#[]⟩, .string ⟨#[]⟩, .string ⟨#[]⟩], .bool false]) (by simp [results, Tryd.results74, go_sem, cZ]) rfl ⟨rfl, ?_⟩
            have hb5 := held_next hb3 (Aft.below (w := W3) y)
            first
              | with_reducible exact hb5
              | with_reducible exact hb3
              | exact (((hb5.setCell (by simp) _).setCell (by simp) _).setCell (by simp) _).setCell (by simp) _
              | exact (((hb3.setCell (by simp) _).setCell (by simp) _).setCell (by simp) _).setCell (by simp) _
          · skip
            have HTx4 := Lib.hid HTx3.out
            have HA := Lib.hid (show ansK s b c (topB d) kk = Value.tuple #[.agg #[.int .i64 kk, .string b, .string c, .string ⟨#[]⟩], .bool true] from by rw [HR.out, v1, v3]; rfl)
            have HK := Lib.hid (fun W => HKd.out W _ v1)
            clear HR
            go_wp2_with fail
            have B3 := B2.set_ 3 (.string ⟨#[]⟩)
            have Z3 := Z2.off_ hne 3 (.string ⟨#[]⟩)
            have hb3 := Below.setCell (p := ⟨G, 3, none⟩) hb2 hlG (.string ⟨#[]⟩)
            replace B3 : Blk (W2.setCell ⟨G, 3, none⟩ (.string ⟨#[]⟩)) G 23 #[.int .i64 kk, .string b, .string c, .string ⟨#[]⟩] := B3
            generalize W2.setCell ⟨G, 3, none⟩ (.string ⟨#[]⟩) = W3 at *
            clear cG fG B2 Z2 hb2
            have k0 : ∀ y : Aft W3, y.w1.cell? ⟨G, 0, none⟩ = some (.int .i64 kk) := fun y => (B3.below y.below).cell 0
            have k1 : ∀ y : Aft W3, y.w1.cell? ⟨G, 1, none⟩ = some (.string b) := fun y => (B3.below y.below).cell 1
            have k2 : ∀ y : Aft W3, y.w1.cell? ⟨G, 2, none⟩ = some (.string c) := fun y => (B3.below y.below).cell 2
            have k3 : ∀ y : Aft W3, y.w1.cell? ⟨G, 3, none⟩ = some (.string ⟨#[]⟩) := fun y => (B3.below y.below).cell 3
            have HO4 := Lib.hid (fun y : Aft W3 => HOk2.out y.w1 (k0 y) (k1 y) (k2 y) (k3 y))
            have HT4 := Lib.hid (fun y : Aft W3 => HTx4.out y.w1 (k0 y) (k1 y) (k2 y) (k3 y))
            clear HTx4 HTx3
            clear HOk2 HTx2
            have cZ : ∀ (y : Aft W3) j, y.w1.cell? ⟨w.heap.size, j, none⟩ = (#[.int .i64 0, .string ⟨#[]⟩, .string ⟨#[]⟩, .string ⟨#[]⟩] : Array Value)[j]? := fun y => (Z3.below y.below).cell
            have fZ : ∀ (y : Aft W3) j, y.w1.frozen? ⟨w.heap.size, j, none⟩ = false := fun y => (Z3.below y.below).frozen
            have cM : ∀ (y : Aft W3) j, y.w1.cell? ⟨G, j, none⟩ = (#[.int .i64 kk, .string b, .string c, .string ⟨#[]⟩] : Array Value)[j]? := fun y => (B3.below y.below).cell
            have cZ0 := Z3.cell
            have fZ0 := Z3.frozen
            have cM0 := B3.cell
            clear B3 Z3 k0 k1 k2 k3
            go_wp2_with (first
              | (go_at_call 41; refine (HK.out _).mono ?_; rintro e _ ⟨rfl, rfl⟩)
              | (go_at_call 49; refine (Aft.first (w := W3) (HO4.out ⟨W3, Below.refl _ _⟩)).mono ?_; rintro e _ ⟨rfl, y, rfl⟩)
              | (go_at_call 56; refine (Aft.call (HT4.out _)).mono ?_; rintro e _ ⟨rfl, y, rfl⟩))
            rw [HA.out]
            refine bodyPost_ret (v := Value.tuple #[.agg #[.int .i64 kk, .string b, .string c, .string ⟨#[]⟩], .bool true]) (by simp [results, Tryd.results74, go_sem, cZ]) rfl ⟨rfl, ?_⟩
            have hb5 := held_next hb3 (Aft.below (w := W3) y)
            first
              | with_reducible exact hb5
              | with_reducible exact hb3
              | exact (((hb5.setCell (by simp) _).setCell (by simp) _).setCell (by simp) _).setCell (by simp) _
              | exact (((hb3.setCell (by simp) _).setCell (by simp) _).setCell (by simp) _).setCell (by simp) _
  · have hne : w.heap.size ≠ w1.heap.size := Nat.ne_of_lt hZ.lt
    have B2 : Blk ((((u6.setCell ⟨w1.heap.size, 0, none⟩ (.int .i64 kk)).setCell ⟨w1.heap.size, 1, none⟩ (.string b)).setCell ⟨w1.heap.size, 2, none⟩ (.string c)).setCell ⟨w1.heap.size, 3, none⟩ (.string d)) w1.heap.size 23 #[.int .i64 kk, .string b, .string c, .string d] := ((((nB.set_ 0 (.int .i64 kk)).set_ 1 (.string b)).set_ 2 (.string c)).set_ 3 (.string d))
    have Z2 : Blk ((((u6.setCell ⟨w1.heap.size, 0, none⟩ (.int .i64 kk)).setCell ⟨w1.heap.size, 1, none⟩ (.string b)).setCell ⟨w1.heap.size, 2, none⟩ (.string c)).setCell ⟨w1.heap.size, 3, none⟩ (.string d)) w.heap.size 23 #[.int .i64 0, .string ⟨#[]⟩, .string ⟨#[]⟩, .string ⟨#[]⟩] := (((((hZ.below q6).off_ hne 0 (.int .i64 kk)).off_ hne 1 (.string b)).off_ hne 2 (.string c)).off_ hne 3 (.string d))
    have hb2 : Below w.heap.size w ((((u6.setCell ⟨w1.heap.size, 0, none⟩ (.int .i64 kk)).setCell ⟨w1.heap.size, 1, none⟩ (.string b)).setCell ⟨w1.heap.size, 2, none⟩ (.string c)).setCell ⟨w1.heap.size, 3, none⟩ (.string d)) := (Below.setCell (p := ⟨w1.heap.size, 3, none⟩) (Below.setCell (p := ⟨w1.heap.size, 2, none⟩) (Below.setCell (p := ⟨w1.heap.size, 1, none⟩) (Below.setCell (p := ⟨w1.heap.size, 0, none⟩) (held_next hbw q6) hbw.size (.int .i64 kk)) hbw.size (.string b)) hbw.size (.string c)) hbw.size (.string d))
    have hlG : w.heap.size ≤ w1.heap.size := hbw.size
    generalize ((((u6.setCell ⟨w1.heap.size, 0, none⟩ (.int .i64 kk)).setCell ⟨w1.heap.size, 1, none⟩ (.string b)).setCell ⟨w1.heap.size, 2, none⟩ (.string c)).setCell ⟨w1.heap.size, 3, none⟩ (.string d)) = W2 at *
    clear nB zc0 zc1 zc2 zc3 zf q6 b6 n0 n1 n2 n3 hZ hbw hgl m0 m1 m2 m3 gne HNm
    generalize w1.heap.size = G at *
    cases hd : (d.toList == [45])
    · skip
      have ht : topB d = d := by unfold topB; rw [if_neg (by simpa using hd)]
      have htz : (d : ByteArray).size ≤ 1048576 := by omega
      have HR := Lib.hid (show ansK s b c (topB d) kk = if (inR kk 1 9 && (okM kk b c d && ((markTxt (pickS markNames kk) b c d).toList == s.toList))) = true then Value.tuple #[.agg #[.int .i64 kk, .string b, .string c, .string d], .bool true] else Value.tuple #[.agg #[.int .i64 0, .string ⟨#[]⟩, .string ⟨#[]⟩, .string ⟨#[]⟩], .bool false] from by rw [ht]; rfl)
      have HOk2 := Lib.hid (fun W c0 c1 c2 c3 => HOk.out G d W c0 c1 c2 c3)
      have HTx2 := Lib.hid (fun hr W c0 c1 c2 c3 => HTx.out hr G d htz W c0 c1 c2 c3)
      have cG := B2.cell
      have fG := B2.frozen
      clear ht htz HOk HTx
      generalize okM kk b c d = v2 at *
      generalize hX : markTxt (pickS markNames kk) b c d = X at *
      clear hX
      cases v1 : inR kk 1 9
      · skip
        have HA := Lib.hid (show ansK s b c (topB d) kk = Value.tuple #[.agg #[.int .i64 0, .string ⟨#[]⟩, .string ⟨#[]⟩, .string ⟨#[]⟩], .bool false] from by rw [HR.out, v1]; rfl)
        have HK := Lib.hid (fun W => HKd.out W _ v1)
        clear HR
        go_wp2_with fail
        have B3 := B2
        have Z3 := Z2
        have hb3 := hb2
        generalize W2 = W3 at *
        clear cG fG B2 Z2 hb2
        have k0 : ∀ y : Aft W3, y.w1.cell? ⟨G, 0, none⟩ = some (.int .i64 kk) := fun y => (B3.below y.below).cell 0
        have k1 : ∀ y : Aft W3, y.w1.cell? ⟨G, 1, none⟩ = some (.string b) := fun y => (B3.below y.below).cell 1
        have k2 : ∀ y : Aft W3, y.w1.cell? ⟨G, 2, none⟩ = some (.string c) := fun y => (B3.below y.below).cell 2
        have k3 : ∀ y : Aft W3, y.w1.cell? ⟨G, 3, none⟩ = some (.string d) := fun y => (B3.below y.below).cell 3
        have HO4 := Lib.hid (fun y : Aft W3 => HOk2.out y.w1 (k0 y) (k1 y) (k2 y) (k3 y))
        clear HOk2 HTx2
        have cZ : ∀ (y : Aft W3) j, y.w1.cell? ⟨w.heap.size, j, none⟩ = (#[.int .i64 0, .string ⟨#[]⟩, .string ⟨#[]⟩, .string ⟨#[]⟩] : Array Value)[j]? := fun y => (Z3.below y.below).cell
        have fZ : ∀ (y : Aft W3) j, y.w1.frozen? ⟨w.heap.size, j, none⟩ = false := fun y => (Z3.below y.below).frozen
        have cM : ∀ (y : Aft W3) j, y.w1.cell? ⟨G, j, none⟩ = (#[.int .i64 kk, .string b, .string c, .string d] : Array Value)[j]? := fun y => (B3.below y.below).cell
        have cZ0 := Z3.cell
        have fZ0 := Z3.frozen
        have cM0 := B3.cell
        clear B3 Z3 k0 k1 k2 k3
        go_wp2_with (first
          | (go_at_call 41; refine (HK.out _).mono ?_; rintro e _ ⟨rfl, rfl⟩)
          | (go_at_call 49; refine (Aft.first (w := W3) (HO4.out ⟨W3, Below.refl _ _⟩)).mono ?_; rintro e _ ⟨rfl, y, rfl⟩))
        rw [HA.out]
        refine bodyPost_ret (v := Value.tuple #[.agg #[.int .i64 0, .string ⟨#[]⟩, .string ⟨#[]⟩, .string ⟨#[]⟩], .bool false]) (by simp [results, Tryd.results74, go_sem, cZ0]) rfl ⟨rfl, ?_⟩
        have hb5 := held_next hb3 (Aft.below (w := W3) ⟨W3, Below.refl _ _⟩)
        first
          | with_reducible exact hb5
          | with_reducible exact hb3
          | exact (((hb5.setCell (by simp) _).setCell (by simp) _).setCell (by simp) _).setCell (by simp) _
          | exact (((hb3.setCell (by simp) _).setCell (by simp) _).setCell (by simp) _).setCell (by simp) _
      · have HTx3 := Lib.hid (HTx2.out v1)
        cases v2
        · skip
          have HTx4 := Lib.hid HTx3.out
          have HA := Lib.hid (show ansK s b c (topB d) kk = Value.tuple #[.agg #[.int .i64 0, .string ⟨#[]⟩, .string ⟨#[]⟩, .string ⟨#[]⟩], .bool false] from by rw [HR.out, v1]; rfl)
          have HK := Lib.hid (fun W => HKd.out W _ v1)
          clear HR
          go_wp2_with fail
          have B3 := B2
          have Z3 := Z2
          have hb3 := hb2
          generalize W2 = W3 at *
          clear cG fG B2 Z2 hb2
          have k0 : ∀ y : Aft W3, y.w1.cell? ⟨G, 0, none⟩ = some (.int .i64 kk) := fun y => (B3.below y.below).cell 0
          have k1 : ∀ y : Aft W3, y.w1.cell? ⟨G, 1, none⟩ = some (.string b) := fun y => (B3.below y.below).cell 1
          have k2 : ∀ y : Aft W3, y.w1.cell? ⟨G, 2, none⟩ = some (.string c) := fun y => (B3.below y.below).cell 2
          have k3 : ∀ y : Aft W3, y.w1.cell? ⟨G, 3, none⟩ = some (.string d) := fun y => (B3.below y.below).cell 3
          have HO4 := Lib.hid (fun y : Aft W3 => HOk2.out y.w1 (k0 y) (k1 y) (k2 y) (k3 y))
          have HT4 := Lib.hid (fun y : Aft W3 => HTx4.out y.w1 (k0 y) (k1 y) (k2 y) (k3 y))
          clear HTx4 HTx3
          clear HOk2 HTx2
          have cZ : ∀ (y : Aft W3) j, y.w1.cell? ⟨w.heap.size, j, none⟩ = (#[.int .i64 0, .string ⟨#[]⟩, .string ⟨#[]⟩, .string ⟨#[]⟩] : Array Value)[j]? := fun y => (Z3.below y.below).cell
          have fZ : ∀ (y : Aft W3) j, y.w1.frozen? ⟨w.heap.size, j, none⟩ = false := fun y => (Z3.below y.below).frozen
          have cM : ∀ (y : Aft W3) j, y.w1.cell? ⟨G, j, none⟩ = (#[.int .i64 kk, .string b, .string c, .string d] : Array Value)[j]? := fun y => (B3.below y.below).cell
          have cZ0 := Z3.cell
          have fZ0 := Z3.frozen
          have cM0 := B3.cell
          clear B3 Z3 k0 k1 k2 k3
          go_wp2_with (first
            | (go_at_call 41; refine (HK.out _).mono ?_; rintro e _ ⟨rfl, rfl⟩)
            | (go_at_call 49; refine (Aft.first (w := W3) (HO4.out ⟨W3, Below.refl _ _⟩)).mono ?_; rintro e _ ⟨rfl, y, rfl⟩)
            | (go_at_call 56; refine (Aft.call (HT4.out _)).mono ?_; rintro e _ ⟨rfl, y, rfl⟩))
          rw [HA.out]
          refine bodyPost_ret (v := Value.tuple #[.agg #[.int .i64 0, .string ⟨#[]⟩, .string ⟨#[]⟩, .string ⟨#[]⟩], .bool false]) (by simp [results, Tryd.results74, go_sem, cZ]) rfl ⟨rfl, ?_⟩
          have hb5 := held_next hb3 (Aft.below (w := W3) y)
          first
            | with_reducible exact hb5
            | with_reducible exact hb3
            | exact (((hb5.setCell (by simp) _).setCell (by simp) _).setCell (by simp) _).setCell (by simp) _
            | exact (((hb3.setCell (by simp) _).setCell (by simp) _).setCell (by simp) _).setCell (by simp) _
        · cases v3 : (X.toList == s.toList)
          · skip
            have HTx4 := Lib.hid HTx3.out
            have HA := Lib.hid (show ansK s b c (topB d) kk = Value.tuple #[.agg #[.int .i64 0, .string ⟨#[]⟩, .string ⟨#[]⟩, .string ⟨#[]⟩], .bool false] from by rw [HR.out, v1, v3]; rfl)
            have HK := Lib.hid (fun W => HKd.out W _ v1)
            clear HR
            go_wp2_with fail
            have B3 := B2
            have Z3 := Z2
            have hb3 := hb2
            generalize W2 = W3 at *
            clear cG fG B2 Z2 hb2
            have k0 : ∀ y : Aft W3, y.w1.cell? ⟨G, 0, none⟩ = some (.int .i64 kk) := fun y => (B3.below y.below).cell 0
            have k1 : ∀ y : Aft W3, y.w1.cell? ⟨G, 1, none⟩ = some (.string b) := fun y => (B3.below y.below).cell 1
            have k2 : ∀ y : Aft W3, y.w1.cell? ⟨G, 2, none⟩ = some (.string c) := fun y => (B3.below y.below).cell 2
            have k3 : ∀ y : Aft W3, y.w1.cell? ⟨G, 3, none⟩ = some (.string d) := fun y => (B3.below y.below).cell 3
            have HO4 := Lib.hid (fun y : Aft W3 => HOk2.out y.w1 (k0 y) (k1 y) (k2 y) (k3 y))
            have HT4 := Lib.hid (fun y : Aft W3 => HTx4.out y.w1 (k0 y) (k1 y) (k2 y) (k3 y))
            clear HTx4 HTx3
            clear HOk2 HTx2
            have cZ : ∀ (y : Aft W3) j, y.w1.cell? ⟨w.heap.size, j, none⟩ = (#[.int .i64 0, .string ⟨#[]⟩, .string ⟨#[]⟩, .string ⟨#[]⟩] : Array Value)[j]? := fun y => (Z3.below y.below).cell
            have fZ : ∀ (y : Aft W3) j, y.w1.frozen? ⟨w.heap.size, j, none⟩ = false := fun y => (Z3.below y.below).frozen
            have cM : ∀ (y : Aft W3) j, y.w1.cell? ⟨G, j, none⟩ = (#[.int .i64 kk, .string b, .string c, .string d] : Array Value)[j]? := fun y => (B3.below y.below).cell
            have cZ0 := Z3.cell
            have fZ0 := Z3.frozen
            have cM0 := B3.cell
            clear B3 Z3 k0 k1 k2 k3
            go_wp2_with (first
              | (go_at_call 41; refine (HK.out _).mono ?_; rintro e _ ⟨rfl, rfl⟩)
              | (go_at_call 49; refine (Aft.first (w := W3) (HO4.out ⟨W3, Below.refl _ _⟩)).mono ?_; rintro e _ ⟨rfl, y, rfl⟩)
              | (go_at_call 56; refine (Aft.call (HT4.out _)).mono ?_; rintro e _ ⟨rfl, y, rfl⟩))
            rw [HA.out]
            refine bodyPost_ret (v := Value.tuple #[.agg #[.int .i64 0, .string ⟨#[]⟩, .string ⟨#[]⟩, .string ⟨#[]⟩], .bool false]) (by simp [results, Tryd.results74, go_sem, cZ]) rfl ⟨rfl, ?_⟩
            have hb5 := held_next hb3 (Aft.below (w := W3) y)
            first
              | with_reducible exact hb5
              | with_reducible exact hb3
              | exact (((hb5.setCell (by simp) _).setCell (by simp) _).setCell (by simp) _).setCell (by simp) _
              | exact (((hb3.setCell (by simp) _).setCell (by simp) _).setCell (by simp) _).setCell (by simp) _
          · skip
            have HTx4 := Lib.hid HTx3.out
            have HA := Lib.hid (show ansK s b c (topB d) kk = Value.tuple #[.agg #[.int .i64 kk, .string b, .string c, .string d], .bool true] from by rw [HR.out, v1, v3]; rfl)
            have HK := Lib.hid (fun W => HKd.out W _ v1)
            clear HR
            go_wp2_with fail
            have B3 := B2
            have Z3 := Z2
            have hb3 := hb2
            generalize W2 = W3 at *
            clear cG fG B2 Z2 hb2
            have k0 : ∀ y : Aft W3, y.w1.cell? ⟨G, 0, none⟩ = some (.int .i64 kk) := fun y => (B3.below y.below).cell 0
            have k1 : ∀ y : Aft W3, y.w1.cell? ⟨G, 1, none⟩ = some (.string b) := fun y => (B3.below y.below).cell 1
            have k2 : ∀ y : Aft W3, y.w1.cell? ⟨G, 2, none⟩ = some (.string c) := fun y => (B3.below y.below).cell 2
            have k3 : ∀ y : Aft W3, y.w1.cell? ⟨G, 3, none⟩ = some (.string d) := fun y => (B3.below y.below).cell 3
            have HO4 := Lib.hid (fun y : Aft W3 => HOk2.out y.w1 (k0 y) (k1 y) (k2 y) (k3 y))
            have HT4 := Lib.hid (fun y : Aft W3 => HTx4.out y.w1 (k0 y) (k1 y) (k2 y) (k3 y))
            clear HTx4 HTx3
            clear HOk2 HTx2
            have cZ : ∀ (y : Aft W3) j, y.w1.cell? ⟨w.heap.size, j, none⟩ = (#[.int .i64 0, .string ⟨#[]⟩, .string ⟨#[]⟩, .string ⟨#[]⟩] : Array Value)[j]? := fun y => (Z3.below y.below).cell
            have fZ : ∀ (y : Aft W3) j, y.w1.frozen? ⟨w.heap.size, j, none⟩ = false := fun y => (Z3.below y.below).frozen
            have cM : ∀ (y : Aft W3) j, y.w1.cell? ⟨G, j, none⟩ = (#[.int .i64 kk, .string b, .string c, .string d] : Array Value)[j]? := fun y => (B3.below y.below).cell
            have cZ0 := Z3.cell
            have fZ0 := Z3.frozen
            have cM0 := B3.cell
            clear B3 Z3 k0 k1 k2 k3
            go_wp2_with (first
              | (go_at_call 41; refine (HK.out _).mono ?_; rintro e _ ⟨rfl, rfl⟩)
              | (go_at_call 49; refine (Aft.first (w := W3) (HO4.out ⟨W3, Below.refl _ _⟩)).mono ?_; rintro e _ ⟨rfl, y, rfl⟩)
              | (go_at_call 56; refine (Aft.call (HT4.out _)).mono ?_; rintro e _ ⟨rfl, y, rfl⟩))
            rw [HA.out]
            refine bodyPost_ret (v := Value.tuple #[.agg #[.int .i64 kk, .string b, .string c, .string d], .bool true]) (by simp [results, Tryd.results74, go_sem, cZ]) rfl ⟨rfl, ?_⟩
            have hb5 := held_next hb3 (Aft.below (w := W3) y)
            first
              | with_reducible exact hb5
              | with_reducible exact hb3
              | exact (((hb5.setCell (by simp) _).setCell (by simp) _).setCell (by simp) _).setCell (by simp) _
              | exact (((hb3.setCell (by simp) _).setCell (by simp) _).setCell (by simp) _).setCell (by simp) _
    · skip
      have ht : topB d = ⟨#[]⟩ := by unfold topB; rw [if_pos (by simpa using hd)]
      have htz : (⟨#[]⟩ : ByteArray).size ≤ 1048576 := by decide
      have HR := Lib.hid (show ansK s b c (topB d) kk = if (inR kk 1 9 && (okM kk b c ⟨#[]⟩ && ((markTxt (pickS markNames kk) b c ⟨#[]⟩).toList == s.toList))) = true then Value.tuple #[.agg #[.int .i64 kk, .string b, .string c, .string ⟨#[]⟩], .bool true] else Value.tuple #[.agg #[.int .i64 0, .string ⟨#[]⟩, .string ⟨#[]⟩, .string ⟨#[]⟩], .bool false] from by rw [ht]; rfl)
      have HOk2 := Lib.hid (fun W c0 c1 c2 c3 => HOk.out G ⟨#[]⟩ W c0 c1 c2 c3)
      have HTx2 := Lib.hid (fun hr W c0 c1 c2 c3 => HTx.out hr G ⟨#[]⟩ htz W c0 c1 c2 c3)
      have cG := B2.cell
      have fG := B2.frozen
      clear ht htz HOk HTx
      generalize okM kk b c ⟨#[]⟩ = v2 at *
      generalize hX : markTxt (pickS markNames kk) b c ⟨#[]⟩ = X at *
      clear hX
      cases v1 : inR kk 1 9
      · skip
        have HA := Lib.hid (show ansK s b c (topB d) kk = Value.tuple #[.agg #[.int .i64 0, .string ⟨#[]⟩, .string ⟨#[]⟩, .string ⟨#[]⟩], .bool false] from by rw [HR.out, v1]; rfl)
        have HK := Lib.hid (fun W => HKd.out W _ v1)
        clear HR
        go_wp2_with fail
        have B3 := B2.set_ 3 (.string ⟨#[]⟩)
        have Z3 := Z2.off_ hne 3 (.string ⟨#[]⟩)
        have hb3 := Below.setCell (p := ⟨G, 3, none⟩) hb2 hlG (.string ⟨#[]⟩)
        replace B3 : Blk (W2.setCell ⟨G, 3, none⟩ (.string ⟨#[]⟩)) G 23 #[.int .i64 kk, .string b, .string c, .string ⟨#[]⟩] := B3
        generalize W2.setCell ⟨G, 3, none⟩ (.string ⟨#[]⟩) = W3 at *
        clear cG fG B2 Z2 hb2
        have k0 : ∀ y : Aft W3, y.w1.cell? ⟨G, 0, none⟩ = some (.int .i64 kk) := fun y => (B3.below y.below).cell 0
        have k1 : ∀ y : Aft W3, y.w1.cell? ⟨G, 1, none⟩ = some (.string b) := fun y => (B3.below y.below).cell 1
        have k2 : ∀ y : Aft W3, y.w1.cell? ⟨G, 2, none⟩ = some (.string c) := fun y => (B3.below y.below).cell 2
        have k3 : ∀ y : Aft W3, y.w1.cell? ⟨G, 3, none⟩ = some (.string ⟨#[]⟩) := fun y => (B3.below y.below).cell 3
        have HO4 := Lib.hid (fun y : Aft W3 => HOk2.out y.w1 (k0 y) (k1 y) (k2 y) (k3 y))
        clear HOk2 HTx2
        have cZ : ∀ (y : Aft W3) j, y.w1.cell? ⟨w.heap.size, j, none⟩ = (#[.int .i64 0, .string ⟨#[]⟩, .string ⟨#[]⟩, .string ⟨#[]⟩] : Array Value)[j]? := fun y => (Z3.below y.below).cell
        have fZ : ∀ (y : Aft W3) j, y.w1.frozen? ⟨w.heap.size, j, none⟩ = false := fun y => (Z3.below y.below).frozen
        have cM : ∀ (y : Aft W3) j, y.w1.cell? ⟨G, j, none⟩ = (#[.int .i64 kk, .string b, .string c, .string ⟨#[]⟩] : Array Value)[j]? := fun y => (B3.below y.below).cell
        have cZ0 := Z3.cell
        have fZ0 := Z3.frozen
        have cM0 := B3.cell
        clear B3 Z3 k0 k1 k2 k3
        go_wp2_with (first
          | (go_at_call 41; refine (HK.out _).mono ?_; rintro e _ ⟨rfl, rfl⟩)
          | (go_at_call 49; refine (Aft.first (w := W3) (HO4.out ⟨W3, Below.refl _ _⟩)).mono ?_; rintro e _ ⟨rfl, y, rfl⟩))
        rw [HA.out]
        refine bodyPost_ret (v := Value.tuple #[.agg #[.int .i64 0, .string ⟨#[]⟩, .string ⟨#[]⟩, .string ⟨#[]⟩], .bool false]) (by simp [results, Tryd.results74, go_sem, cZ0]) rfl ⟨rfl, ?_⟩
        have hb5 := held_next hb3 (Aft.below (w := W3) ⟨W3, Below.refl _ _⟩)
        first
          | with_reducible exact hb5
          | with_reducible exact hb3
          | exact (((hb5.setCell (by simp) _).setCell (by simp) _).setCell (by simp) _).setCell (by simp) _
          | exact (((hb3.setCell (by simp) _).setCell (by simp) _).setCell (by simp) _).setCell (by simp) _
      · have HTx3 := Lib.hid (HTx2.out v1)
        cases v2
        · skip
          have HTx4 := Lib.hid HTx3.out
          have HA := Lib.hid (show ansK s b c (topB d) kk = Value.tuple #[.agg #[.int .i64 0, .string ⟨#[]⟩, .string ⟨#[]⟩, .string ⟨#[]⟩], .bool false] from by rw [HR.out, v1]; rfl)
          have HK := Lib.hid (fun W => HKd.out W _ v1)
          clear HR
          go_wp2_with fail
          have B3 := B2.set_ 3 (.string ⟨#[]⟩)
          have Z3 := Z2.off_ hne 3 (.string ⟨#[]⟩)
          have hb3 := Below.setCell (p := ⟨G, 3, none⟩) hb2 hlG (.string ⟨#[]⟩)
          replace B3 : Blk (W2.setCell ⟨G, 3, none⟩ (.string ⟨#[]⟩)) G 23 #[.int .i64 kk, .string b, .string c, .string ⟨#[]⟩] := B3
          generalize W2.setCell ⟨G, 3, none⟩ (.string ⟨#[]⟩) = W3 at *
          clear cG fG B2 Z2 hb2
          have k0 : ∀ y : Aft W3, y.w1.cell? ⟨G, 0, none⟩ = some (.int .i64 kk) := fun y => (B3.below y.below).cell 0
          have k1 : ∀ y : Aft W3, y.w1.cell? ⟨G, 1, none⟩ = some (.string b) := fun y => (B3.below y.below).cell 1
          have k2 : ∀ y : Aft W3, y.w1.cell? ⟨G, 2, none⟩ = some (.string c) := fun y => (B3.below y.below).cell 2
          have k3 : ∀ y : Aft W3, y.w1.cell? ⟨G, 3, none⟩ = some (.string ⟨#[]⟩) := fun y => (B3.below y.below).cell 3
          have HO4 := Lib.hid (fun y : Aft W3 => HOk2.out y.w1 (k0 y) (k1 y) (k2 y) (k3 y))
          have HT4 := Lib.hid (fun y : Aft W3 => HTx4.out y.w1 (k0 y) (k1 y) (k2 y) (k3 y))
          clear HTx4 HTx3
          clear HOk2 HTx2
          have cZ : ∀ (y : Aft W3) j, y.w1.cell? ⟨w.heap.size, j, none⟩ = (#[.int .i64 0, .string ⟨#[]⟩, .string ⟨#[]⟩, .string ⟨#[]⟩] : Array Value)[j]? := fun y => (Z3.below y.below).cell
          have fZ : ∀ (y : Aft W3) j, y.w1.frozen? ⟨w.heap.size, j, none⟩ = false := fun y => (Z3.below y.below).frozen
          have cM : ∀ (y : Aft W3) j, y.w1.cell? ⟨G, j, none⟩ = (#[.int .i64 kk, .string b, .string c, .string ⟨#[]⟩] : Array Value)[j]? := fun y => (B3.below y.below).cell
          have cZ0 := Z3.cell
          have fZ0 := Z3.frozen
          have cM0 := B3.cell
          clear B3 Z3 k0 k1 k2 k3
          go_wp2_with (first
            | (go_at_call 41; refine (HK.out _).mono ?_; rintro e _ ⟨rfl, rfl⟩)
            | (go_at_call 49; refine (Aft.first (w := W3) (HO4.out ⟨W3, Below.refl _ _⟩)).mono ?_; rintro e _ ⟨rfl, y, rfl⟩)
            | (go_at_call 56; refine (Aft.call (HT4.out _)).mono ?_; rintro e _ ⟨rfl, y, rfl⟩))
          rw [HA.out]
          refine bodyPost_ret (v := Value.tuple #[.agg #[.int .i64 0, .string ⟨#[]⟩, .string ⟨#[]⟩, .string ⟨#[]⟩], .bool false]) (by simp [results, Tryd.results74, go_sem, cZ]) rfl ⟨rfl, ?_⟩
          have hb5 := held_next hb3 (Aft.below (w := W3) y)
          first
            | with_reducible exact hb5
            | with_reducible exact hb3
            | exact (((hb5.setCell (by simp) _).setCell (by simp) _).setCell (by simp) _).setCell (by simp) _
            | exact (((hb3.setCell (by simp) _).setCell (by simp) _).setCell (by simp) _).setCell (by simp) _
        · cases v3 : (X.toList == s.toList)
          · skip
            have HTx4 := Lib.hid HTx3.out
            have HA := Lib.hid (show ansK s b c (topB d) kk = Value.tuple #[.agg #[.int .i64 0, .string ⟨#[]⟩, .string ⟨#[]⟩, .string ⟨#[]⟩], .bool false] from by rw [HR.out, v1, v3]; rfl)
            have HK := Lib.hid (fun W => HKd.out W _ v1)
            clear HR
            go_wp2_with fail
            have B3 := B2.set_ 3 (.string ⟨#[]⟩)
            have Z3 := Z2.off_ hne 3 (.string ⟨#[]⟩)
            have hb3 := Below.setCell (p := ⟨G, 3, none⟩) hb2 hlG (.string ⟨#[]⟩)
            replace B3 : Blk (W2.setCell ⟨G, 3, none⟩ (.string ⟨#[]⟩)) G 23 #[.int .i64 kk, .string b, .string c, .string ⟨#[]⟩] := B3
            generalize W2.setCell ⟨G, 3, none⟩ (.string ⟨#[]⟩) = W3 at *
            clear cG fG B2 Z2 hb2
            have k0 : ∀ y : Aft W3, y.w1.cell? ⟨G, 0, none⟩ = some (.int .i64 kk) := fun y => (B3.below y.below).cell 0
            have k1 : ∀ y : Aft W3, y.w1.cell? ⟨G, 1, none⟩ = some (.string b) := fun y => (B3.below y.below).cell 1
            have k2 : ∀ y : Aft W3, y.w1.cell? ⟨G, 2, none⟩ = some (.string c) := fun y => (B3.below y.below).cell 2
            have k3 : ∀ y : Aft W3, y.w1.cell? ⟨G, 3, none⟩ = some (.string ⟨#[]⟩) := fun y => (B3.below y.below).cell 3
            have HO4 := Lib.hid (fun y : Aft W3 => HOk2.out y.w1 (k0 y) (k1 y) (k2 y) (k3 y))
            have HT4 := Lib.hid (fun y : Aft W3 => HTx4.out y.w1 (k0 y) (k1 y) (k2 y) (k3 y))
            clear HTx4 HTx3
            clear HOk2 HTx2
            have cZ : ∀ (y : Aft W3) j, y.w1.cell? ⟨w.heap.size, j, none⟩ = (#[.int .i64 0, .string ⟨#[]⟩, .string ⟨#[]⟩, .string ⟨#[]⟩] : Array Value)[j]? := fun y => (Z3.below y.below).cell
            have fZ : ∀ (y : Aft W3) j, y.w1.frozen? ⟨w.heap.size, j, none⟩ = false := fun y => (Z3.below y.below).frozen
            have cM : ∀ (y : Aft W3) j, y.w1.cell? ⟨G, j, none⟩ = (#[.int .i64 kk, .string b, .string c, .string ⟨#[]⟩] : Array Value)[j]? := fun y => (B3.below y.below).cell
            have cZ0 := Z3.cell
            have fZ0 := Z3.frozen
            have cM0 := B3.cell
            clear B3 Z3 k0 k1 k2 k3
            go_wp2_with (first
              | (go_at_call 41; refine (HK.out _).mono ?_; rintro e _ ⟨rfl, rfl⟩)
              | (go_at_call 49; refine (Aft.first (w := W3) (HO4.out ⟨W3, Below.refl _ _⟩)).mono ?_; rintro e _ ⟨rfl, y, rfl⟩)
              | (go_at_call 56; refine (Aft.call (HT4.out _)).mono ?_; rintro e _ ⟨rfl, y, rfl⟩))
            rw [HA.out]
            refine bodyPost_ret (v := Value.tuple #[.agg #[.int .i64 0, .string ⟨#[]⟩, .string ⟨#[]⟩, .string ⟨#[]⟩], .bool false]) (by simp [results, Tryd.results74, go_sem, cZ]) rfl ⟨rfl, ?_⟩
            have hb5 := held_next hb3 (Aft.below (w := W3) y)
            first
              | with_reducible exact hb5
              | with_reducible exact hb3
              | exact (((hb5.setCell (by simp) _).setCell (by simp) _).setCell (by simp) _).setCell (by simp) _
              | exact (((hb3.setCell (by simp) _).setCell (by simp) _).setCell (by simp) _).setCell (by simp) _
          · skip
            have HTx4 := Lib.hid HTx3.out
            have HA := Lib.hid (show ansK s b c (topB d) kk = Value.tuple #[.agg #[.int .i64 kk, .string b, .string c, .string ⟨#[]⟩], .bool true] from by rw [HR.out, v1, v3]; rfl)
            have HK := Lib.hid (fun W => HKd.out W _ v1)
            clear HR
            go_wp2_with fail
            have B3 := B2.set_ 3 (.string ⟨#[]⟩)
            have Z3 := Z2.off_ hne 3 (.string ⟨#[]⟩)
            have hb3 := Below.setCell (p := ⟨G, 3, none⟩) hb2 hlG (.string ⟨#[]⟩)
            replace B3 : Blk (W2.setCell ⟨G, 3, none⟩ (.string ⟨#[]⟩)) G 23 #[.int .i64 kk, .string b, .string c, .string ⟨#[]⟩] := B3
            generalize W2.setCell ⟨G, 3, none⟩ (.string ⟨#[]⟩) = W3 at *
            clear cG fG B2 Z2 hb2
            have k0 : ∀ y : Aft W3, y.w1.cell? ⟨G, 0, none⟩ = some (.int .i64 kk) := fun y => (B3.below y.below).cell 0
            have k1 : ∀ y : Aft W3, y.w1.cell? ⟨G, 1, none⟩ = some (.string b) := fun y => (B3.below y.below).cell 1
            have k2 : ∀ y : Aft W3, y.w1.cell? ⟨G, 2, none⟩ = some (.string c) := fun y => (B3.below y.below).cell 2
            have k3 : ∀ y : Aft W3, y.w1.cell? ⟨G, 3, none⟩ = some (.string ⟨#[]⟩) := fun y => (B3.below y.below).cell 3
            have HO4 := Lib.hid (fun y : Aft W3 => HOk2.out y.w1 (k0 y) (k1 y) (k2 y) (k3 y))
            have HT4 := Lib.hid (fun y : Aft W3 => HTx4.out y.w1 (k0 y) (k1 y) (k2 y) (k3 y))
            clear HTx4 HTx3
            clear HOk2 HTx2
            have cZ : ∀ (y : Aft W3) j, y.w1.cell? ⟨w.heap.size, j, none⟩ = (#[.int .i64 0, .string ⟨#[]⟩, .string ⟨#[]⟩, .string ⟨#[]⟩] : Array Value)[j]? := fun y => (Z3.below y.below).cell
            have fZ : ∀ (y : Aft W3) j, y.w1.frozen? ⟨w.heap.size, j, none⟩ = false := fun y => (Z3.below y.below).frozen
            have cM : ∀ (y : Aft W3) j, y.w1.cell? ⟨G, j, none⟩ = (#[.int .i64 kk, .string b, .string c, .string ⟨#[]⟩] : Array Value)[j]? := fun y => (B3.below y.below).cell
            have cZ0 := Z3.cell
            have fZ0 := Z3.frozen
            have cM0 := B3.cell
            clear B3 Z3 k0 k1 k2 k3
            go_wp2_with (first
              | (go_at_call 41; refine (HK.out _).mono ?_; rintro e _ ⟨rfl, rfl⟩)
              | (go_at_call 49; refine (Aft.first (w := W3) (HO4.out ⟨W3, Below.refl _ _⟩)).mono ?_; rintro e _ ⟨rfl, y, rfl⟩)
              | (go_at_call 56; refine (Aft.call (HT4.out _)).mono ?_; rintro e _ ⟨rfl, y, rfl⟩))
            rw [HA.out]
            refine bodyPost_ret (v := Value.tuple #[.agg #[.int .i64 kk, .string b, .string c, .string ⟨#[]⟩], .bool true]) (by simp [results, Tryd.results74, go_sem, cZ]) rfl ⟨rfl, ?_⟩
            have hb5 := held_next hb3 (Aft.below (w := W3) y)
            first
              | with_reducible exact hb5
              | with_reducible exact hb3
              | exact (((hb5.setCell (by simp) _).setCell (by simp) _).setCell (by simp) _).setCell (by simp) _
              | exact (((hb3.setCell (by simp) _).setCell (by simp) _).setCell (by simp) _).setCell (by simp) _
set_option maxRecDepth 100000 in
set_option maxHeartbeats 8000000 in
theorem l11Read_c (s : ByteArray) (hs : s.size ≤ 1048576) (w : World) :
    Calls Tryd.prog 74 #[.string s] w fun e w' => e = .returned (ansM (readM s)) ∧ Below w.heap.size w w' := by
  unfold readM
  cases hno : (s.toList == [110, 111, 110, 101])
  · rw [if_neg (by simp)]
    by_cases h4 : (pieces 32 s).length = 4
    · obtain ⟨a, b, c, d, hp⟩ : ∃ a b c d, pieces 32 s = [a, b, c, d] := by
        match pieces 32 s, h4 with
        | [a, b, c, d], _ => exact ⟨a, b, c, d, rfl⟩
      rw [hp]
      exact l11Read_four s a b c d hs hno hp w
    · have HE := Lib.hid (show ansM (four s (pieces 32 s)) = .tuple #[.agg #[.int .i64 0, .string ⟨#[]⟩, .string ⟨#[]⟩, .string ⟨#[]⟩], .bool false] by
        have : four s (pieces 32 s) = none := by
          unfold four
          split
          · rename_i he; rw [he] at h4; exact absurd rfl h4
          · rfl
        rw [this]; rfl)
      rw [HE.out]
      have HS := Lib.hid (fun W => l01Split_c 32 s hs W)
      have hpos : 0 < (pieces 32 s).length := by unfold pieces; rw [List.length_map, spl_count]; omega
      clear HE
      generalize pieces 32 s = ps at *
      have hne : ((ps.length : Int) == 4) = false := by simp; omega
      have hne2 : ((ps.length : Int) != 4) = true := by simp; omega
      go_enter Tryd.func74, Tryd.ntmps74
      go_wp2_with fail
      refine (HS.out _).mono ?_
      rintro e w1 ⟨v, rfl, hown, hb1⟩
      obtain ⟨g, cp, rfl⟩ := Go.Joins.ownsRow_form hown hpos
      have hZ : Blk w1 w.heap.size 23 #[.int .i64 0, .string ⟨#[]⟩, .string ⟨#[]⟩, .string ⟨#[]⟩] := (Blk.new _ _ _).below hb1
      have hb5 : Below w.heap.size w w1 := held_next (Below.alloc (Below.refl _ _) (Nat.le_refl _) _) hb1
      have cZ := hZ.cell
      have fZ := hZ.frozen
      clear hown hb1 hZ HS
      go_wp2
      refine bodyPost_ret (v := Value.tuple #[.agg #[.int .i64 0, .string ⟨#[]⟩, .string ⟨#[]⟩, .string ⟨#[]⟩], .bool false]) (by simp [results, Tryd.results74, go_sem, cZ]) rfl ⟨rfl, ?_⟩
      first
        | with_reducible exact hb5
        | exact (((hb5.setCell (by simp) _).setCell (by simp) _).setCell (by simp) _).setCell (by simp) _
  · rw [if_pos (by simp)]
    go_enter Tryd.func74, Tryd.ntmps74
    go_wp2
    refine bodyPost_ret (v := Value.tuple #[.agg #[.int .i64 0, .string ⟨#[]⟩, .string ⟨#[]⟩, .string ⟨#[]⟩], .bool true]) (by simp [results, Tryd.results74, go_sem]) rfl ⟨rfl, (by repeat (first | exact Below.refl _ _ | refine Below.alloc ?_ (by simp; try omega) _ | refine Below.drew ?_))⟩
theorem ansM_form (r : Option (Nat × ByteArray × ByteArray × ByteArray)) : ∃ (k : Int) (b c t : ByteArray) (v : Bool), ansM r = .tuple #[.agg #[.int .i64 k, .string b, .string c, .string t], .bool v] := by
  cases r with
  | none => exact ⟨_, _, _, _, _, rfl⟩
  | some p => exact ⟨_, _, _, _, _, rfl⟩
theorem specReadMark_c (s : ByteArray) (hs : s.size ≤ 1048576) (w : World) :
    Calls Tryd.prog 39 #[.string s] w fun e w' => e = .returned (ansM (readM s)) ∧ Below w.heap.size w w' := by
  have HL := Lib.hid (fun W => l11Read_c s hs W)
  obtain ⟨k, b, c, t, v, hv⟩ := ansM_form (readM s)
  rw [hv] at HL ⊢
  go_enter Tryd.func39, Tryd.ntmps39
  go_wp2_with fail
  refine (HL.out _).mono ?_
  rintro e w1 ⟨rfl, hb1⟩
  have hZ : Blk w1 w.heap.size 23 #[.int .i64 0, .string ⟨#[]⟩, .string ⟨#[]⟩, .string ⟨#[]⟩] := (Blk.new _ _ _).below hb1
  have hb5 : Below w.heap.size w w1 := held_next (Below.alloc (Below.refl _ _) (Nat.le_refl _) _) hb1
  have cZ := hZ.cell
  have fZ := hZ.frozen
  clear hb1 hZ HL
  go_wp2
  refine bodyPost_ret (v := Value.tuple #[.agg #[.int .i64 k, .string b, .string c, .string t], .bool v]) (by simp [results, Tryd.results39, go_sem, cZ]) rfl ⟨rfl, ?_⟩
  first
    | with_reducible exact hb5
    | exact (((hb5.setCell (by simp) _).setCell (by simp) _).setCell (by simp) _).setCell (by simp) _
end Go.Proofs.YtolijmldobncbaaDoor
