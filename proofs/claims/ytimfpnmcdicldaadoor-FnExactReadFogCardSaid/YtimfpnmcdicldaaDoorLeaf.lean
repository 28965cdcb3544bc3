/- Data that came in, by its leaves: a struct's cells (nested structs too), a slice of structs at every index. -/
import Derived.Test.YtimfpnmcdicldaaDoorR8
import Derived.Deep.Slices
namespace Go.Proofs.YtimfpnmcdicldaaDoor
open Go Go.RowKit Go.ChangeShapes Go.WideShapes

/-- The leaves of a type: 0 a number of 64 bits, 1 a text, t + 2 a slice of type t. -/
def leafsF (P : Program) (rec : TypeId → Option (List Nat)) : List Field → Nat → Option (List Nat)
  | [], _ => some []
  | f :: fs, off => if f.offset = off then
      match rec f.type with
      | some ks => if P.cellsOf f.type = ks.length then (leafsF P rec fs (off + ks.length)).map (ks ++ ·) else none
      | none => none
    else none
def leafs (P : Program) : Nat → TypeId → Option (List Nat)
  | 0, _ => none
  | n + 1, t => match P.underlying t with
    | some (.int .i64) => some [0]
    | some .string => some [1]
    | some (.slice _) => some [t + 2]
    | some (.struct fs) => leafsF P (leafs P n) fs.toList 0
    | _ => none

section
variable {H : Type} {enc : TypeId × Value → H} {P : Program} {w : World} {base : Nat} {spare : Nat → Bool} {held : Bool}
/-- What is known of a leaf. -/
def LeafOk (enc : TypeId × Value → H) (P : Program) (w : World) (base : Nat) (spare : Nat → Bool) (held : Bool) (k : Nat) (v : Value) : Prop :=
  (k = 0 ∧ ∃ n, v = .int .i64 n ∧ (Lit.int .i64 n).wf = true) ∨ (k = 1 ∧ ∃ s : ByteArray, v = .string s ∧ s.size ≤ maxLen) ∨
  ∃ t e, k = t + 2 ∧ P.underlying t = some (.slice e) ∧ ∃ fuel x, DataW.trod enc P w base spare held fuel t [v] = some x
def LeavesOk (enc : TypeId × Value → H) (P : Program) (w : World) (base : Nat) (spare : Nat → Bool) (held : Bool) (ks : List Nat) (cs : List Value) : Prop :=
  cs.length = ks.length ∧ ∀ (j k : Nat), ks[j]? = some k → ∃ v, cs[j]? = some v ∧ LeafOk enc P w base spare held k v

theorem leafsF_ok {rec : TypeId → Option (List Nat)} {cs : List Value}
    (hrec : ∀ t ks cs', rec t = some ks → P.cellsOf t = ks.length → (∃ fuel x, DataW.trod enc P w base spare held fuel t cs' = some x) → LeavesOk enc P w base spare held ks cs') :
    ∀ (fs : List Field) (off : Nat) (ks : List Nat), leafsF P rec fs off = some ks →
      (∀ f ∈ fs, ∃ fuel x, DataW.trod enc P w base spare held fuel f.type ((cs.drop f.offset).take (P.cellsOf f.type)) = some x) →
      ∀ (j k : Nat), ks[j]? = some k → ∃ v, cs[off + j]? = some v ∧ LeafOk enc P w base spare held k v
  | [], off, ks, h, _, j, k, hj => by
    simp only [leafsF, Option.some.injEq] at h
    subst h
    simp at hj
  | f :: fs, off, ks, h, ht, j, k, hj => by
    simp only [leafsF] at h
    split at h
    · rename_i ho
      split at h
      · rename_i ks1 hr
        split at h
        · rename_i hc
          obtain ⟨ks2, h2, rfl⟩ := Option.map_eq_some_iff.1 h
          obtain ⟨hl, hat⟩ := hrec _ _ _ hr hc (ht f (by simp))
          by_cases hlt : j < ks1.length
          · rw [List.getElem?_append_left hlt] at hj
            obtain ⟨v, hv, hok⟩ := hat j k hj
            refine ⟨v, ?_, hok⟩
            rw [List.getElem?_take_of_lt (by omega), List.getElem?_drop, ho] at hv
            exact hv
          · rw [List.getElem?_append_right (by omega)] at hj
            obtain ⟨v, hv, hok⟩ := leafsF_ok hrec fs _ ks2 h2 (fun g hg => ht g (by simp [hg])) _ k hj
            refine ⟨v, ?_, hok⟩
            rw [show off + ks1.length + (j - ks1.length) = off + j by omega] at hv
            exact hv
        · cases h
      · cases h
    · cases h
theorem leafs_ok : ∀ (n : Nat) (t : TypeId) (ks : List Nat) (cs : List Value), leafs P n t = some ks → P.cellsOf t = ks.length →
    (∃ fuel x, DataW.trod enc P w base spare held fuel t cs = some x) → LeavesOk enc P w base spare held ks cs
  | 0, t, ks, cs, h, _, _ => by simp [leafs] at h
  | n + 1, t, ks, cs, h, hc, ⟨fuel, x, ht⟩ => by
    unfold leafs at h
    split at h
    · rename_i hu
      obtain ⟨m, rfl, _, hw⟩ := DataW.trod_int hu ht
      cases h
      refine ⟨rfl, fun j k hj => ?_⟩
      match j, hj with
      | 0, hj => cases hj; exact ⟨_, rfl, .inl ⟨rfl, m, rfl, hw⟩⟩
    · rename_i hu
      obtain ⟨s, rfl, _, hw⟩ := DataW.trod_string hu ht
      cases h
      refine ⟨rfl, fun j k hj => ?_⟩
      match j, hj with
      | 0, hj => cases hj; exact ⟨_, rfl, .inr (.inl ⟨rfl, s, rfl, hw⟩)⟩
    · rename_i e hu
      cases h
      have hone : ∃ v, cs = [v] := by
        rcases DataW.trod_slice hu ht with ⟨rfl, _⟩ | ⟨a, len, cap, _, _, _, _, rfl, _⟩
        · exact ⟨_, rfl⟩
        · exact ⟨_, rfl⟩
      obtain ⟨v, rfl⟩ := hone
      refine ⟨rfl, fun j k hj => ?_⟩
      match j, hj with
      | 0, hj => cases hj; exact ⟨_, rfl, .inr (.inr ⟨t, e, rfl, hu, fuel, x, ht⟩)⟩
    · rename_i fs hu
      obtain ⟨xs, m, _, _, hl, hxs, hf⟩ := DataW.trod_struct hu ht
      have key := leafsF_ok (cs := cs) (enc := enc) (w := w) (base := base) (spare := spare) (held := held) (rec := leafs P n)
        (fun t' ks' cs' hr hcc hx => leafs_ok n t' ks' cs' hr hcc hx) fs.toList 0 ks h (fun f hf' => by
          obtain ⟨i, hi, rfl⟩ := List.getElem_of_mem hf'
          have hi' : i < fs.size := by simpa using hi
          have := hf i fs[i] (by simp [hi'])
          rw [List.getElem?_eq_getElem (by omega)] at this
          exact ⟨m, _, by simpa using this⟩)
      refine ⟨by rw [hl, hc], fun j k hj => ?_⟩
      simpa using key j k hj
    · cases h

/-- A slice of records that came in: at every index below its length, each leaf. -/
theorem leaves_slice {t e : TypeId} {ks : List Nat} {v : Value} (n : Nat) (ht : P.underlying t = some (.slice e)) (hk : leafs P n e = some ks) (hc : P.cellsOf e = ks.length) (h0 : 0 < ks.length)
    (h : ∃ fuel x, DataW.trod enc P w base (fun _ => true) held fuel t [v] = some x) :
    ∃ (A : Option Addr) (len cap : Nat), v = .slice A len cap ∧ len ≤ maxLen ∧ ∃ b o, ∀ i, i < len → A = some ⟨b, o, none⟩ ∧ ∀ (j k : Nat), ks[j]? = some k → ∃ u, w.cell? ⟨b, o + (i * ks.length + j), none⟩ = some u ∧ LeafOk enc P w base (fun _ => true) held k u := by
  obtain ⟨fuel, x, h⟩ := h
  rcases Go.Deep.open_slice ht h with ⟨h1, _⟩ | ⟨a, len, cap, m, n', D, Pl, h1, hb, hl, hm, hmm, hx, hi⟩
  · refine ⟨none, 0, 0, by simpa using h1, by omega, 0, 0, fun i hi => by omega⟩
  · refine ⟨some a, len, cap, by simpa using h1, by omega, a.block, a.off, fun i hil => ?_⟩
    have hat : ∀ i, i < len → ∀ (j k : Nat), ks[j]? = some k → ∃ u, w.cell? (a.add (i * ks.length + j)) = some u ∧ LeafOk enc P w base (fun _ => true) held k u := by
      intro i hil j k hj
      obtain ⟨cs', hcs, hts⟩ := hi i (by simp at hmm; omega)
      obtain ⟨_, hlen, hcell⟩ := World.cells?_some hcs
      obtain ⟨hl2, hok⟩ := leafs_ok n e ks cs' hk hc ⟨_, _, hts⟩
      obtain ⟨u, hu, hlf⟩ := hok j k hj
      have hjl : j < ks.length := (List.getElem?_eq_some_iff.1 hj).1
      refine ⟨u, ?_, hlf⟩
      rw [← hu, ← hcell j (by omega), ← hc, Go.Deep.add_add]
    have hspot : a.spot = none := by
      obtain ⟨u, hu, _⟩ := hat 0 (by omega) 0 ks[0] (List.getElem?_eq_getElem h0)
      have := World.cell?_spot hu
      simpa [Addr.add] using this
    obtain ⟨b, o, sp⟩ := a
    cases hspot
    refine ⟨rfl, fun j k hj => ?_⟩
    obtain ⟨u, hu, hlf⟩ := hat i hil j k hj
    refine ⟨u, ?_, hlf⟩
    rw [← hu]
    unfold Addr.add
    split
    · rename_i hz; simp [hz]
    · rfl
theorem leafInt {v : Value} (h : LeafOk enc P w base spare held 0 v) : ∃ n, v = .int .i64 n ∧ (Lit.int .i64 n).wf = true := by
  rcases h with ⟨_, h⟩ | ⟨h, _⟩ | ⟨t, _, h, _⟩
  · exact h
  · omega
  · omega
theorem leafString {v : Value} (h : LeafOk enc P w base spare held 1 v) : ∃ s : ByteArray, v = .string s ∧ s.size ≤ maxLen := by
  rcases h with ⟨h, _⟩ | ⟨_, h⟩ | ⟨t, _, h, _⟩
  · omega
  · exact h
  · omega
theorem leafSlice {t : Nat} {v : Value} (h : LeafOk enc P w base spare held (t + 2) v) : (∃ e, P.underlying t = some (.slice e)) ∧ ∃ fuel x, DataW.trod enc P w base spare held fuel t [v] = some x := by
  rcases h with ⟨h, _⟩ | ⟨h, _⟩ | ⟨t', e, h, hu, h'⟩
  · omega
  · omega
  · obtain rfl : t = t' := by omega
    exact ⟨⟨e, hu⟩, h'⟩
end
/-! The same without the reading's own words, two levels deep. -/
def Leaf0 (k : Nat) (u : Value) : Prop := (k = 0 → ∃ n, u = .int .i64 n ∧ (Lit.int .i64 n).wf = true) ∧ (k = 1 → ∃ s : ByteArray, u = .string s ∧ s.size ≤ maxLen)
/-- A slice of records: at every index below its length each leaf's cell. -/
def Rows0 (ks : List Nat) (w : World) (A : Option Addr) (len : Nat) : Prop :=
  ∃ b o, ∀ i, i < len → A = some ⟨b, o, none⟩ ∧ ∀ (j k : Nat), ks[j]? = some k → ∃ u, w.cell? ⟨b, o + (i * ks.length + j), none⟩ = some u ∧ Leaf0 k u
def Leaf1 (P : Program) (w : World) (k : Nat) (u : Value) : Prop :=
  Leaf0 k u ∧ ∀ t, k = t + 2 → ∃ (A : Option Addr) (len cap : Nat), u = .slice A len cap ∧ len ≤ maxLen ∧
    ∀ e ks, P.underlying t = some (.slice e) → leafs P 4 e = some ks → P.cellsOf e = ks.length → 0 < ks.length → Rows0 ks w A len
def Rows1 (P : Program) (ks : List Nat) (w : World) (A : Option Addr) (len : Nat) : Prop :=
  ∃ b o, ∀ i, i < len → A = some ⟨b, o, none⟩ ∧ ∀ (j k : Nat), ks[j]? = some k → ∃ u, w.cell? ⟨b, o + (i * ks.length + j), none⟩ = some u ∧ Leaf1 P w k u
section
variable {H : Type} {enc : TypeId × Value → H} {P : Program} {w : World} {held : Bool}
theorem LeafOk.to0 {k : Nat} {v : Value} (h : LeafOk enc P w 0 (fun _ => true) held k v) : Leaf0 k v :=
  ⟨fun e => by subst e; exact leafInt h, fun e => by subst e; exact leafString h⟩
theorem LeafOk.to1 {k : Nat} {v : Value} (h : LeafOk enc P w 0 (fun _ => true) held k v) : Leaf1 P w k v := by
  refine ⟨h.to0, fun t e => ?_⟩
  subst e
  obtain ⟨⟨e0, hu0⟩, ht⟩ := leafSlice h
  have hs : ∃ A len cap, v = .slice A len cap ∧ len ≤ maxLen := by
    obtain ⟨fuel, x, hx⟩ := ht
    rcases DataW.trod_slice hu0 hx with ⟨h1, _⟩ | ⟨a, len, cap, _, _, _, _, h1, _, _, hl, hm, _⟩
    · exact ⟨none, 0, 0, by simpa using h1, by omega⟩
    · exact ⟨some a, len, cap, by simpa using h1, by omega⟩
  obtain ⟨A, len, cap, rfl, hl⟩ := hs
  refine ⟨A, len, cap, rfl, hl, fun e ks hu hk hc h0 => ?_⟩
  obtain ⟨A', len', cap', h1, _, b, o, hi⟩ := leaves_slice 4 hu hk hc h0 ht
  cases h1
  exact ⟨b, o, fun i hil => ⟨(hi i hil).1, fun j k hj => by
    obtain ⟨u, hu, hlf⟩ := (hi i hil).2 j k hj
    exact ⟨u, hu, hlf.to0⟩⟩⟩
/-- A struct by value. -/
theorem agg_leaves {t : TypeId} {ks : List Nat} {cs : Array Value} {d : DataW H} {p : List MemPlace} (n : Nat) (hk : leafs P n t = some ks) (hc : P.cellsOf t = ks.length)
    (h : DataW.Trod enc P w 0 (fun _ => true) held t (.agg cs) d p) : ∀ (j k : Nat), ks[j]? = some k → ∃ u, cs.toList[j]? = some u ∧ Leaf1 P w k u := by
  obtain ⟨fuel, hf⟩ := h
  intro j k hj
  obtain ⟨u, hu, hl⟩ := (leafs_ok n t ks cs.toList hk hc ⟨fuel, _, hf⟩).2 j k hj
  exact ⟨u, hu, hl.to1⟩
/-- A slice of structs. -/
theorem slice_leaves {t e : TypeId} {ks : List Nat} {v : Value} {d : DataW H} {p : List MemPlace} (n : Nat) (ht : P.underlying t = some (.slice e)) (hk : leafs P n e = some ks) (hc : P.cellsOf e = ks.length) (h0 : 0 < ks.length)
    (hv : ∃ A len cap, v = .slice A len cap) (h : DataW.Trod enc P w 0 (fun _ => true) held t v d p) : ∃ (A : Option Addr) (len cap : Nat), v = .slice A len cap ∧ len ≤ maxLen ∧ Rows1 P ks w A len := by
  obtain ⟨fuel, hf⟩ := h
  obtain ⟨A0, l0, c0, rfl⟩ := hv
  obtain ⟨A, len, cap, h1, h2, b, o, hi⟩ := leaves_slice n ht hk hc h0 ⟨fuel, _, hf⟩
  exact ⟨A, len, cap, h1, h2, b, o, fun i hil => ⟨(hi i hil).1, fun j k hj => by
    obtain ⟨u, hu, hlf⟩ := (hi i hil).2 j k hj
    exact ⟨u, hu, hlf.to1⟩⟩⟩
theorem Rows1.to0 {ks : List Nat} {A : Option Addr} {len : Nat} (h : Rows1 P ks w A len) : Rows0 ks w A len := by
  obtain ⟨b, o, hi⟩ := h
  exact ⟨b, o, fun i hil => ⟨(hi i hil).1, fun j k hj => by
    obtain ⟨u, hu, hl⟩ := (hi i hil).2 j k hj
    exact ⟨u, hu, hl.1⟩⟩⟩
end
/-- The cells of a slice of records, m each, as a function of index and leaf. -/
def Rec (m : Nat) (w : World) (A : Option Addr) (n : Nat) (f : Nat → Nat → Value) : Prop :=
  ∃ b o, ∀ i, i < n → A = some ⟨b, o, none⟩ ∧ ∀ j, j < m → w.cell? ⟨b, o + (i * m + j), none⟩ = some (f i j)
theorem Rows0.rec {ks : List Nat} {w : World} {A : Option Addr} {len : Nat} (h : Rows0 ks w A len) : ∃ f : Nat → Nat → Value, Rec ks.length w A len f ∧ ∀ i, i < len → ∀ (j k : Nat), ks[j]? = some k → Leaf0 k (f i j) := by
  classical
  obtain ⟨b, o, hi⟩ := h
  refine ⟨fun i j => (w.cell? ⟨b, o + (i * ks.length + j), none⟩).getD undef, ⟨b, o, fun i hil => ⟨(hi i hil).1, fun j hj => ?_⟩⟩, fun i hil j k hj => ?_⟩
  · obtain ⟨u, hu, _⟩ := (hi i hil).2 j ks[j] (List.getElem?_eq_getElem hj)
    simp only [hu, Option.getD_some]
  · obtain ⟨u, hu, hl⟩ := (hi i hil).2 j k hj
    simpa only [hu, Option.getD_some] using hl
theorem Rec.aft {m : Nat} {w : World} {A : Option Addr} {n : Nat} {f : Nat → Nat → Value} (h : Rec m w A n f) (x : Aft w) : Rec m x.w1 A n f := by
  obtain ⟨b, o, hi⟩ := h
  exact ⟨b, o, fun i hil => ⟨(hi i hil).1, fun j hj => by
    have hc := (hi i hil).2 j hj
    exact x.cell (cell_lt hc) hc⟩⟩
theorem Rec.below {m : Nat} {w w' : World} {A : Option Addr} {n : Nat} {f : Nat → Nat → Value} (h : Rec m w A n f) (hb : Below w.heap.size w w') : Rec m w' A n f := h.aft ⟨w', hb⟩
theorem Rec.congr {m : Nat} {w : World} {A : Option Addr} {n : Nat} {f f' : Nat → Nat → Value} (h : Rec m w A n f) (he : ∀ i, i < n → ∀ j, j < m → f i j = f' i j) : Rec m w A n f' := by
  obtain ⟨b, o, hi⟩ := h
  exact ⟨b, o, fun i hil => ⟨(hi i hil).1, fun j hj => by rw [(hi i hil).2 j hj, he i hil j hj]⟩⟩
def strOf : Value → ByteArray
  | .string s => s
  | _ => ⟨#[]⟩
theorem Leaf0.int {u : Value} (h : Leaf0 0 u) : u = .int .i64 (intOf u) ∧ (Lit.int .i64 (intOf u)).wf = true := by
  obtain ⟨n, rfl, hw⟩ := h.1 rfl
  exact ⟨rfl, hw⟩
theorem Leaf0.str {u : Value} (h : Leaf0 1 u) : u = .string (strOf u) ∧ (strOf u).size ≤ maxLen := by
  obtain ⟨n, rfl, hw⟩ := h.2 rfl
  exact ⟨rfl, hw⟩
end Go.Proofs.YtimfpnmcdicldaaDoor
