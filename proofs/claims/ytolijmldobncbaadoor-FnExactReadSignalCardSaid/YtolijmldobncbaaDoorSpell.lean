/- SpellText on both sides. -/
import Derived.Test.YtolijmldobncbaaDoorSend
import Derived.Test.YtolijmldobncbaaDoorOwn
import Derived.Shelf.Strings.OnBuilder
namespace Go.Proofs.YtolijmldobncbaaDoor
open Go Go.RowKit Go.Shelf
theorem chk_bytes : ∀ (l : List UInt8) (st : Bool), chk st l = true → ∀ c ∈ l, c = 32 ∨ isUp c = true
  | [], _, _, c, hc => by cases hc
  | b :: l, st, h, c, hc => by
    rw [chk] at h
    split at h
    · rename_i hb
      simp only [Bool.and_eq_true] at h
      rcases List.mem_cons.1 hc with rfl | hc
      · exact .inl hb
      · exact chk_bytes l true h.2 c hc
    · simp only [Bool.and_eq_true] at h
      rcases List.mem_cons.1 hc with rfl | hc
      · exact .inr h.1
      · exact chk_bytes l false h.2 c hc
theorem okText_parts {s : ByteArray} (h : okText s = true) : 1 ≤ s.size ∧ s.size ≤ 12 ∧ (∀ i (hi : i < s.size), s[i] = 32 ∨ isUp s[i] = true) ∧ (∀ hi : 0 < s.size, s[0] ≠ 32) := by
  unfold okText at h
  rw [chk_all, Bool.and_eq_true, decide_eq_true_eq] at h
  obtain ⟨h1, h2⟩ := h
  refine ⟨?_, h2, fun i hi => ?_, fun hi e => ?_⟩
  · rcases Nat.eq_zero_or_pos s.size with h0 | h0
    · have : s.data.toList = [] := List.eq_nil_of_length_eq_zero (by rw [Array.length_toList]; exact h0)
      rw [this] at h1
      simp [chk] at h1
    · exact h0
  · exact chk_bytes _ _ h1 _ (by rw [← Array.mem_def]; exact Array.getElem_mem _)
  · have hd := drop_at s 0 hi
    rw [List.drop_zero, e] at hd
    rw [hd] at h1
    simp [chk] at h1
/-- What stands for a byte. -/
def part (c : UInt8) : ByteArray := if c = 32 then (⟨#[47]⟩ : ByteArray) else codeB (c.toNat : Int)
theorem part_blank : part 32 = (⟨#[47]⟩ : ByteArray) := rfl
theorem part_up {c : UInt8} (h : c ≠ 32) : part c = codeB (c.toNat : Int) := if_neg h
theorem part_size (c : UInt8) : (part c).size ≤ 4 := by
  unfold part
  split
  · decide
  · exact (codeB_signs _).1
/-- The parts joined, as far as k. -/
def joinTo (l : List UInt8) : ByteArray := match l with
  | [] => ⟨#[]⟩
  | c :: r => r.foldl (fun o c => o ++ (⟨#[32]⟩ : ByteArray) ++ part c) (part c)
theorem joinTo_snoc {l : List UInt8} (h : l ≠ []) (c : UInt8) : joinTo (l ++ [c]) = joinTo l ++ (⟨#[32]⟩ : ByteArray) ++ part c := by
  cases l with
  | nil => exact absurd rfl h
  | cons b r => simp [joinTo, List.foldl_append]
theorem fold_size : ∀ (r : List UInt8) (o : ByteArray), (r.foldl (fun o c => o ++ (⟨#[32]⟩ : ByteArray) ++ part c) o).size ≤ o.size + 5 * r.length
  | [], o => by simp
  | c :: r, o => by
    rw [List.foldl_cons]
    have h := fold_size r (o ++ (⟨#[32]⟩ : ByteArray) ++ part c)
    have h1 := part_size c
    have h2 : ((⟨#[32]⟩ : ByteArray)).size = 1 := rfl
    rw [ByteArray.size_append, ByteArray.size_append] at h
    simp only [List.length_cons]
    omega
theorem joinTo_size (l : List UInt8) : (joinTo l).size ≤ 5 * l.length := by
  cases l with
  | nil => exact Nat.le_refl _
  | cons c r =>
    have h := fold_size r (part c)
    have h1 := part_size c
    simp only [joinTo, List.length_cons]
    omega
def spellTo (s : ByteArray) (k : Nat) : ByteArray := joinTo (s.data.toList.take k)
theorem spellTo_zero {s : ByteArray} (h : 0 < s.size) : spellTo s 1 = part s[0] := by
  unfold spellTo
  rw [take_snoc s 0 h]
  rfl
theorem spellTo_succ {s : ByteArray} {k : Nat} (h0 : 0 < k) (h : k < s.size) : spellTo s (k + 1) = spellTo s k ++ (⟨#[32]⟩ : ByteArray) ++ part s[k] := by
  unfold spellTo
  rw [take_snoc s k h, joinTo_snoc]
  intro e
  have := congrArg List.length e
  rw [List.length_take, Array.length_toList, List.length_nil] at this
  have h' : k < s.data.size := h
  omega
theorem spellTo_size {s : ByteArray} {k : Nat} (h : k ≤ s.size) : (spellTo s k).size ≤ 5 * k := by
  have := joinTo_size (s.data.toList.take k)
  rw [List.length_take, Array.length_toList] at this
  have h' : k ≤ s.data.size := h
  rw [Nat.min_eq_left h'] at this
  exact this
theorem fold_join : ∀ (r : List UInt8) (o : ByteArray), r.foldl (fun o c => o ++ (⟨#[32]⟩ : ByteArray) ++ part c) o = ⟨(o.data.toList ++ Lib.joinTail [32] (r.map fun c => (part c).data.toList)).toArray⟩
  | [], o => by
    apply ByteArray.ext
    apply Array.toList_inj.1
    simp [Lib.joinTail]
  | c :: r, o => by
    rw [List.foldl_cons, fold_join r]
    apply ByteArray.ext
    apply Array.toList_inj.1
    simp [Lib.joinTail, ByteArray.data_append]
theorem join_parts (l : List UInt8) : (⟨(Lib.join ((l.map part).map (·.data.toList)) ((⟨#[32]⟩ : ByteArray)).data.toList).toArray⟩ : ByteArray) = joinTo l := by
  cases l with
  | nil => rfl
  | cons c r =>
    rw [joinTo, fold_join, List.map_cons, List.map_cons, Lib.join_cons, List.map_map]
    rfl
set_option maxRecDepth 100000 in
set_option maxHeartbeats 4000000 in
theorem specSpell_bad (s : ByteArray) (hs : s.size ≤ maxLen) (hb : okText s = false) (w : World) :
    Calls Tryd.prog 28 #[.string s] w fun e w' => e = .returned (.tuple #[.string ⟨#[]⟩, .int .i64 1]) ∧ Below w.heap.size w w' := by
  have HT := Lib.hid (fun W => l07Text_c s hs W)
  rw [hb] at HT
  go_enter Tryd.func28, Tryd.ntmps28
  go_wp2_with (go_at_call 59; refine (HT.out _).mono ?_; rintro e w' ⟨rfl, rfl⟩)
  go_ret2
  exact ⟨rfl, Below.refl _ _⟩
set_option maxRecDepth 100000 in
set_option maxHeartbeats 4000000 in
theorem specSpell_good (s : ByteArray) (hs : s.size ≤ maxLen) (hb : okText s = true) (w : World) :
    Calls Tryd.prog 28 #[.string s] w fun e w' => e = .returned (.tuple #[.string (spellTo s s.size), .int .i64 0]) ∧ Below w.heap.size w w' := by
  have HT := Lib.hid (fun W => l07Text_c s hs W)
  obtain ⟨h1, h12, hby, hfirst⟩ := okText_parts hb
  rw [hb] at HT
  have HB := Lib.hid hby
  have HF := Lib.hid hfirst
  clear hb hby hfirst
  go_enter Tryd.func28, Tryd.ntmps28
  go_wp2_with (go_at_call 59; refine (HT.out _).mono ?_; rintro e w' ⟨rfl, rfl⟩)
  go_loopw [4, 5] (fun o i wr => ∃ (k : Nat) (x : Aft w), k ≤ s.size ∧ i = .int .i64 k ∧ o = .string (spellTo s k) ∧ wr = x.w1) (fun _ i _ => s.size - (intOf i).toNat)
  case atStart => exact ⟨0, ⟨w, Below.refl _ _⟩, by omega, rfl, rfl, rfl⟩
  case round =>
    obtain ⟨k, x, hk, rfl, rfl, rfl⟩ := hrel
    by_cases hlt : k < s.size
    · have hz := spellTo_size (s := s) hk
      by_cases h32 : s[k] = 32
      · have b0 : ((s[k].toNat : Int) == 32) = true := by rw [h32]; rfl
        have hk0 : 0 < k := by
          rcases Nat.eq_zero_or_pos k with h | h
          · subst h; exact absurd h32 (HF.out hlt)
          · exact h
        have HN : Hid (spellTo s (k + 1) = spellTo s k ++ (⟨#[32, 47]⟩ : ByteArray)) := by
          refine Lib.hid ?_
          rw [spellTo_succ hk0 hlt, h32, part_blank, ByteArray.append_assoc]
          rfl
        generalize spellTo s k = o at *
        clear h32
        go_wp2
        go_roundw
        case rel => exact ⟨k + 1, x, by omega, by go_num, by rw [HN.out], rfl⟩
        case measure => simp [intOf]; omega
      · have b0 : ((s[k].toNat : Int) == 32) = false := by
          have : s[k].toNat ≠ 32 := fun e => h32 (UInt8.toNat_inj.1 e)
          simp; omega
        have hup := isUp_iff.1 ((HB.out k hlt).resolve_left h32)
        have HC := Lib.hid (fun W => l07Code_c (s[k].toNat : Int) (by omega) (by omega) W)
        have hcz : (codeB (s[k].toNat : Int)).size ≤ 4 := (codeB_signs _).1
        have HP := Lib.hid (part_up h32)
        clear h32 hup
        rcases Nat.eq_zero_or_pos k with hk0 | hk0
        · subst hk0
          have HN : Hid (spellTo s 1 = codeB (s[0].toNat : Int)) := Lib.hid (by rw [spellTo_zero hlt, HP.out])
          have h0 : spellTo s 0 = ⟨#[]⟩ := rfl
          generalize codeB (s[0].toNat : Int) = cb at *
          go_wp2_with (go_at_call 52; refine (Aft.call (HC.out _)).mono ?_; rintro e _ ⟨rfl, y, rfl⟩)
          go_roundw
          case rel => exact ⟨1, _, by omega, rfl, by rw [HN.out]; first | rfl | (congr 1; apply ByteArray.ext; simp [ByteArray.data_append]), rfl⟩
          case measure => simp [intOf]; omega
        · have HN : Hid (spellTo s (k + 1) = spellTo s k ++ (⟨#[32]⟩ : ByteArray) ++ codeB (s[k].toNat : Int)) := Lib.hid (by rw [spellTo_succ hk0 hlt, HP.out])
          have hkp : (k : Int) > 0 := by omega
          generalize codeB (s[k].toNat : Int) = cb at *
          generalize spellTo s k = o at *
          go_wp2_with (go_at_call 52; refine (Aft.call (HC.out _)).mono ?_; rintro e _ ⟨rfl, y, rfl⟩)
          go_roundw
          case rel => exact ⟨k + 1, _, by omega, by go_num, by rw [HN.out], rfl⟩
          case measure => simp [intOf]; omega
    · obtain rfl : k = s.size := by omega
      go_wp2
      go_ret2
      exact ⟨rfl, x.below⟩
/-- A row of the call's own is kept when an iterator moves on. -/
theorem own_iterAt {w : World} {base : Nat} {e : TypeId} {size n : Nat} {v : Value} {xs : List Value} {k pos pos' : Nat} {s : ByteArray} (h : w.ownsRow base e size v n xs) (hk : w.heap[k]? = some (.stringIter s pos)) : (w.iterAt k s pos').ownsRow base e size v n xs := by
  refine ⟨h.1, ?_⟩
  rcases h.2 with h0 | ⟨g, cap, cur, h1, h2, h3, h4⟩
  · exact .inl h0
  · have hne : g ≠ k := fun e => by rw [e, hk] at h3; cases h3
    exact .inr ⟨g, cap, cur, h1, h2, (Lib.iterAt_other w k g s pos' hne).trans h3, h4⟩
/-- An iterator is kept when a row of the call's own grows. -/
theorem iter_grown {w w' : World} {base : Nat} {e : TypeId} {size n : Nat} {v : Value} {xs : List Value} {k pos : Nat} {s : ByteArray} {o : Obj} (h : w.ownsRow base e size v n xs) (hk : w.heap[k]? = some (.stringIter s pos)) (hg : (w.alloc o).grownBy w' v.ownBlock) : w'.heap[k]? = some (.stringIter s pos) := by
  have hlt : k < w.heap.size := (Array.getElem?_eq_some_iff.1 hk).1
  have hne : some k ≠ v.ownBlock := by
    intro e1
    rcases h.2 with ⟨rfl, _⟩ | ⟨g, cap, cur, rfl, h2, h3, h4⟩
    · simp [Value.ownBlock] at e1
    · simp only [Value.ownBlock, Option.some.injEq] at e1
      subst e1
      rw [hk] at h3; cases h3
  have hb : (w.alloc o).heap[k]? = w.heap[k]? := (Go.Joins.below_alloc1 w o).block k hlt
  exact (hg.block k (by rw [World.size_alloc]; omega) hne).trans (hb.trans hk)
def strs (s : ByteArray) (k : Nat) : List Value := ((s.data.toList.take k).map part).map Value.string
theorem strs_succ {s : ByteArray} {k : Nat} (h : k < s.size) : strs s (k + 1) = strs s k ++ [.string (part s[k])] := by
  unfold strs
  rw [take_snoc s k h]
  simp
def lays156b_ren : Go.Shelf.Ren := ⟨fun | 156 => 58 | 165 => 92 | 166 => 93 | 169 => 94 | 240 => 107 | 241 => 108 | 276 => 115 | 277 => 116 | n => n, fun | 31 => 56 | 9 => 9 | 3 => 3 | 4 => 4 | 0 => 0 | 20 => 20 | 72 => 96 | 76 => 100 | 70 => 94 | 37 => 62 | 75 => 99 | 127 => 115 | 164 => 125 | 5 => 5 | 80 => 102 | n => n, fun  | n => n⟩
theorem lays156b : Lays.n156 Tryd.prog lays156b_ren where
  mixed := by kernel_rfl
  f156 := Tryd.func58.trans (congrArg some (by kernel_rfl))
  f165 := Tryd.func92.trans (congrArg some (by kernel_rfl))
  f166 := Tryd.func93.trans (congrArg some (by kernel_rfl))
  f169 := Tryd.func94.trans (congrArg some (by kernel_rfl))
  f240 := Tryd.func107.trans (congrArg some (by kernel_rfl))
  f241 := Tryd.func108.trans (congrArg some (by kernel_rfl))
  f276 := Tryd.func115.trans (congrArg some (by kernel_rfl))
  f277 := Tryd.func116.trans (congrArg some (by kernel_rfl))
  t0 := Tryd.underlying0
  a0 := Tryd.isAgg0
  z0 := Tryd.sizeOf0
  v0 := Tryd.zeroValue0
  t3 := Tryd.underlying3
  a3 := Tryd.isAgg3
  z3 := Tryd.sizeOf3
  v3 := Tryd.zeroValue3
  t4 := Tryd.underlying4
  a4 := Tryd.isAgg4
  z4 := Tryd.sizeOf4
  v4 := Tryd.zeroValue4
  t9 := Tryd.underlying9
  a9 := Tryd.isAgg9
  z9 := Tryd.sizeOf9
  v9 := Tryd.zeroValue9
  t20 := Tryd.underlying20
  a20 := Tryd.isAgg20
  z20 := Tryd.sizeOf20
  v20 := Tryd.zeroValue20
  t31 := Tryd.underlying56
  a31 := Tryd.isAgg56
  z31 := Tryd.sizeOf56
  v31 := Tryd.zeroValue56
  t37 := Tryd.underlying62
  a37 := Tryd.isAgg62
  z37 := Tryd.sizeOf62
  v37 := Tryd.zeroValue62
  t70 := Tryd.underlying94
  a70 := Tryd.isAgg94
  z70 := Tryd.sizeOf94
  v70 := Tryd.zeroValue94
  t72 := Tryd.underlying96
  a72 := Tryd.isAgg96
  z72 := Tryd.sizeOf96
  v72 := Tryd.zeroValue96
  t75 := Tryd.underlying99
  a75 := Tryd.isAgg99
  z75 := Tryd.sizeOf99
  v75 := Tryd.zeroValue99
  t76 := Tryd.underlying100
  a76 := Tryd.isAgg100
  z76 := Tryd.sizeOf100
  v76 := Tryd.zeroValue100
  t127 := Tryd.underlying115
  a127 := Tryd.isAgg115
  z127 := Tryd.sizeOf115
  v127 := Tryd.zeroValue115
  t164 := Tryd.underlying125
  a164 := Tryd.isAgg125
  z164 := Tryd.sizeOf125
  v164 := Tryd.zeroValue125
theorem builder156b : Builder.Extra Tryd.prog lays156b_ren where
  sizeBuilder := by kernel_rfl
  liesBuilder := by kernel_rfl
  t5 := Tryd.underlying5
  a5 := Tryd.isAgg5
  z5 := Tryd.sizeOf5
  v5 := Tryd.zeroValue5
  infoByte := by kernel_rfl
  cellsByte := by kernel_rfl
  sizeByte := by kernel_rfl
  neB5 := by decide
theorem joinP_c (s : ByteArray) (v : Value) (base : Nat) (w : World) (h1 : 1 ≤ s.size) (h12 : s.size ≤ 12) (h : w.ownsRow base 9 1 v s.size (strs s s.size)) :
    Calls Tryd.prog 58 #[v, .string (⟨#[32]⟩ : ByteArray)] w fun e w' => e = .returned (.string (spellTo s s.size)) ∧ Below w.heap.size w w' := by
  obtain ⟨g, cap, rfl⟩ := Go.Joins.ownsRow_form h h1
  have hz : s.data.toList.length = s.size := by rw [Array.length_toList]; rfl
  have ht : s.data.toList.take s.size = s.data.toList := List.take_of_length_le (by omega)
  have hcap : s.size ≤ cap := by
    rcases h.2 with ⟨h0, _⟩ | ⟨g', cap', cur, h0, _, _, h4⟩
    · cases h0
    · injection h0 with _ _ hc
      subst hc
      have := h4.1
      omega
  have hcell : ∀ (j : Nat) x, ((s.data.toList).map part)[j]? = some x → w.cell? ⟨g, 0 + j, none⟩ = some (.string x) := fun j x hx => by
    have hj : j < s.size := by
      have := (List.getElem?_eq_some_iff.1 hx).1
      rw [List.length_map] at this
      omega
    rw [Nat.zero_add, h.cellAt j (by omega)]
    unfold strs
    rw [ht, List.getElem?_map, hx]
    rfl
  have hbk : g < w.heap.size := by
    have := hcell 0 _ (List.getElem?_eq_getElem (by rw [List.length_map]; omega))
    exact cell_lt this
  have c := Any.strings_Join lays156b builder156b g 0 cap (s.data.toList.map part) (⟨#[32]⟩ : ByteArray) w hcell hbk (by rw [List.length_map]; omega) (by rw [List.length_map]; omega) (by
    have e := congrArg ByteArray.size (join_parts s.data.toList)
    have e2 := joinTo_size s.data.toList
    have e3 : (⟨(Lib.join ((s.data.toList.map part).map (·.data.toList)) ((⟨#[32]⟩ : ByteArray)).data.toList).toArray⟩ : ByteArray).size = (Lib.join ((s.data.toList.map part).map (·.data.toList)) ((⟨#[32]⟩ : ByteArray)).data.toList).length := by
      show Array.size _ = _
      simp
    omega)
  rw [join_parts] at c
  rw [List.length_map, hz] at c
  unfold spellTo
  rw [ht]
  exact c
set_option maxRecDepth 100000 in
set_option maxHeartbeats 4000000 in
theorem implSpell_bad (s : ByteArray) (hs : s.size ≤ 1048576) (hb : okText s = false) (w : World) (hM : MaxL w) :
    Calls Tryd.prog 29 #[.string s] w fun e w' => e = .returned (.tuple #[.string ⟨#[]⟩, .int .i64 1]) ∧ Below w.heap.size w w' := by
  have HT := Lib.hid (canSend_c s (by omega) w hM)
  rw [hb] at HT
  go_enter Tryd.func29, Tryd.ntmps29
  go_wp2_with fail
  refine HT.out.mono ?_
  rintro e w1 ⟨rfl, hb1⟩
  go_wp2
  go_ret2
  exact ⟨rfl, hb1⟩
set_option maxRecDepth 100000 in
set_option maxHeartbeats 4000000 in
theorem implSpell_good (s : ByteArray) (hs : s.size ≤ 1048576) (hb : okText s = true) (w : World) (hM : MaxL w) :
    Calls Tryd.prog 29 #[.string s] w fun e w' => e = .returned (.tuple #[.string (spellTo s s.size), .int .i64 0]) ∧ Below w.heap.size w w' := by
  obtain ⟨i0, hi0, hz0, hz1, hz2⟩ := info_parts info_str
  have HT := Lib.hid (canSend_c s (by omega) w hM)
  obtain ⟨h1, h12, hby, _⟩ := okText_parts hb
  rw [hb] at HT
  have HB := Lib.hid hby
  clear hb hby
  go_enter Tryd.func29, Tryd.ntmps29
  go_wp2_with fail
  refine HT.out.mono ?_
  rintro e w1 ⟨rfl, hb1⟩
  have hown0 : (w1.alloc (.cells #[] 9)).ownsRow w1.heap.size 9 1 (.slice (some ⟨w1.heap.size, 0, none⟩) 0 0) 0 [] := ownsRow_at (cs := #[]) rfl (Nat.le_refl _) rfl (by omega) rfl
  obtain ⟨W2, hW2⟩ : ∃ W2, W2 = w1.alloc (.cells #[] 9) := ⟨_, rfl⟩
  have hb2 : Below w1.heap.size w1 W2 := hW2 ▸ (by repeat (first | exact Below.refl _ _ | refine Below.alloc ?_ (by simp; try omega) _ | refine Below.drew ?_))
  have hs2 : W2.heap.size = w1.heap.size + 1 := by rw [hW2]; simp
  have hown2 : W2.ownsRow w1.heap.size 9 1 (.slice (some ⟨w1.heap.size, 0, none⟩) 0 0) 0 [] := hW2 ▸ hown0
  clear hown0
  go_wp2
  rw [← hW2]
  go_loopw [4, 5] (fun v _ wr => ∃ pos : Nat, pos ≤ s.size ∧ wr.heap[w1.heap.size + 1]? = some (.stringIter s pos) ∧ Below w1.heap.size w1 wr ∧ wr.ownsRow w1.heap.size 9 1 v pos (strs s pos)) (fun _ _ wr => s.size - wr.iterPos (w1.heap.size + 1))
  case atStart => exact ⟨0, by omega, by rw [← hs2]; exact World.iter_heap W2 s 0, hb2.alloc hb2.size _, own_below hown2 ((Below.refl _ _).alloc (Nat.le_refl _) _)⟩
  case round =>
    clear hown2 hb2 HT
    obtain ⟨pos, hpos, hit, hbw, hown⟩ := hrel
    have hpos0 := iterPos_of hit
    by_cases hlt : pos < s.size
    · have hby := HB.out pos hlt
      have hn := strs_succ hlt
      have hlen : (strs s pos).length = pos := by
        have := hown.1
        omega
      have ha : (s[pos]'hlt).toNat < 128 := by
        rcases hby with h | h
        · rw [h]; decide
        · have := isUp_iff.1 h; omega
      have hnx := fun ty => Lib.run_next_ascii_at (P := Tryd.prog) wr (w1.heap.size + 1) s pos ty hit hlt ha
      have hit2 := Lib.iterAt_heap wr (w1.heap.size + 1) s pos (pos + 1) hit
      have hbw2 := Lib.below_iterAt hbw (k := w1.heap.size + 1) (by omega) s (pos + 1)
      have hown2 := own_iterAt (pos' := pos + 1) hown hit
      have hsz : w1.heap.size ≤ (wr.iterAt (w1.heap.size + 1) s (pos + 1)).heap.size := by rw [Lib.iterAt_size]; exact hbw.size
      generalize wr.iterAt (w1.heap.size + 1) s (pos + 1) = W1 at *
      have HI2 := Lib.hid hit2
      have HQ := Lib.hid hpos0
      have HB2 := Lib.hid hbw2
      have HO := Lib.hid hown2
      have q4 : (pos + 1) * 16 ≤ 140737488355328 := by omega
      clear hit hit2 hbw hbw2 hown hown2 hpos0 ha
      by_cases h32 : s[pos] = 32
      · have b0 : ((s[pos].toNat : Int) == 32) = true := by rw [h32]; rfl
        have HN := Lib.hid (show strs s (pos + 1) = strs s pos ++ [.string (⟨#[47]⟩ : ByteArray)] by rw [hn, h32]; rfl)
        clear h32 hby hn
        go_wp2_with (at_builtin; refine wpList_append_own _ rfl _ _ 56 rfl w1.heap.size 9 i0 _ 1 16 Tryd.underlying56 hi0 hz0 hz1 hz2 rfl (by decide) _ _ _ rfl (HO.out.alloc _) ⟨W1.heap.size, 0, none⟩ 1 1 [.string (⟨#[47]⟩ : ByteArray)] rfl rfl (cell_one_new _ _ _) (one_string _) (small_row (by omega)) q4 (le_alloc hsz _) ?_; intro v' w5 hown5 hgrow5 hnew5; have HO5 := Lib.hid hown5; have HG5 := Lib.hid hgrow5; clear hown5 hgrow5 hnew5)
        have hit5 := iter_grown HO.out HI2.out HG5.out
        refine ⟨⟨pos + 1, by omega, hit5, own_next HB2.out HO.out HG5.out, by rw [HN.out]; exact HO5.out⟩, ?_⟩
        rw [iterPos_of hit5, HQ.out]
        omega
      · have b0 : ((s[pos].toNat : Int) == 32) = false := by
          have : s[pos].toNat ≠ 32 := fun e => h32 (UInt8.toNat_inj.1 e)
          simp; omega
        have HN := Lib.hid (show strs s (pos + 1) = strs s pos ++ [.string (codeB (s[pos].toNat : Int))] by rw [hn, part_up h32])
        have hsg := sigS_byte hlt
        have HSG := Lib.hid (fun W' => signsOf_c (s.extract pos (pos + 1)) (by rw [ByteArray.size_extract]; omega) W')
        rw [hsg] at HSG
        generalize codeB (s[pos].toNat : Int) = cb at *
        clear h32 hby hn hsg
        go_wp2_with (first
          | (go_at_call 55; refine (HSG.out _).mono ?_; rintro e w' ⟨rfl, rfl⟩)
          | (at_builtin; refine wpList_append_own _ rfl _ _ 56 rfl w1.heap.size 9 i0 _ 1 16 Tryd.underlying56 hi0 hz0 hz1 hz2 rfl (by decide) _ _ _ rfl (HO.out.alloc _) ⟨W1.heap.size, 0, none⟩ 1 1 [.string cb] rfl rfl (cell_one_new _ _ _) (one_string _) (small_row (by omega)) q4 (le_alloc hsz _) ?_; intro v' w5 hown5 hgrow5 hnew5; have HO5 := Lib.hid hown5; have HG5 := Lib.hid hgrow5; clear hown5 hgrow5 hnew5))
        have hit5 := iter_grown HO.out HI2.out HG5.out
        refine ⟨⟨pos + 1, by omega, hit5, own_next HB2.out HO.out HG5.out, by rw [HN.out]; exact HO5.out⟩, ?_⟩
        rw [iterPos_of hit5, HQ.out]
        omega
    · obtain rfl : pos = s.size := by omega
      have hnx := fun ty => Lib.run_next_end_at (P := Tryd.prog) wr (w1.heap.size + 1) s s.size ty hit (by omega)
      have HJ := Lib.hid (joinP_c s _ _ wr h1 h12 hown)
      have HBW := Lib.hid hbw
      clear hpos0 hit hown hbw
      go_wp2_with fail
      refine HJ.out.mono ?_
      rintro e w6 ⟨rfl, hb6⟩
      go_wp2
      go_ret2
      exact ⟨rfl, held_next hb1 (held_next HBW.out hb6)⟩
end Go.Proofs.YtolijmldobncbaaDoor
