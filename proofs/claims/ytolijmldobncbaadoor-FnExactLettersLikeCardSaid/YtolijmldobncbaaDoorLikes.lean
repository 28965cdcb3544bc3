/- The letters whose signs begin with some: contracts of the program's and of the reference's functions. -/
import Derived.Test.YtolijmldobncbaaDoorFind
import Derived.Shelf.Strings.SlTrimAscii
import Derived.Shelf.Strings.Prefix
import Derived.Shelf.Lays
namespace Go.Proofs.YtolijmldobncbaaDoor
open Go.RowKit Go.Shelf
/-- Dots and dashes only. -/
def allDM (s : ByteArray) : Bool := s.data.toList.all fun c => [(46 : UInt8), 45].contains c
theorem allDM_at {s : ByteArray} (h : allDM s = true) (i : Nat) (hi : i < s.size) : s[i] = 46 ∨ s[i] = 45 := by
  have := List.all_eq_true.1 h s[i] (by rw [← Array.mem_def]; exact Array.getElem_mem _)
  simp only [List.contains_cons, List.contains_nil, Bool.or_false, Bool.or_eq_true, beq_iff_eq] at this
  exact this
theorem allDM_of {s : ByteArray} (h : ∀ i (hi : i < s.size), s[i] = 46 ∨ s[i] = 45) : allDM s = true := by
  refine List.all_eq_true.2 fun c hc => ?_
  rw [← Array.mem_def] at hc
  obtain ⟨i, hi, rfl⟩ := Array.mem_iff_getElem.1 hc
  have h' := h i hi
  simp only [List.contains_cons, List.contains_nil, Bool.or_false, Bool.or_eq_true, beq_iff_eq]
  exact h'
theorem dropWhile_head {p : UInt8 → Bool} : ∀ {l : List UInt8} {a : UInt8} {r : List UInt8}, l.dropWhile p = a :: r → p a = false
  | b :: l, a, r, h => by
    rw [List.dropWhile_cons] at h
    split at h
    · exact dropWhile_head h
    · rename_i hp
      cases h
      simpa using hp
theorem dropWhile_nil {p : UInt8 → Bool} : ∀ {l : List UInt8}, l.dropWhile p = [] ↔ ∀ x ∈ l, p x = true
  | [] => by simp
  | b :: l => by
    rw [List.dropWhile_cons]
    split
    · rename_i hb
      rw [dropWhile_nil]
      simp [hb]
    · rename_i hb
      simp [hb]
theorem trimS_nil (l cs : List UInt8) : (Lib.trimS l cs).isEmpty = l.all (cs.contains ·) := by
  rw [Bool.eq_iff_iff, List.isEmpty_iff, List.all_eq_true]
  unfold Lib.trimS Lib.trimLeftS Lib.trimRightS
  rw [dropWhile_nil]
  constructor
  · intro h
    have h0 : l.reverse.dropWhile (cs.contains ·) = [] := by
      cases hd : l.reverse.dropWhile (cs.contains ·) with
      | nil => rfl
      | cons a r =>
        exfalso
        have h1 := h a (by rw [hd]; simp)
        rw [dropWhile_head hd] at h1
        cases h1
    rw [dropWhile_nil] at h0
    intro x hx
    exact h0 x (by simpa using hx)
  · intro h x hx
    have hx' : x ∈ l.reverse.dropWhile (cs.contains ·) := by simpa using hx
    exact h x (by simpa using (List.dropWhile_sublist _).subset hx')
/-- The n-th letter's signs begin with some. -/
def hasP (n : Nat) (s : ByteArray) : Bool := Lib.hasPrefix (cN n).data.toList s.data.toList
/-- The letters among the first n. -/
def likes (s : ByteArray) : Nat → ByteArray
  | 0 => ⟨#[]⟩
  | n + 1 => if hasP n s then likes s n ++ letN n else likes s n
theorem likes_yes {s : ByteArray} {n : Nat} (h : hasP n s = true) : likes s (n + 1) = likes s n ++ letN n := by rw [likes, if_pos h]
theorem likes_no {s : ByteArray} {n : Nat} (h : hasP n s = false) : likes s (n + 1) = likes s n := by rw [likes, if_neg (by simp [h])]
theorem likes_size (s : ByteArray) : ∀ n, (likes s n).size ≤ n
  | 0 => Nat.le_refl _
  | n + 1 => by
    have h := likes_size s n
    cases hp : hasP n s
    · rw [likes_no hp]; omega
    · rw [likes_yes hp, ByteArray.size_append]
      have : (letN n).size = 1 := rfl
      omega
set_option maxHeartbeats 2000000 in
theorem specLikes_bad (s : ByteArray) (hs : s.size ≤ maxLen) (hb : allDM s = false) (w : World) :
    Calls Tryd.prog 24 #[.string s] w fun e w' => e = .returned (.tuple #[.string ⟨#[]⟩, .int .i64 1]) ∧ Below w.heap.size w w' := by
  unfold maxLen at hs
  have HB := Lib.hid hb
  clear hb
  go_enter Tryd.func24, Tryd.ntmps24
  go_wp2
  go_loop [4] (fun i => ∃ k : Nat, k ≤ s.size ∧ i = .int .i64 k ∧ Hid (∀ j (h : j < s.size), j < k → s[j] = 46 ∨ s[j] = 45)) (fun i => s.size - (intOf i).toNat)
  case atStart => exact ⟨0, by omega, rfl, Lib.hid (fun j h hj => by omega)⟩
  case round =>
    obtain ⟨k, hk, rfl, hall⟩ := hrel
    by_cases hlt : k < s.size
    · by_cases h1 : s[k] = 46
      · have hb : ((s[k].toNat : Int) != 46) = false := by rw [h1]; rfl
        have HE := Lib.hid h1
        clear h1
        go_wp2
        go_round
        case rel => exact ⟨k + 1, by omega, by go_num, Lib.hid (fun j h hj => by
          by_cases e : j = k
          · subst e; exact .inl HE.out
          · exact hall.out j h (by omega))⟩
        case measure => simp [intOf]; omega
      · have b1 : ((s[k].toNat : Int) != 46) = true := by
          have : s[k].toNat ≠ 46 := fun e => h1 (UInt8.toNat_inj.1 e)
          simp; omega
        by_cases h2 : s[k] = 45
        · have b2 : ((s[k].toNat : Int) != 45) = false := by rw [h2]; rfl
          have HE := Lib.hid h2
          clear h1 h2
          go_wp2
          go_round
          case rel => exact ⟨k + 1, by omega, by go_num, Lib.hid (fun j h hj => by
            by_cases e : j = k
            · subst e; exact .inr HE.out
            · exact hall.out j h (by omega))⟩
          case measure => simp [intOf]; omega
        · have b2 : ((s[k].toNat : Int) != 45) = true := by
            have : s[k].toNat ≠ 45 := fun e => h2 (UInt8.toNat_inj.1 e)
            simp; omega
          clear h1 h2
          go_wp2
          go_ret2
          exact ⟨rfl, Below.refl _ _⟩
    · obtain rfl : k = s.size := by omega
      exfalso
      rw [allDM_of (fun i hi => hall.out i hi hi)] at HB
      cases HB.out
set_option maxRecDepth 100000 in
set_option maxHeartbeats 4000000 in
theorem specLikes_good (s : ByteArray) (hs : s.size ≤ maxLen) (hb : allDM s = true) (w : World) :
    Calls Tryd.prog 24 #[.string s] w fun e w' => e = .returned (.tuple #[.string (likes s 26), .int .i64 0]) ∧ Below w.heap.size w w' := by
  unfold maxLen at hs
  have HB := Lib.hid (fun i hi => allDM_at hb i hi)
  clear hb
  go_enter Tryd.func24, Tryd.ntmps24
  go_wp2
  go_loop [4] (fun i => ∃ k : Nat, k ≤ s.size ∧ i = .int .i64 k) (fun i => s.size - (intOf i).toNat)
  case atStart => exact ⟨0, by omega, rfl⟩
  case round =>
    obtain ⟨k, hk, rfl⟩ := hrel
    by_cases hlt : k < s.size
    · rcases HB.out k hlt with h1 | h1
      · have hb : ((s[k].toNat : Int) != 46) = false := by rw [h1]; rfl
        clear h1
        go_wp2
        go_round
        case rel => exact ⟨k + 1, by omega, by go_num⟩
        case measure => simp [intOf]; omega
      · have b1 : ((s[k].toNat : Int) != 46) = true := by rw [h1]; rfl
        have b2 : ((s[k].toNat : Int) != 45) = false := by rw [h1]; rfl
        clear h1
        go_wp2
        go_round
        case rel => exact ⟨k + 1, by omega, by go_num⟩
        case measure => simp [intOf]; omega
    · obtain rfl : k = s.size := by omega
      go_wp2
      go_loopw [5, 6] (fun o i wr => ∃ (k : Nat) (x : Aft w), k ≤ 26 ∧ i = .int .u8 (65 + (k : Int)) ∧ o = .string (likes s k) ∧ wr = x.w1) (fun _ i _ => (91 - intOf i).toNat)
      case atStart => exact ⟨0, ⟨w, Below.refl _ _⟩, by omega, rfl, rfl, rfl⟩
      case round =>
        obtain ⟨k, x, r0, rfl, rfl, rfl⟩ := hrel
        by_cases hlt2 : k < 26
        · have hz := likes_size s k
          have hraw : (decide (s.size ≤ (codeB (65 + (k : Int))).size) && (((codeB (65 + (k : Int))).extract 0 s.size).toList == s.toList)) = hasP k s := Lib.hasPrefix_raw (cN k) s
          have hcs : (codeB (65 + (k : Int))).size ≤ 4 := (codeB_signs _).1
          have HC := Lib.hid (fun W => l07Code_c (65 + (k : Int)) (by omega) (by omega) W)
          have hly := likes_yes (s := s) (n := k)
          have hln := likes_no (s := s) (n := k)
          generalize codeB (65 + (k : Int)) = r at *
          generalize likes s k = lk at *
          cases hp : hasP k s
          · have HN := Lib.hid (hln hp)
            rw [hp] at hraw
            clear hly hln hp
            by_cases hq : s.size ≤ r.size
            · have he : ((r.extract 0 s.size).toList == s.toList) = false := by simpa [hq] using hraw
              clear hraw
              go_wp2_with fail
              refine (Aft.call (HC.out _)).mono ?_
              rintro e _ ⟨rfl, y, rfl⟩
              go_wp2
              go_roundw
              case rel => exact ⟨k + 1, y, by omega, by go_num, by rw [HN.out], rfl⟩
              case measure => simp [intOf]; omega
            · clear hraw
              go_wp2_with fail
              refine (Aft.call (HC.out _)).mono ?_
              rintro e _ ⟨rfl, y, rfl⟩
              go_wp2
              go_roundw
              case rel => exact ⟨k + 1, y, by omega, by go_num, by rw [HN.out], rfl⟩
              case measure => simp [intOf]; omega
          · have HN := Lib.hid (hly hp)
            rw [hp] at hraw
            clear hly hln hp
            have hcv := fun W => letter_back hlt2 W
            have hl1 : (letN k).size = 1 := rfl
            generalize letN k = lt at *
            have hq : s.size ≤ r.size := by
              rw [Bool.and_eq_true, decide_eq_true_eq] at hraw
              exact hraw.1
            have he : ((r.extract 0 s.size).toList == s.toList) = true := by
              rw [Bool.and_eq_true] at hraw
              exact hraw.2
            clear hraw
            go_wp2_with fail
            refine (Aft.call (HC.out _)).mono ?_
            rintro e _ ⟨rfl, y, rfl⟩
            go_wp2
            go_roundw
            case rel => exact ⟨k + 1, ⟨_, (Aft.below _).alloc (Aft.below _).size _⟩, by omega, by go_num, by rw [HN.out], rfl⟩
            case measure => simp [intOf]; omega
        · obtain rfl : k = 26 := by omega
          go_wp2
          go_ret2
          exact ⟨rfl, x.below⟩
def lays160_ren : Go.Shelf.Ren := ⟨fun | 160 => 53 | 232 => 84 | 231 => 83 | 227 => 85 | 234 => 87 | 233 => 86 | 236 => 89 | 235 => 88 | 228 => 103 | 271 => 106 | 151 => 105 | 197 => 104 | 120 => 114 | 152 => 113 | 260 => 112 | 137 => 122 | 119 => 123 | 224 => 124 | 225 => 125 | 217 => 128 | 266 => 130 | n => n, fun | 9 => 9 | 4 => 4 | 3 => 3 | 5 => 5 | 117 => 88 | 116 => 87 | 0 => 0 | 124 => 91 | 21 => 21 | 105 => 112 | 46 => 140 | 119 => 108 | 139 => 143 | 138 => 142 | n => n, fun | 3 => 2 | 4 => 3 | n => n⟩
theorem lays160 : Lays.n160 Tryd.prog lays160_ren where
  mixed := by kernel_rfl
  f119 := Tryd.func123.trans (congrArg some (by kernel_rfl))
  f120 := Tryd.func114.trans (congrArg some (by kernel_rfl))
  f137 := Tryd.func122.trans (congrArg some (by kernel_rfl))
  f151 := Tryd.func105.trans (congrArg some (by kernel_rfl))
  f152 := Tryd.func113.trans (congrArg some (by kernel_rfl))
  f160 := Tryd.func53.trans (congrArg some (by kernel_rfl))
  f197 := Tryd.func104.trans (congrArg some (by kernel_rfl))
  f217 := Tryd.func128.trans (congrArg some (by kernel_rfl))
  f224 := Tryd.func124.trans (congrArg some (by kernel_rfl))
  f225 := Tryd.func125.trans (congrArg some (by kernel_rfl))
  f227 := Tryd.func85.trans (congrArg some (by kernel_rfl))
  f228 := Tryd.func103.trans (congrArg some (by kernel_rfl))
  f231 := Tryd.func83.trans (congrArg some (by kernel_rfl))
  f232 := Tryd.func84.trans (congrArg some (by kernel_rfl))
  f233 := Tryd.func86.trans (congrArg some (by kernel_rfl))
  f234 := Tryd.func87.trans (congrArg some (by kernel_rfl))
  f235 := Tryd.func88.trans (congrArg some (by kernel_rfl))
  f236 := Tryd.func89.trans (congrArg some (by kernel_rfl))
  f260 := Tryd.func112.trans (congrArg some (by kernel_rfl))
  f266 := Tryd.func130.trans (congrArg some (by kernel_rfl))
  f271 := Tryd.func106.trans (congrArg some (by kernel_rfl))
  t0 := Tryd.underlying0
  a0 := Tryd.isAgg0
  z0 := Tryd.sizeOf0
  v0 := Tryd.zeroValue0
  t3 := Tryd.underlying3
  a3 := Tryd.isAgg3
  z3 := Tryd.sizeOf3
  v3 := Tryd.zeroValue3
  t4 := Tryd.underlying4
  a4 := Tryd.isAgg4
  z4 := Tryd.sizeOf4
  v4 := Tryd.zeroValue4
  t5 := Tryd.underlying5
  a5 := Tryd.isAgg5
  z5 := Tryd.sizeOf5
  v5 := Tryd.zeroValue5
  t9 := Tryd.underlying9
  a9 := Tryd.isAgg9
  z9 := Tryd.sizeOf9
  v9 := Tryd.zeroValue9
  t21 := Tryd.underlying21
  a21 := Tryd.isAgg21
  z21 := Tryd.sizeOf21
  v21 := Tryd.zeroValue21
  t46 := Tryd.underlying140
  a46 := Tryd.isAgg140
  z46 := Tryd.sizeOf140
  v46 := Tryd.zeroValue140
  t105 := Tryd.underlying112
  a105 := Tryd.isAgg112
  z105 := Tryd.sizeOf112
  v105 := Tryd.zeroValue112
  t116 := Tryd.underlying87
  a116 := Tryd.isAgg87
  z116 := Tryd.sizeOf87
  t117 := Tryd.underlying88
  a117 := Tryd.isAgg88
  z117 := Tryd.sizeOf88
  v117 := Tryd.zeroValue88
  t119 := Tryd.underlying108
  a119 := Tryd.isAgg108
  z119 := Tryd.sizeOf108
  t124 := Tryd.underlying91
  a124 := Tryd.isAgg91
  z124 := Tryd.sizeOf91
  v124 := Tryd.zeroValue91
  t138 := Tryd.underlying142
  a138 := Tryd.isAgg142
  z138 := Tryd.sizeOf142
  v138 := Tryd.zeroValue142
  t139 := Tryd.underlying143
  a139 := Tryd.isAgg143
  z139 := Tryd.sizeOf143
  v139 := Tryd.zeroValue143
  g3 := by kernel_rfl
  g4 := by kernel_rfl
def lays99_ren : Go.Shelf.Ren := ⟨fun | 99 => 54 | 206 => 90 | n => n, fun | 9 => 9 | 4 => 4 | 3 => 3 | n => n, fun  | n => n⟩
theorem lays99 : Lays.n99 Tryd.prog lays99_ren where
  mixed := by kernel_rfl
  f99 := Tryd.func54.trans (congrArg some (by kernel_rfl))
  f206 := Tryd.func90.trans (congrArg some (by kernel_rfl))
  t3 := Tryd.underlying3
  a3 := Tryd.isAgg3
  z3 := Tryd.sizeOf3
  v3 := Tryd.zeroValue3
  t4 := Tryd.underlying4
  a4 := Tryd.isAgg4
  z4 := Tryd.sizeOf4
  v4 := Tryd.zeroValue4
  t9 := Tryd.underlying9
  a9 := Tryd.isAgg9
  z9 := Tryd.sizeOf9
  v9 := Tryd.zeroValue9
theorem trimDM_c (s : ByteArray) (hs : s.size ≤ 9223372036854775807) (w : World) :
    Calls Tryd.prog 53 #[.string s, .string (⟨#[46, 45]⟩ : ByteArray)] w fun e w' => ∃ t : ByteArray, e = .returned (.string t) ∧ t.toList.isEmpty = allDM s ∧ Below w.heap.size w w' := by
  refine (Any.strings_Trim_laid lays160 (by kernel_rfl) s _ w hs (by decide) (ascii_of_all (by decide +kernel))).mono ?_
  rintro e w' ⟨he, hb⟩
  refine ⟨_, he, ?_, hb⟩
  rw [ByteArray.toList_eq]
  exact trimS_nil s.data.toList [46, 45]
theorem prefix_c (n : Nat) (s : ByteArray) (w : World) :
    Calls Tryd.prog 54 #[.string (cN n), .string s] w fun e w' => e = .returned (.bool (hasP n s)) ∧ w = w' :=
  (Any.strings_HasPrefix lays99 _ s w).mono fun _ _ h => ⟨h.1, h.2.symm⟩
set_option maxRecDepth 100000 in
set_option maxHeartbeats 4000000 in
theorem implLikes_bad (s : ByteArray) (hs : s.size ≤ maxLen) (hb : allDM s = false) (w : World) :
    Calls Tryd.prog 25 #[.string s] w fun e w' => e = .returned (.tuple #[.string ⟨#[]⟩, .int .i64 1]) ∧ Below w.heap.size w w' := by
  unfold maxLen at hs
  have HT := Lib.hid (fun W => trimDM_c s (by omega) W)
  have HB := Lib.hid hb
  clear hb
  go_enter Tryd.func25, Tryd.ntmps25
  go_wp2_with fail
  refine (HT.out _).mono ?_
  rintro e w1 ⟨t, rfl, ht, hb1⟩
  rw [HB.out] at ht
  go_wp2
  go_ret2
  exact ⟨rfl, hb1⟩
set_option maxRecDepth 100000 in
set_option maxHeartbeats 4000000 in
theorem implLikes_good (s : ByteArray) (hs : s.size ≤ maxLen) (hb : allDM s = true) (w : World) :
    Calls Tryd.prog 25 #[.string s] w fun e w' => e = .returned (.tuple #[.string (likes s 26), .int .i64 0]) ∧ Below w.heap.size w w' := by
  unfold maxLen at hs
  have HT := Lib.hid (fun W => trimDM_c s (by omega) W)
  have HB := Lib.hid hb
  clear hb
  go_enter Tryd.func25, Tryd.ntmps25
  go_wp2_with fail
  refine (HT.out _).mono ?_
  rintro e w1 ⟨t, rfl, ht, hb1⟩
  rw [HB.out] at ht
  go_wp2
  go_loopw [4, 6] (fun o _ wr => ∃ pos : Nat, pos ≤ 26 ∧ o = .string (likes s pos) ∧ wr.heap[w1.heap.size]? = some (.stringIter letters pos) ∧ Below w1.heap.size w1 wr) (fun _ _ wr => 26 - wr.iterPos w1.heap.size)
  case atStart => exact ⟨0, by omega, rfl, World.iter_heap w1 letters 0, (Below.refl _ _).alloc (Nat.le_refl _) _⟩
  case round =>
    obtain ⟨pos, hp, rfl, hit, hbw⟩ := hrel
    have hpos0 := iterPos_of hit
    by_cases hlt : pos < 26
    · have hlt' : pos < letters.size := hlt
      have hl : (letters[pos]'hlt').toNat = 65 + pos := letters_at ⟨pos, hlt⟩
      have hnx := fun ty => Lib.run_next_ascii_at (P := Tryd.prog) wr w1.heap.size letters pos ty hit hlt' (by rw [hl]; omega)
      rw [hl] at hnx
      have henc := encode_let hlt
      have hz := likes_size s pos
      have hl1 : (letN pos).size = 1 := rfl
      have hit2 := Lib.iterAt_heap wr w1.heap.size letters pos (pos + 1) hit
      have hbw2 := Lib.below_iterAt hbw (k := w1.heap.size) (Nat.le_refl _) letters (pos + 1)
      obtain ⟨W1, hW1⟩ : ∃ W1, W1 = wr.iterAt w1.heap.size letters (pos + 1) := ⟨_, rfl⟩
      rw [← hW1] at hnx hit2 hbw2
      have HI2 := Lib.hid hit2
      have HP := Lib.hid hpos0
      have HS := Lib.hid (fun W => signsOf_let hlt W)
      have HX := Lib.hid (fun W => prefix_c pos s W)
      clear hl hW1 hit hit2 hpos0
      cases hp' : hasP pos s
      · have HN := Lib.hid (likes_no hp')
        rw [hp'] at HX
        clear hp'
        generalize letN pos = lt at *
        generalize cN pos = cn at *
        go_wp2_with (first
          | (go_at_call 55; refine (HS.out _).mono ?_; rintro e w' ⟨rfl, rfl⟩)
          | (go_at_call 54; refine (HX.out _).mono ?_; rintro e w' ⟨rfl, rfl⟩))
        refine ⟨⟨pos + 1, by omega, by rw [HN.out], HI2.out, hbw2⟩, ?_⟩
        rw [iterPos_of HI2.out, HP.out]
        omega
      · have HN := Lib.hid (likes_yes hp')
        rw [hp'] at HX
        clear hp'
        generalize letN pos = lt at *
        generalize cN pos = cn at *
        go_wp2_with (first
          | (go_at_call 55; refine (HS.out _).mono ?_; rintro e w' ⟨rfl, rfl⟩)
          | (go_at_call 54; refine (HX.out _).mono ?_; rintro e w' ⟨rfl, rfl⟩))
        refine ⟨⟨pos + 1, by omega, by rw [HN.out], HI2.out, hbw2⟩, ?_⟩
        rw [iterPos_of HI2.out, HP.out]
        omega
    · have hnx := fun ty => Lib.run_next_end_at (P := Tryd.prog) wr w1.heap.size letters pos ty hit (by rw [letters_size]; omega)
      obtain rfl : pos = 26 := by omega
      clear hpos0 hit
      go_wp2
      go_ret2
      exact ⟨rfl, held_next hb1 hbw⟩
end Go.Proofs.YtolijmldobncbaaDoor
