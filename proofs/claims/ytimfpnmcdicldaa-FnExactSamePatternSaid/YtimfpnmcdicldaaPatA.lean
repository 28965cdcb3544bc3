/- Patterns: the tenths of phases, on both sides. -/
import Derived.Test.YtimfpnmcdicldaaPhV
import Derived.Test.YtimfpnmcdicldaaPatS
import Derived.Test.YtimfpnmcdicldaaBlk
namespace Go.Proofs.Ytimfpnmcdicldaa
open Go Go.RowKit Go.Shelf
/-- A color's byte, and a byte's color. -/
def col (c : ByteArray) : UInt8 := c.data.toList.headD 0
def lampB (c : UInt8) : ByteArray := if c = 0 then ⟨#[]⟩ else ⟨#[c]⟩
theorem lamp_col {c : ByteArray} (h : c.toList.isEmpty = true ∨ isC c = true) : lampB (col c) = c := by
  rcases h with h | h
  · have e : c.data = #[] := by
      have := List.isEmpty_iff.1 h
      rw [ByteArray.toList_eq] at this
      exact Array.toList_eq_nil_iff.1 this
    unfold lampB col
    rw [e]
    apply ByteArray.ext
    rw [e]
    rfl
  · unfold isC at h
    rw [Bool.and_eq_true, decide_eq_true_eq] at h
    obtain ⟨d, rfl⟩ := one_of h.1
    have h2 := h.2
    simp only [List.headD_cons] at h2
    have hne : d ≠ 0 := by
      rintro rfl
      simp at h2
    show (if d = 0 then (⟨#[]⟩ : ByteArray) else ⟨#[d]⟩) = ⟨#[d]⟩
    rw [if_neg hne]
theorem lamp_inj {a b : UInt8} (h : lampB a = lampB b) : a = b := by
  unfold lampB at h
  by_cases ha : a = 0 <;> by_cases hb : b = 0
  · rw [ha, hb]
  · rw [if_pos ha, if_neg hb] at h
    have := congrArg ByteArray.size h
    exact absurd this (by show ¬ (0 : Nat) = 1; omega)
  · rw [if_neg ha, if_pos hb] at h
    have := congrArg ByteArray.size h
    exact absurd this (by show ¬ (1 : Nat) = 0; omega)
  · rw [if_neg ha, if_neg hb] at h
    have := congrArg ByteArray.data h
    simpa using this
/-- All tenths of the first n phases. -/
def tensL (C : Nat → ByteArray) (L : Nat → Int) : Nat → List UInt8
  | 0 => []
  | k + 1 => tensL C L k ++ List.replicate (L k).toNat (col (C k))
theorem tens_len {C : Nat → ByteArray} {L : Nat → Int} : ∀ k, (∀ i, i < k → okPh C L i = true) → ((tensL C L k).length : Int) = sumL L k
  | 0, _ => rfl
  | k + 1, h => by
    have h1 := tens_len k (fun i hi => h i (by omega))
    have h2 := (okPh_len (h k (by omega))).1
    rw [tensL, List.length_append, List.length_replicate, sumL]
    omega
def bytesV (l : List UInt8) : List Value := l.map fun b => .int .u8 (b.toNat : Int)
def lampsV (l : List UInt8) : List Value := l.map fun b => .string (lampB b)
theorem bytesV_snoc (l : List UInt8) (b : UInt8) : bytesV (l ++ [b]) = bytesV l ++ [.int .u8 (b.toNat : Int)] := by simp [bytesV]
theorem lampsV_snoc (l : List UInt8) (b : UInt8) : lampsV (l ++ [b]) = lampsV l ++ [.string (lampB b)] := by simp [lampsV]
theorem rep_step (P : List UInt8) (j : Nat) (b : UInt8) : P ++ List.replicate (j + 1) b = (P ++ List.replicate j b) ++ [b] := by
  rw [List.replicate_succ', List.append_assoc]
/-- A row of bytes, a row of colors. -/
def ByR (w : World) (g n : Nat) (t : Nat → UInt8) : Prop := ∀ i, i < n → w.cell? ⟨g, i, none⟩ = some (.int .u8 ((t i).toNat : Int))
def StR (w : World) (g n : Nat) (t : Nat → UInt8) : Prop := ∀ i, i < n → w.cell? ⟨g, i, none⟩ = some (.string (lampB (t i)))
theorem ByR.below {w w' : World} {g n : Nat} {t : Nat → UInt8} (h : ByR w g n t) (hb : Below w.heap.size w w') : ByR w' g n t := fun i hi =>
  (hb.cell (p := ⟨g, i, none⟩) (cell_lt (h i hi))).trans (h i hi)
theorem StR.below {w w' : World} {g n : Nat} {t : Nat → UInt8} (h : StR w g n t) (hb : Below w.heap.size w w') : StR w' g n t := fun i hi =>
  (hb.cell (p := ⟨g, i, none⟩) (cell_lt (h i hi))).trans (h i hi)
theorem ByR.of {w : World} {base g cap : Nat} {l : List UInt8} {e : TypeId} (h : w.ownsRow base e 1 (.slice (some ⟨g, 0, none⟩) l.length cap) l.length (bytesV l)) : ByR w g l.length (fun i => l.getD i 0) := fun i hi => by
  rw [h.cellAt i (by omega)]
  simp [bytesV, hi]
theorem StR.of {w : World} {base g cap : Nat} {l : List UInt8} {e : TypeId} (h : w.ownsRow base e 1 (.slice (some ⟨g, 0, none⟩) l.length cap) l.length (lampsV l)) : StR w g l.length (fun i => l.getD i 0) := fun i hi => by
  rw [h.cellAt i (by omega)]
  simp [lampsV, hi]
set_option maxHeartbeats 8000000 in
theorem l06Tenths_c (A : Option Addr) (n cap : Nat) (C : Nat → ByteArray) (L : Nat → Int) (w : World) (hn : n ≤ 40) (hok : ∀ i, i < n → okPh C L i = true) (hR : Rec 2 w A n (vPhase C L)) :
    Calls Try.prog 115 #[.slice A n cap] w fun e w' => ∃ v, e = .returned v ∧ w'.ownsRow w.heap.size 5 1 v (tensL C L n).length (bytesV (tensL C L n)) ∧ Below w.heap.size w w' := by
  obtain ⟨ip, hip, hip0, hip1, hip2⟩ := info_parts (show (Try.prog.info? 5).map (fun i => (i.zero, i.size, i.bytes)) = some (some (.int .u8 0), 1, 1) by kernel_rfl)
  have hown0 : (w.alloc (.cells #[] 5)).ownsRow w.heap.size 5 1 (.slice (some ⟨w.heap.size, 0, none⟩) 0 0) 0 [] := ownsRow_at (cs := #[]) rfl (Nat.le_refl _) rfl (by omega) rfl
  have HLN := Lib.hid (fun k (hk : k ≤ n) => (show (tensL C L k).length ≤ 24000 by
    have h1 := tens_len (C := C) (L := L) k (fun i hi => hok i (by omega))
    have h2 := (sumL_bd (C := C) (L := L) k (fun i hi => hok i (by omega))).2
    omega))
  have HST := Lib.hid (fun k => show tensL C L (k + 1) = tensL C L k ++ List.replicate (L k).toNat (col (C k)) from rfl)
  have H0 := Lib.hid (show tensL C L 0 = [] from rfl)
  generalize tensL C L = P at *
  go_enter Try.func115, Try.ntmps115
  go_wp2
  go_loopw [3, 4] (fun v i wr => ∃ (k : Nat) (x : Aft w), k ≤ n ∧ i = .int .i64 k ∧ wr = x.w1 ∧ wr.ownsRow w.heap.size 5 1 v (P k).length (bytesV (P k))) (fun _ i _ => n - (intOf i).toNat)
  case atStart => exact ⟨0, ⟨_, (Below.refl _ _).alloc (Nat.le_refl _) _⟩, by omega, rfl, rfl, by rw [H0.out]; exact hown0⟩
  case round =>
    obtain ⟨k, x, hk, rfl, rfl, hown⟩ := hrel
    have HO := Lib.hid hown
    clear hown hown0
    by_cases hlt : k < n
    · obtain ⟨b, o, hi⟩ := hR
      obtain ⟨rfl, hc⟩ := hi k hlt
      have r0 : w.cell? ⟨b, o + k * 2, none⟩ = some (.string (C k)) := by simpa [vPhase, Nat.add_assoc] using hc 0 (by omega)
      have r1 : w.cell? ⟨b, o + k * 2 + 1, none⟩ = some (.int .i64 (L k)) := by simpa [vPhase, Nat.add_assoc] using hc 1 (by omega)
      have m0 : ∀ y : Aft w, y.w1.cell? ⟨b, o + k * 2, none⟩ = some (.string (C k)) := fun y => y.cell (cell_lt r0) r0
      have m1 : ∀ y : Aft w, y.w1.cell? ⟨b, o + k * 2 + 1, none⟩ = some (.int .i64 (L k)) := fun y => y.cell (cell_lt r1) r1
      obtain ⟨⟨l0, l1⟩, hcl⟩ := okPh_len (hok k hlt)
      have p0 := m0 x
      have p1 := m1 x
      clear hc hi r0 r1
      obtain ⟨N, hN⟩ := Int.eq_ofNat_of_zero_le (show 0 ≤ L k by omega)
      have hN0 : 1 ≤ N ∧ N ≤ 600 := by omega
      obtain ⟨hN1, hN2⟩ := hN0
      have HSk := Lib.hid (HST.out k)
      have HLk := Lib.hid (HLN.out k hk)
      obtain ⟨c, hcc⟩ : ∃ c, col (C k) = c := ⟨_, rfl⟩
      have HE : Hid (P (k + 1) = P k ++ List.replicate N c) := Lib.hid (by rw [HSk.out, hN, hcc]; rfl)
      have hbyte : ((C k).toList.isEmpty = true ∧ c = 0) ∨ ((C k).toList.isEmpty = false ∧ C k = ⟨#[c]⟩) := by
        cases hv : (C k).toList.isEmpty
        · right
          rw [hv] at hcl
          rcases hcl with h | h
          · cases h
          · unfold isC at h
            rw [Bool.and_eq_true, decide_eq_true_eq] at h
            obtain ⟨d, hd⟩ := one_of h.1
            refine ⟨rfl, ?_⟩
            rw [hd] at hcc ⊢
            have : d = c := hcc
            rw [this]
        · left
          have e : (C k).data = #[] := by
            have := List.isEmpty_iff.1 hv
            rw [ByteArray.toList_eq] at this
            exact Array.toList_eq_nil_iff.1 this
          refine ⟨rfl, ?_⟩
          rw [← hcc]
          unfold col
          rw [e]
          rfl
      rw [hN] at m1 p1
      clear hcc HSk hcl
      rcases hbyte with ⟨v2, hz⟩ | ⟨v2, hz⟩
      · subst hz
        go_wp2
        go_loopw [3, 6] (fun v j wr => ∃ (q : Nat) (y : Aft w), q ≤ N ∧ j = .int .i64 q ∧ wr = y.w1 ∧ wr.ownsRow w.heap.size 5 1 v ((P k).length + q) (bytesV (P k ++ List.replicate q 0))) (fun _ j _ => N - (intOf j).toNat)
        case atStart => exact ⟨0, x, by omega, rfl, rfl, by simpa using HO.out⟩
        case round =>
          obtain ⟨q, y, hq, rfl, rfl, hown⟩ := hrel
          have HO2 := Lib.hid hown
          have hlk := HLk.out
          clear hown p0 p1
          have p0 := m0 y
          have p1 := m1 y
          by_cases hql : q < N
          · have hql2 : (q : Int) < (N : Int) := by omega
            go_wp2_with (at_builtin; refine wpList_append_own _ rfl _ _ 116 rfl w.heap.size 5 ip (.int .u8 0) 1 1 Try.underlying116 hip hip0 hip1 hip2 rfl (by decide) _ _ _ rfl (HO2.out.alloc _) ⟨y.w1.heap.size, 0, none⟩ 1 1 [.int .u8 0] rfl rfl (cell_one_new _ _ _) (one_int _ _) (by unfold maxLen; omega) (by omega) (le_alloc y.below.size _) ?_; intro v' w2 hown2 hgrow2 _)
            have HO3 := Lib.hid hown2
            have HG3 := Lib.hid hgrow2
            clear hown2 hgrow2
            go_roundw
            case rel => exact ⟨q + 1, ⟨w2, own_next y.below HO2.out HG3.out⟩, by omega, by go_num, rfl, by rw [rep_step, bytesV_snoc]; exact HO3.out⟩
            case measure => simp [intOf]; omega
          · obtain rfl : q = N := by omega
            go_wp2
            go_roundw
            case rel => exact ⟨k + 1, y, by omega, by go_num, rfl, by rw [HE.out, List.length_append, List.length_replicate]; exact HO2.out⟩
            case measure => simp [intOf]; omega
      · rw [hz] at m0 p0 v2
        have hsz : 0 < (⟨#[c]⟩ : ByteArray).size := by show 0 < 1; omega
        have hix : (⟨#[c]⟩ : ByteArray)[0]'hsz = c := rfl
        go_wp2
        go_loopw [3, 6] (fun v j wr => ∃ (q : Nat) (y : Aft w), q ≤ N ∧ j = .int .i64 q ∧ wr = y.w1 ∧ wr.ownsRow w.heap.size 5 1 v ((P k).length + q) (bytesV (P k ++ List.replicate q c))) (fun _ j _ => N - (intOf j).toNat)
        case atStart => exact ⟨0, x, by omega, rfl, rfl, by simpa using HO.out⟩
        case round =>
          obtain ⟨q, y, hq, rfl, rfl, hown⟩ := hrel
          have HO2 := Lib.hid hown
          have hlk := HLk.out
          clear hown p0 p1
          have p0 := m0 y
          have p1 := m1 y
          by_cases hql : q < N
          · have hql2 : (q : Int) < (N : Int) := by omega
            go_wp2_with (at_builtin; refine wpList_append_own _ rfl _ _ 116 rfl w.heap.size 5 ip (.int .u8 0) 1 1 Try.underlying116 hip hip0 hip1 hip2 rfl (by decide) _ _ _ rfl (HO2.out.alloc _) ⟨y.w1.heap.size, 0, none⟩ 1 1 [.int .u8 (c.toNat : Int)] rfl rfl (cell_one_new _ _ _) (one_int _ _) (by unfold maxLen; omega) (by omega) (le_alloc y.below.size _) ?_; intro v' w2 hown2 hgrow2 _)
            have HO3 := Lib.hid hown2
            have HG3 := Lib.hid hgrow2
            clear hown2 hgrow2
            go_roundw
            case rel => exact ⟨q + 1, ⟨w2, own_next y.below HO2.out HG3.out⟩, by omega, by go_num, rfl, by rw [rep_step, bytesV_snoc]; exact HO3.out⟩
            case measure => simp [intOf]; omega
          · obtain rfl : q = N := by omega
            go_wp2
            go_roundw
            case rel => exact ⟨k + 1, y, by omega, by go_num, rfl, by rw [HE.out, List.length_append, List.length_replicate]; exact HO2.out⟩
            case measure => simp [intOf]; omega
    · obtain rfl : k = n := by omega
      go_wp2
      go_ret
      exact ⟨_, rfl, HO.out, x.below⟩
theorem own_blk_ne {w : World} {base m n g : Nat} {e t : TypeId} {cs : Array Value} {v : Value} {xs : List Value} (h : w.ownsRow base e m v n xs) (hB : Blk w g t cs) (hne : e ≠ t) : some g ≠ v.ownBlock := by
  rcases h.2 with ⟨rfl, _⟩ | ⟨g', cap, cur, rfl, _, h3, _⟩
  · simp [Value.ownBlock]
  · intro h0
    have : g = g' := by simpa [Value.ownBlock] using h0
    subst this
    have h4 := hB.symm.trans h3
    injection h4 with h4
    injection h4 with _ h5
    exact hne h5.symm
set_option maxHeartbeats 8000000 in
theorem tenths_c (A : Option Addr) (n cap : Nat) (C : Nat → ByteArray) (L : Nat → Int) (w : World) (hn : n ≤ 40) (hok : ∀ i, i < n → okPh C L i = true) (hR : Rec 2 w A n (vPhase C L)) :
    Calls Try.prog 119 #[.slice A n cap] w fun e w' => ∃ v, e = .returned v ∧ w'.ownsRow w.heap.size 9 1 v (tensL C L n).length (lampsV (tensL C L n)) ∧ Below w.heap.size w w' := by
  obtain ⟨ip, hip, hip0, hip1, hip2⟩ := info_parts (show (Try.prog.info? 9).map (fun i => (i.zero, i.size, i.bytes)) = some (some (.string ByteArray.empty), 1, 16) by kernel_rfl)
  have hown0 : (w.alloc (.cells #[] 9)).ownsRow w.heap.size 9 1 (.slice (some ⟨w.heap.size, 0, none⟩) 0 0) 0 [] := ownsRow_at (cs := #[]) rfl (Nat.le_refl _) rfl (by omega) rfl
  have HLN := Lib.hid (fun k (hk : k ≤ n) => (show (tensL C L k).length ≤ 24000 by
    have h1 := tens_len (C := C) (L := L) k (fun i hi => hok i (by omega))
    have h2 := (sumL_bd (C := C) (L := L) k (fun i hi => hok i (by omega))).2
    omega))
  have HST := Lib.hid (fun k => show tensL C L (k + 1) = tensL C L k ++ List.replicate (L k).toNat (col (C k)) from rfl)
  have H0 := Lib.hid (show tensL C L 0 = [] from rfl)
  generalize tensL C L = P at *
  go_enter Try.func119, Try.ntmps119
  go_wp2
  go_loopw [3, 9] (fun v i wr => ∃ (k : Nat) (x : Aft w), k ≤ n ∧ i = .int .i64 k ∧ wr = x.w1 ∧ wr.ownsRow w.heap.size 9 1 v (P k).length (lampsV (P k))) (fun _ i _ => n - (intOf i).toNat)
  case atStart => exact ⟨0, ⟨_, (Below.refl _ _).alloc (Nat.le_refl _) _⟩, by omega, rfl, rfl, by rw [H0.out]; exact hown0⟩
  case round =>
    obtain ⟨k, x, hk, rfl, rfl, hown⟩ := hrel
    have HO := Lib.hid hown
    clear hown hown0
    by_cases hlt : k < n
    · obtain ⟨b, o, hi⟩ := hR.aft x
      obtain ⟨rfl, hc⟩ := hi k hlt
      have p0 : x.w1.cell? ⟨b, o + k * 2, none⟩ = some (.string (C k)) := by simpa [vPhase, Nat.add_assoc] using hc 0 (by omega)
      have p1 : x.w1.cell? ⟨b, o + k * 2 + 1, none⟩ = some (.int .i64 (L k)) := by simpa [vPhase, Nat.add_assoc] using hc 1 (by omega)
      obtain ⟨⟨l0, l1⟩, hcl⟩ := okPh_len (hok k hlt)
      clear hc hi
      obtain ⟨N, hN⟩ := Int.eq_ofNat_of_zero_le (show 0 ≤ L k by omega)
      have hN0 : 1 ≤ N ∧ N ≤ 600 := by omega
      obtain ⟨hN1, hN2⟩ := hN0
      have HLk := Lib.hid (HLN.out k hk)
      have HE : Hid (P (k + 1) = P k ++ List.replicate N (col (C k))) := Lib.hid (by rw [HST.out k, hN]; rfl)
      have hlc := Lib.hid (lamp_col hcl)
      generalize col (C k) = c at *
      generalize C k = cs at *
      rw [hN] at p1
      have hB0 := Blk.new x.w1 100 #[.string cs, .int .i64 N]
      have hHO := HO.out.alloc (.cells #[.string cs, .int .i64 N] 100)
      generalize hW : x.w1.alloc (.cells #[.string cs, .int .i64 N] 100) = W at *
      have hbW : Below x.w1.heap.size x.w1 W := hW ▸ (by repeat (first | exact Below.refl _ _ | refine Below.alloc ?_ (by simp; try omega) _ | refine Below.drew ?_))
      have hk1 : W.cell? ⟨x.w1.heap.size, 1, none⟩ = some (.int .i64 N) := by rw [hB0.cell]; rfl
      have HOW := Lib.hid hHO
      have HB0 := Lib.hid hB0
      clear hcl l0 l1 hN hHO hB0
      go_wp2
      go_loopw [3, 15] (fun v j wr => ∃ (q : Nat) (y : Aft w), q ≤ N ∧ j = .int .i64 q ∧ wr = y.w1 ∧ wr.ownsRow w.heap.size 9 1 v ((P k).length + q) (lampsV (P k ++ List.replicate q c)) ∧ Blk wr x.w1.heap.size 100 #[.string cs, .int .i64 N]) (fun _ j _ => N - (intOf j).toNat)
      case atStart => exact ⟨0, ⟨W, held_next x.below hbW⟩, by omega, rfl, by first | rfl | exact hW, by simpa using HOW.out, HB0.out⟩
      case round =>
        obtain ⟨q, y, hq, rfl, rfl, hown, hblk⟩ := hrel
        have HO2 := Lib.hid hown
        have HB2 := Lib.hid hblk
        have hlk := HLk.out
        have k0 : y.w1.cell? ⟨x.w1.heap.size, 0, none⟩ = some (.string cs) := by rw [hblk.cell]; rfl
        clear hown hblk p0 p1 hk1
        by_cases hql : q < N
        · have hql2 : (q : Int) < (N : Int) := by omega
          go_wp2_with (at_builtin; refine wpList_append_own _ rfl _ _ 103 rfl w.heap.size 9 ip (.string ByteArray.empty) 1 16 Try.underlying103 hip hip0 hip1 hip2 rfl (by decide) _ _ _ rfl (HO2.out.alloc _) ⟨y.w1.heap.size, 0, none⟩ 1 1 [.string cs] rfl rfl (cell_one_new _ _ _) (one_string _) (by unfold maxLen; omega) (by omega) (le_alloc y.below.size _) ?_; intro v' w2 hown2 hgrow2 _)
          have HO3 := Lib.hid hown2
          have HG3 := Lib.hid hgrow2
          clear hown2 hgrow2
          go_roundw
          case rel => exact ⟨q + 1, ⟨w2, own_next y.below HO2.out HG3.out⟩, by omega, by go_num, rfl, by rw [rep_step, lampsV_snoc, hlc.out]; exact HO3.out, (HB2.out.below (by repeat (first | exact Below.refl _ _ | refine Below.alloc ?_ (by simp; try omega) _ | refine Below.drew ?_))).grown HG3.out (own_blk_ne HO2.out HB2.out (by decide))⟩
          case measure => simp [intOf]; omega
        · obtain rfl : q = N := by omega
          go_wp2
          go_roundw
          case rel => exact ⟨k + 1, y, by omega, by go_num, rfl, by rw [HE.out, List.length_append, List.length_replicate]; exact HO2.out⟩
          case measure => simp [intOf]; omega
    · obtain rfl : k = n := by omega
      go_wp2
      go_ret
      exact ⟨_, rfl, HO.out, x.below⟩
end Go.Proofs.Ytimfpnmcdicldaa
