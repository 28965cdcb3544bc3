/- A number in decimal form: the reference's. -/
import Derived.Test.YtimfpnmcdicldaaDoorDoorP
import Derived.Test.YtimfpnmcdicldaaDoorOwn
import Derived.Lib.SlBytesRow
namespace Go.Proofs.YtimfpnmcdicldaaDoor
open Go Go.RowKit Go.Shelf
/-- The digits of a number, none for 0. -/
def dd (m : Nat) : List UInt8 := if m = 0 then [] else Lib.decDigits m
theorem dd_zero : dd 0 = [] := rfl
theorem dd_step {m : Nat} (h : 0 < m) : dd m = dd (m / 10) ++ [UInt8.ofNat (48 + m % 10)] := by
  unfold dd
  rw [if_neg (by omega), Lib.decDigits]
  by_cases h10 : m < 10
  · rw [dif_pos h10, if_pos (by omega), show m % 10 = m by omega]; rfl
  · rw [dif_neg h10, if_neg (by omega)]
def cellsB (l : List UInt8) : List Value := l.map fun b => .int .u8 (b.toNat : Int)
theorem cellsB_snoc (l : List UInt8) (b : UInt8) : cellsB (l ++ [b]) = cellsB l ++ [.int .u8 (b.toNat : Int)] := by simp [cellsB]
theorem cellsB_len (l : List UInt8) : (cellsB l).length = l.length := by simp [cellsB]
theorem dg_nat {d : Nat} (h : d < 10) : ((UInt8.ofNat (48 + d)).toNat : Int) = 48 + (d : Int) := by
  simp
  omega
theorem bytes_own {w : World} {base g c : Nat} {l : List UInt8} (h : w.ownsRow base 5 1 (.slice (some ⟨g, 0, none⟩) l.length c) l.length (cellsB l)) :
    (convert 100 9 (.slice (some ⟨g, 0, none⟩) l.length c)).run Tryd.prog w = .ok (.string ⟨l.toArray⟩) w := by
  have hb : Lib.Bytes w g 0 ⟨l.toArray⟩ := fun i hi => by
    have hi2 : i < l.length := by have e : i < l.toArray.size := hi; simpa using e
    rw [Nat.zero_add, h.cellAt i (by omega)]
    simp [cellsB, hi2]
    rfl
  have e := Lib.run_convert_whole (P := Tryd.prog) w 100 5 9 Tryd.underlying100 Tryd.underlying5 Tryd.underlying9 g 0 ⟨l.toArray⟩ hb c
  exact e
theorem own_apart2 {w w' : World} {e size n' : Nat} {v v' : Value} {xs' : List Value} (hw : v.ownBlock = none ∨ ∀ k, v.ownBlock = some k → k < w.heap.size) (h' : w'.ownsRow w.heap.size e size v' n' xs') : v.ownBlock = none ∨ v.ownBlock ≠ v'.ownBlock := by
  rcases hw with h0 | h0
  · exact .inl h0
  · cases hv : v.ownBlock with
    | none => exact .inl rfl
    | some k => exact .inr (fun e => by have h1 := h0 k hv; have h2 := (h'.lt k e.symm).1; omega)
set_option maxRecDepth 100000 in
set_option maxHeartbeats 4000000 in
theorem l01Dec_pos (N : Nat) (h1 : 1 ≤ N) (h2 : N ≤ 1000000000000000000) (w : World) :
    Calls Tryd.prog 56 #[.int .i64 N] w fun e w' => e = .returned (.string (dec N)) ∧ Below w.heap.size w w' := by
  obtain ⟨ip, hip, hip0, hip1, hip2⟩ := info_parts (show (Tryd.prog.info? 5).map (fun i => (i.zero, i.size, i.bytes)) = some (some (.int .u8 0), 1, 1) by kernel_rfl)
  have hne : ((N : Int) == 0) = false := by simp; omega
  have hown0 : (w.alloc (.cells #[] 5)).ownsRow w.heap.size 5 1 (.slice (some ⟨w.heap.size, 0, none⟩) 0 0) 0 [] := ownsRow_at (cs := #[]) rfl (Nat.le_refl _) rfl (by omega) rfl
  have hX : (⟨(dd N).toArray⟩ : ByteArray) = dec N := by
    unfold dec Lib.itoa dd
    rw [if_neg (by omega), if_neg (by omega)]
    simp
  go_enter Tryd.func56, Tryd.ntmps56
  go_wp2
  go_loopw [3, 4] (fun v mv wr => ∃ (k m : Nat) (zs : List UInt8) (x : Aft w), mv = .int .i64 m ∧ wr = x.w1 ∧ zs.length = k ∧ k ≤ 19 ∧ m * 10 ^ k ≤ N ∧ dd N = dd m ++ zs.reverse ∧ wr.ownsRow w.heap.size 5 1 v k (cellsB zs)) (fun _ mv _ => (intOf mv).toNat)
  case atStart => exact ⟨0, N, [], ⟨_, (Below.refl _ _).alloc (Nat.le_refl _) _⟩, rfl, rfl, rfl, by omega, by omega, by simp, hown0⟩
  case round =>
    obtain ⟨k, m, zs, x, rfl, rfl, hz, hk0, hk, hd, hown⟩ := hrel
    have HO := Lib.hid hown
    clear hown hown0
    by_cases hm : 0 < m
    · have hmz : ((m : Int) == 0) = false := by simp; omega
      have hmn : ((m : Int) != 0) = true := by simp; omega
      have hk19 : k < 19 := by
        rcases Nat.lt_or_ge k 19 with h | h
        · exact h
        · have e1 := Nat.pow_le_pow_right (show 0 < 10 by omega) h
          have e2 : 10 ^ k ≤ m * 10 ^ k := Nat.le_mul_of_pos_left _ hm
          omega
      have hN : m ≤ N := Nat.le_trans (Nat.le_mul_of_pos_right m (Nat.pow_pos (by omega))) hk
      have hm10 : m / 10 * 10 ^ (k + 1) ≤ N := by
        have : m / 10 * 10 ≤ m := by omega
        rw [Nat.pow_succ, Nat.mul_comm (10 ^ k) 10, ← Nat.mul_assoc]
        exact Nat.le_trans (Nat.mul_le_mul_right _ this) hk
      have HM := Lib.hid hm10
      have HD := Lib.hid hd
      clear hm10 hd hk hX hne
      have hm18 : m ≤ 1000000000000000000 := by omega
      have hdg : ((UInt8.ofNat (48 + m % 10)).toNat : Int) = 48 + (m : Int) % 10 := by rw [dg_nat (by omega)]; simp
      go_wp2_with (at_builtin; refine wpList_append_own _ rfl _ _ 100 rfl w.heap.size 5 ip (.int .u8 0) 1 1 Tryd.underlying100 hip hip0 hip1 hip2 rfl (by decide) _ _ _ rfl (HO.out.alloc _) ⟨x.w1.heap.size, 0, none⟩ 1 1 [.int .u8 (48 + (m : Int) % 10)] rfl rfl (cell_one_new _ _ _) (one_int _ _) (by unfold maxLen; omega) (by omega) (le_alloc x.below.size _) ?_; intro v' w2 hown2 hgrow2 _)
      have HO2 := Lib.hid hown2
      have HG2 := Lib.hid hgrow2
      clear hown2 hgrow2
      go_roundw
      case rel => exact ⟨k + 1, m / 10, zs ++ [UInt8.ofNat (48 + m % 10)], ⟨w2, own_next x.below HO.out HG2.out⟩, by simp, rfl, by simp [hz], by omega, HM.out, by rw [HD.out, dd_step hm]; simp, by rw [cellsB_snoc, hdg]; exact HO2.out⟩
      case measure => simp [intOf]; omega
    · obtain rfl : m = 0 := by omega
      rw [show (((0 : Nat)) : Int) = 0 from rfl]
      have hk1 : 0 < k := by
        rcases Nat.eq_zero_or_pos k with h0 | h0
        · have e1 : zs = [] := List.length_eq_zero_iff.1 (hz.trans h0)
          rw [e1, dd_zero] at hd
          have e2 := dd_step (m := N) (by omega)
          rw [hd] at e2
          have e3 := congrArg List.length e2
          simp at e3
        · exact h0
      obtain ⟨gd, cd, rfl⟩ := Go.Joins.ownsRow_form HO.out hk1
      have HD := Lib.hid hd
      have HX := Lib.hid hX
      have HK := Lib.hid (show k ≤ 100 by omega)
      have hn0 : decide ((N : Int) < 0) = false := by simp
      clear hd hk hX hne
      have hk20 : k ≤ 100 := HK.out
      have hrl : zs.reverse.length = k := by rw [List.length_reverse]; exact hz
      have hown3 : (x.w1.alloc (.cells #[] 5)).ownsRow x.w1.heap.size 5 1 (.slice (some ⟨x.w1.heap.size, 0, none⟩) 0 0) 0 [] := ownsRow_at (cs := #[]) rfl (Nat.le_refl _) rfl (by omega) rfl
      have HGL := Lib.hid (fun k hk => (HO.out.lt k hk).2)
      have HO0 := Lib.hid (HO.out.alloc (.cells #[] 5))
      clear HO
      go_wp2
      go_loopw [6, 7] (fun v iv wr => ∃ (j q : Nat) (y : Aft x.w1), j + q = k ∧ iv = .int .i64 ((q : Int) - 1) ∧ wr = y.w1 ∧ wr.ownsRow w.heap.size 5 1 (.slice (some ⟨gd, 0, none⟩) k cd) k (cellsB zs) ∧ wr.ownsRow x.w1.heap.size 5 1 v j (cellsB (zs.reverse.take j))) (fun _ iv _ => (intOf iv + 1).toNat)
      case atStart => exact ⟨0, k, ⟨_, (Below.refl _ _).alloc (Nat.le_refl _) _⟩, by omega, rfl, rfl, HO0.out, hown3⟩
      case round =>
        obtain ⟨j, q, y, hjq, rfl, rfl, hdig, hout⟩ := hrel
        have HG := Lib.hid hdig
        have HO := Lib.hid hout
        clear hout hown3 HO0
        rcases Nat.eq_zero_or_pos q with h0 | h0
        · subst h0
          obtain rfl : j = k := by omega
          obtain ⟨go, co, rfl⟩ := Go.Joins.ownsRow_form HO.out hk1
          have hcv : (convert 100 9 (.slice (some ⟨go, 0, none⟩) j co)).run Tryd.prog y.w1 = .ok (.string (dec N)) y.w1 := by
            have hl : zs.reverse.take j = zs.reverse := List.take_of_length_le (by omega)
            have hO2 := HO.out
            rw [hl] at hO2
            have hd2 := HD.out
            rw [dd_zero, List.nil_append] at hd2
            have h := bytes_own (l := zs.reverse) (by rw [hrl]; exact hO2)
            rw [hrl, ← hd2, HX.out] at h
            exact h
          clear hdig hrl
          go_wp2
          go_ret
          exact ⟨rfl, held_next x.below y.below⟩
        · obtain ⟨r, rfl⟩ : ∃ r, q = r + 1 := ⟨q - 1, by omega⟩
          have hr : r < zs.length := by omega
          have hcell : y.w1.cell? ⟨gd, r, none⟩ = some (.int .u8 (zs[r].toNat : Int)) := by
            rw [hdig.cellAt r (by omega)]
            simp [cellsB, hr]
          have hq0 : (0 : Int) ≤ (r : Int) := by omega
          have hq1 : (r : Int) < (k : Int) := by omega
          rw [show (((r + 1 : Nat) : Int) - 1) = (r : Int) by omega]
          have r1 : ∀ z : Aft y.w1, z.w1.cell? ⟨gd, r, none⟩ = some (.int .u8 (zs[r].toNat : Int)) := fun z => z.cell (cell_lt hcell) hcell
          have HE := Lib.hid (show zs.reverse.take (j + 1) = zs.reverse.take j ++ [zs[r]] by
            rw [List.take_add_one, List.getElem?_eq_getElem (by omega), List.getElem_reverse]
            congr 2
            simp only [Option.toList]
            congr 2
            omega)
          generalize zs[r] = d at *
          clear hdig hr r1 hn0 hk20 hrl
          go_wp2_with (at_builtin; refine wpList_append_own _ rfl _ _ 100 rfl x.w1.heap.size 5 ip (.int .u8 0) 1 1 Tryd.underlying100 hip hip0 hip1 hip2 rfl (by decide) _ _ _ rfl (HO.out.alloc _) ⟨y.w1.heap.size, 0, none⟩ 1 1 [.int .u8 (d.toNat : Int)] rfl rfl (cell_one_new _ _ _) (one_int _ _) (by have := HK.out; unfold maxLen; omega) (by have := HK.out; omega) (le_alloc y.below.size _) ?_; intro v' w2 hown2 hgrow2 _)
          have HO2 := Lib.hid hown2
          have HG2 := Lib.hid hgrow2
          clear hown2 hgrow2
          go_roundw
          case rel => exact ⟨j + 1, r, ⟨w2, own_next y.below HO.out HG2.out⟩, by omega, rfl, rfl, (HG.out.alloc _).kept HG2.out (own_apart2 (.inr HGL.out) HO.out), by rw [HE.out, cellsB_snoc]; exact HO2.out⟩
          case measure => simp [intOf]
end Go.Proofs.YtimfpnmcdicldaaDoor
