/- The program's words of a text. -/
import Derived.Test.YtimfpnmcdicldaaDoorSplit
import Derived.Test.YtimfpnmcdicldaaDoorAppF
namespace Go.Proofs.YtimfpnmcdicldaaDoor
open Go Go.RowKit Go.Shelf
/-- The pieces that are not empty. -/
def nonB (ps : List ByteArray) : List ByteArray := ps.filter fun p => !p.toList.isEmpty
theorem nonB_len (ps : List ByteArray) : (nonB ps).length ≤ ps.length := List.length_filter_le _ _
theorem nonB_mem {ps : List ByteArray} {p : ByteArray} (h : p ∈ nonB ps) : p ∈ ps ∧ p.toList.isEmpty = false := by
  have := List.mem_filter.1 h
  exact ⟨this.1, by simpa using this.2⟩
theorem nonB_take {ps : List ByteArray} {q : Nat} (hq : q < ps.length) : nonB (ps.take (q + 1)) = nonB (ps.take q) ++ (if (ps.getD q ⟨#[]⟩).toList.isEmpty then [] else [ps.getD q ⟨#[]⟩]) := by
  have e : ps.take (q + 1) = ps.take q ++ [ps.getD q ⟨#[]⟩] := by
    rw [List.take_add_one, List.getD_eq_getElem?_getD, List.getElem?_eq_getElem hq]
    rfl
  rw [e]
  generalize ps.getD q ⟨#[]⟩ = x
  unfold nonB
  rw [List.filter_append]
  congr 1
  cases h : x.toList.isEmpty
  · rw [List.filter_cons, h]; rfl
  · rw [List.filter_cons, h]; rfl
theorem rowS_alloc {w : World} {g : Nat} {ss : List ByteArray} (h : RowS w g ss) (hg : g < w.heap.size) (o : Obj) : RowS (w.alloc o) g ss := fun i hi => (cell_past hg o i).trans (h i hi)
theorem rowS_far {w w' : World} {g : Nat} {ss : List ByteArray} {row : Option Nat} (h : RowS w g ss) (hb : w.grownBy w' row) (hne : some g ≠ row) : RowS w' g ss := fun i hi => hb.cell (a := ⟨g, i, none⟩) (h i hi) hne
set_option maxRecDepth 100000 in
set_option maxHeartbeats 4000000 in
theorem splitWords_c (s : ByteArray) (hs : s.size ≤ 1048576) (w : World) (hM : MaxL w) :
    Calls Tryd.prog 59 #[.string s] w fun e w' => ∃ v, e = .returned v ∧ w'.ownsRow w.heap.size 9 1 v (nonB (pieces 32 s)).length (strs (nonB (pieces 32 s))) ∧ Below w.heap.size w w' := by
  obtain ⟨i0, hi0, hz0, hz1, hz2⟩ := info_parts (show (Tryd.prog.info? 9).map (fun i => (i.zero, i.size, i.bytes)) = some (some (.string ByteArray.empty), 1, 16) by kernel_rfl)
  have hown0 : (w.alloc (.cells #[] 9)).ownsRow w.heap.size 9 1 (.slice (some ⟨w.heap.size, 0, none⟩) 0 0) 0 [] := ownsRow_at (cs := #[]) rfl (Nat.le_refl _) rfl (by omega) rfl
  have HS := Lib.hid (fun W hW => splitc_c 32 s W (by omega) hW)
  have hlen := pieces_count 32 s
  generalize pieces 32 s = ps at *
  have hM1 : MaxL (w.alloc (.cells #[] 9)) := hM.below (by repeat (first | exact Below.refl _ _ | refine Below.alloc ?_ (by simp; try omega) _ | refine Below.drew ?_))
  go_enter Tryd.func59, Tryd.ntmps59
  go_wp2_with fail
  refine (HS.out _ hM1).mono ?_
  rintro e _ ⟨rfl, rfl⟩
  have hown1 : ((w.alloc (.cells #[] 9)).alloc (.cells (ps.map Value.string).toArray 9)).ownsRow w.heap.size 9 1 (.slice (some ⟨w.heap.size, 0, none⟩) 0 0) 0 [] := hown0.alloc _
  have hg : (w.alloc (.cells #[] 9)).heap.size = w.heap.size + 1 := by simp
  have HR : RowS ((w.alloc (.cells #[] 9)).alloc (.cells (ps.map Value.string).toArray 9)) (w.heap.size + 1) ps := by
    have := rowS_new (w.alloc (.cells #[] 9)) ps 9
    rwa [hg] at this
  have hgW : w.heap.size + 1 < ((w.alloc (.cells #[] 9)).alloc (.cells (ps.map Value.string).toArray 9)).heap.size := by simp
  generalize hW : (w.alloc (.cells #[] 9)).alloc (.cells (ps.map Value.string).toArray 9) = W at *
  have hbW : Below w.heap.size w W := hW ▸ (by repeat (first | exact Below.refl _ _ | refine Below.alloc ?_ (by simp; try omega) _ | refine Below.drew ?_))
  clear hW hown0 hM1 HS
  go_wp2
  go_loopw [3, 10] (fun v i wr => ∃ (q : Nat), q ≤ ps.length ∧ i = .int .i64 q ∧ Below w.heap.size w wr ∧ wr.ownsRow w.heap.size 9 1 v (nonB (ps.take q)).length (strs (nonB (ps.take q))) ∧ w.heap.size + 1 < wr.heap.size ∧ Hid (RowS wr (w.heap.size + 1) ps) ∧ Hid (v.ownBlock ≠ some (w.heap.size + 1))) (fun _ i _ => ps.length - (intOf i).toNat)
  case atStart => exact ⟨0, by omega, rfl, hbW, hown1, hgW, Lib.hid HR, Lib.hid (fun e => by have e2 : w.heap.size = w.heap.size + 1 := Option.some.inj e; omega)⟩
  case round =>
    obtain ⟨q, hq, rfl, hbel, hown, hgr, hrow, hne⟩ := hrel
    have HO := Lib.hid hown
    have HB := Lib.hid hbel
    have hsz := hbel.size
    clear hown hbel HR hown1
    by_cases hlt : q < ps.length
    · have hc := hrow.out q hlt
      have HN := Lib.hid (nonB_take hlt)
      have hnl : (nonB (ps.take q)).length ≤ q := Nat.le_trans (nonB_len _) (by simp; omega)
      generalize ps.getD q ⟨#[]⟩ = p at *
      cases he : p.toList.isEmpty
      · rw [he, if_neg (by simp)] at HN
        go_wp2_with (at_builtin; refine wpList_append_far rfl _ _ 74 rfl w.heap.size 9 i0 (.string ByteArray.empty) 1 16 Tryd.underlying74 hi0 hz0 hz1 hz2 rfl (by decide) _ _ _ rfl (HO.out.alloc _) ⟨wr.heap.size, 0, none⟩ 1 1 [.string p] rfl rfl (cell_one_new _ _ _) (one_string _) (by unfold maxLen; omega) (by omega) (le_alloc hsz _) (by omega) ?_; intro v' w1 hown1 hgrow1 hfar1)
        have HO1 := Lib.hid hown1
        have HG1 := Lib.hid hgrow1
        have HF1 := Lib.hid hfar1
        clear hown1 hgrow1 hfar1
        go_roundw
        case rel => exact ⟨q + 1, by omega, by go_num, own_next HB.out HO.out HG1.out, by rw [HN.out, List.length_append, strs_snoc]; exact HO1.out, Nat.lt_of_lt_of_le (Nat.lt_of_lt_of_le hgr (le_alloc (Nat.le_refl _) _)) HG1.out.size, Lib.hid (rowS_far (rowS_alloc hrow.out hgr _) HG1.out (Ne.symm hne.out)), Lib.hid (fun e => by
          rcases HF1.out with h | h
          · exact hne.out (h.symm.trans e)
          · rw [h] at e
            injection e with e
            rw [World.size_alloc] at e
            omega)⟩
        case measure => simp [intOf]; omega
      · rw [he, if_pos rfl, List.append_nil] at HN
        go_wp2
        go_roundw
        case rel => exact ⟨q + 1, by omega, by go_num, HB.out, by rw [HN.out]; exact HO.out, hgr, hrow, hne⟩
        case measure => simp [intOf]; omega
    · obtain rfl : q = ps.length := by omega
      have e : ps.take ps.length = ps := List.take_length
      rw [e] at HO
      go_wp2
      go_ret
      exact ⟨_, rfl, HO.out, HB.out⟩
end Go.Proofs.YtimfpnmcdicldaaDoor
