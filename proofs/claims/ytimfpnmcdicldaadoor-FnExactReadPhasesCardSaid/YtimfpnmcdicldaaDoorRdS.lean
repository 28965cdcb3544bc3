/- Reading phases: the plain law. No function of the program is walked here. -/
import Derived.Test.YtimfpnmcdicldaaDoorPhT
import Derived.Test.YtimfpnmcdicldaaDoorNumR
import Derived.Test.YtimfpnmcdicldaaDoorSplit
namespace Go.Proofs.YtimfpnmcdicldaaDoor
open Go Go.RowKit Go.Shelf
/-- The pieces of a text, and of a piece its color and its number. -/
def pc (s : ByteArray) (i : Nat) : ByteArray := (pieces 44 s).getD i ⟨#[]⟩
def pcN (s : ByteArray) : Nat := (pieces 44 s).length
def hdP (p : ByteArray) : ByteArray := p.extract 0 1
def tlP (p : ByteArray) : ByteArray := p.extract 1 p.size
def rC (s : ByteArray) (i : Nat) : ByteArray := if (hdP (pc s i)).toList == [45] then ⟨#[]⟩ else hdP (pc s i)
def rL (s : ByteArray) (i : Nat) : Int := (num (tlP (pc s i))).getD 0
/-- A piece can be read. -/
def rOk (s : ByteArray) (i : Nat) : Bool := decide (2 ≤ (pc s i).size) && (num (tlP (pc s i))).isSome
def rdOk (s : ByteArray) : Bool := allB (pcN s) (rOk s) && okPhs (pcN s) (rC s) (rL s)
theorem rd_no {s : ByteArray} {k : Nat} (hk : k < pcN s) (h : rOk s k = false) : rdOk s = false := by
  unfold rdOk
  rw [allB_no hk h]
  rfl
theorem rd_many {s : ByteArray} (h : 40 < pcN s) : rdOk s = false := by
  unfold rdOk okPhs
  rw [inR_no (by omega)]
  simp
theorem rd_color {s : ByteArray} {k : Nat} (hk : k < pcN s) (h2 : 2 ≤ (pc s k).size) (hh : ((hdP (pc s k)).toList == [45]) = false) (hc : isC (hdP (pc s k)) = false) : rdOk s = false := by
  have hno : okPh (rC s) (rL s) k = false := by
    unfold okPh rC
    rw [hh]
    have he : (hdP (pc s k)).toList.isEmpty = false := by
      have hsz : (hdP (pc s k)).size = 1 := by
        unfold hdP
        rw [ByteArray.size_extract]
        omega
      rw [ByteArray.toList_eq]
      cases hl : (hdP (pc s k)).data.toList with
      | nil =>
        have : (hdP (pc s k)).data.toList.length = (hdP (pc s k)).size := Array.length_toList
        rw [hl] at this
        simp at this
        omega
      | cons a t => rfl
    have e : (if false = true then (⟨#[]⟩ : ByteArray) else hdP (pc s k)) = hdP (pc s k) := if_neg (by simp)
    rw [e, he, hc]
    simp
  unfold rdOk okPhs
  rw [allB_no hk hno]
  simp
theorem rd_yes {s : ByteArray} (h : ∀ i, i < pcN s → rOk s i = true) : rdOk s = okPhs (pcN s) (rC s) (rL s) := by
  unfold rdOk
  rw [allB_yes h]
  rfl
theorem hd_tl (p : ByteArray) : hdP p ++ tlP p = p := by
  apply ByteArray.ext
  apply Array.toList_inj.1
  rw [ByteArray.data_append, Array.toList_append]
  unfold hdP tlP
  rw [Lib.extract_data, Lib.extract_data]
  simp only [List.drop_zero, Nat.sub_zero]
  rw [List.take_of_length_le (l := p.data.toList.drop 1) (by rw [List.length_drop, data_len]; omega)]
  exact List.take_append_drop 1 _
theorem join_glue (c : UInt8) : ∀ (ps : List (List UInt8)), ps ≠ [] → Lib.join ps [c] = glue c ps
  | [], h => (h rfl).elim
  | [p], _ => by rw [Lib.join_one]; rfl
  | p :: q :: r, _ => by
    rw [glue_cons c p (by simp), ← join_glue c (q :: r) (by simp), Lib.join_cons, Lib.join_cons]
    simp [Lib.joinTail]
theorem pc_join (s : ByteArray) : Lib.join ((pieces 44 s).map (·.data.toList)) [44] = s.data.toList := by
  have e : (pieces 44 s).map (·.data.toList) = spl 44 s.data.toList := by
    unfold pieces
    rw [List.map_map]
    conv => rhs; rw [← List.map_id (spl 44 s.data.toList)]
    rfl
  rw [e, join_glue 44 _ (spl_ne 44 _), glue_spl]
/-- What was read is written again. -/
theorem rd_text {s : ByteArray} (h : ∀ i, i < pcN s → rOk s i = true) : phsT (rC s) (rL s) (pcN s) = s := by
  have hp : (List.range (pcN s)).map (phT (rC s) (rL s)) = pieces 44 s := by
    apply List.ext_getElem
    · simp [pcN]
    · intro i h1 h2
      rw [List.getElem_map, List.getElem_range]
      have hi : i < pcN s := h2
      have hpi : pc s i = (pieces 44 s)[i] := by
        unfold pc
        rw [List.getD_eq_getElem?_getD, List.getElem?_eq_getElem h2]
        rfl
      have ho := h i hi
      unfold rOk at ho
      rw [Bool.and_eq_true, decide_eq_true_eq] at ho
      obtain ⟨n, hn⟩ := Option.isSome_iff_exists.1 ho.2
      have hd : dec (rL s i) = tlP (pc s i) := by
        unfold rL
        rw [hn]
        have := (num_form hn).1
        unfold dec
        apply ByteArray.ext
        apply Array.toList_inj.1
        show (Lib.itoa n).toArray.toList = _
        rw [← this]
      have hc : colT (rC s i) = hdP (pc s i) := by
        unfold rC
        cases hh : ((hdP (pc s i)).toList == [45])
        · have e : (if false = true then (⟨#[]⟩ : ByteArray) else hdP (pc s i)) = hdP (pc s i) := if_neg (by simp)
          rw [e]
          unfold colT
          rw [if_neg]
          intro he
          have hsz : (hdP (pc s i)).size = 1 := by
            unfold hdP
            rw [ByteArray.size_extract]
            omega
          have e2 := List.isEmpty_iff.1 he
          rw [ByteArray.toList_eq] at e2
          have : (hdP (pc s i)).data.toList.length = (hdP (pc s i)).size := Array.length_toList
          rw [e2] at this
          simp at this
          omega
        · have e : (if true = true then (⟨#[]⟩ : ByteArray) else hdP (pc s i)) = ⟨#[]⟩ := if_pos rfl
          rw [e]
          have e3 : colT ⟨#[]⟩ = (⟨#[45]⟩ : ByteArray) := by unfold colT; rw [if_pos (by rw [ByteArray.toList_eq]; rfl)]
          rw [e3]
          have h4 := beq_iff_eq.1 hh
          rw [ByteArray.toList_eq] at h4
          apply ByteArray.ext
          apply Array.toList_inj.1
          rw [h4]
      unfold phT
      rw [hc, hd, hd_tl, hpi]
      rfl
  apply ByteArray.ext
  apply Array.toList_inj.1
  rw [← phsT_join, hp]
  exact pc_join s
/-- The row of what is read. -/
def rdRow (C : Nat → ByteArray) (L : Nat → Int) : Nat → List Value
  | 0 => []
  | k + 1 => rdRow C L k ++ [.string (C k), .int .i64 (L k)]
theorem rdRow_len (C : Nat → ByteArray) (L : Nat → Int) : ∀ k, (rdRow C L k).length = k * 2
  | 0 => rfl
  | k + 1 => by
    rw [rdRow, List.length_append, rdRow_len C L k]
    simp only [List.length_cons, List.length_nil]
    omega
theorem rdRow_at (C : Nat → ByteArray) (L : Nat → Int) : ∀ (n i j : Nat), i < n → j < 2 → (rdRow C L n)[i * 2 + j]? = some (vPhase C L i j)
  | 0, i, j, hi, _ => by omega
  | n + 1, i, j, hi, hj => by
    rw [rdRow]
    by_cases e : i < n
    · rw [List.getElem?_append_left (by rw [rdRow_len]; omega)]
      exact rdRow_at C L n i j e hj
    · have e2 : i = n := by omega
      subst e2
      rw [List.getElem?_append_right (by rw [rdRow_len]; omega), rdRow_len]
      have hj : j = 0 ∨ j = 1 := by omega
      rcases hj with rfl | rfl
      · rw [show i * 2 + 0 - i * 2 = 0 by omega]; rfl
      · rw [show i * 2 + 1 - i * 2 = 1 by omega]; rfl
theorem rd_so {w : World} {base n : Nat} {v : Value} {C : Nat → ByteArray} {L : Nat → Int} (h : w.ownsRow base 72 2 v n (rdRow C L n)) : SO w base 72 2 v n (vPhase C L) :=
  ⟨_, h, fun i hi j hj => rdRow_at C L n i j hi hj⟩
end Go.Proofs.YtimfpnmcdicldaaDoor
