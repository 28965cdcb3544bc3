/- The signs of a letter: contracts of the exported functions. -/
import Derived.Test.YtolijmldobncbaaDoorMorse
namespace Go.Proofs.YtolijmldobncbaaDoor
open Go.RowKit
set_option linter.unusedVariables false
/-- A text is one capital letter. -/
def isL (s : ByteArray) : Bool := decide (s.size = 1) && (decide (65 ≤ (s.data.toList.headD 0).toNat) && decide ((s.data.toList.headD 0).toNat ≤ 90))
theorem isL_yes {s : ByteArray} (h : isL s = true) : ∃ c : UInt8, s = ⟨#[c]⟩ ∧ 65 ≤ c.toNat ∧ c.toNat ≤ 90 := by
  simp only [isL, Bool.and_eq_true, decide_eq_true_eq] at h
  obtain ⟨h1, h2, h3⟩ := h
  obtain ⟨c, rfl⟩ := one_byte h1
  exact ⟨c, rfl, h2, h3⟩
theorem isL_sig {s : ByteArray} (h : isL s = false) : sigS s = ⟨#[]⟩ := by
  unfold sigS
  split
  · rename_i h1
    obtain ⟨c, rfl⟩ := one_byte h1
    refine codeB_out ?_
    have h' : ¬ (65 ≤ c.toNat ∧ c.toNat ≤ 90) := fun g => by
      have : isL ⟨#[c]⟩ = true := by
        simp only [isL, Bool.and_eq_true, decide_eq_true_eq]
        exact ⟨rfl, g.1, g.2⟩
      rw [this] at h; cases h
    show ((c.toNat : Int) < 65 ∨ 90 < (c.toNat : Int))
    omega
  · rfl
theorem codes_ne : ∀ s ∈ codes, s.toList.isEmpty = false := by decide +kernel
theorem codeB_ne {b : Int} (h0 : 65 ≤ b) (h1 : b ≤ 90) : (codeB b).toList.isEmpty = false := by
  have h : 0 ≤ b - 65 ∧ b - 65 < (codes.length : Int) := ⟨by omega, by show b - 65 < 26; omega⟩
  unfold codeB
  rw [pickS_in h, List.getD_eq_getElem?_getD, List.getElem?_eq_getElem (by omega)]
  exact codes_ne _ (List.getElem_mem _)
end Go.Proofs.YtolijmldobncbaaDoor
