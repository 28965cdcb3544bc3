/- A name by its number: the program's pick, and the names of the kinds. -/
import Derived.Test.YtimfpnmcdicldaaDoorFog
namespace Go.Proofs.YtimfpnmcdicldaaDoor
open Go.RowKit
set_option linter.unusedVariables false
/-- A name by its number, or the empty string. -/
def pickS (ss : List ByteArray) (k : Int) : ByteArray := if 0 ≤ k ∧ k < ss.length then ss.getD k.toNat ⟨#[]⟩ else ⟨#[]⟩
theorem pickS_in {ss : List ByteArray} {k : Int} (h : 0 ≤ k ∧ k < ss.length) : pickS ss k = ss.getD k.toNat ⟨#[]⟩ := if_pos h
theorem pickS_out {ss : List ByteArray} {k : Int} (h : ¬ (0 ≤ k ∧ k < ss.length)) : pickS ss k = ⟨#[]⟩ := if_neg h
/-- A row of texts lies in a block. -/
def RowS (w : World) (g : Nat) (ss : List ByteArray) : Prop := ∀ i, i < ss.length → w.cell? ⟨g, i, none⟩ = some (.string (ss.getD i ⟨#[]⟩))
theorem rowS_new (w : World) (ss : List ByteArray) (T : TypeId) : RowS (w.alloc (.cells (ss.map Value.string).toArray T)) w.heap.size ss := by
  intro i hi
  rw [cell_new]
  simp [List.getD_eq_getElem?_getD, hi]
theorem rowS_aft {w : World} {g : Nat} {ss : List ByteArray} (h : RowS w g ss) (hg : g < w.heap.size) (x : Aft w) : RowS x.w1 g ss :=
  fun i hi => x.cell hg (h i hi)
/-- A text of a row that is written out. -/
theorem row_getS {ss : List ByteArray} {k : Int} (h : 0 ≤ k ∧ k < (ss.length : Int)) : (ss.map Value.string)[k.toNat]? = some (.string (pickS ss k)) := by
  rw [pickS_in h]
  have : k.toNat < ss.length := by omega
  simp [List.getD_eq_getElem?_getD, this]
set_option maxHeartbeats 1000000 in
theorem at_c (k : Int) (n : Nat) (v : Bool) (hv : decide (0 ≤ k ∧ k < (n : Int)) = v) (w : World) :
    Calls Tryd.prog 94 #[.int .i64 k, .int .i64 n] w fun e w' => e = .returned (.bool v) ∧ w = w' := by
  subst hv
  by_cases h : 0 ≤ k
  · go_enter Tryd.func94, Tryd.ntmps94
    go_wp2
    go_ret
    exact ⟨ret_bool (by simp [h]), rfl⟩
  · go_enter Tryd.func94, Tryd.ntmps94
    go_wp2
    go_ret
    exact ⟨ret_bool (by simp; omega), rfl⟩
set_option maxHeartbeats 1000000 in
theorem pick_c (ss : List ByteArray) (n : Nat) (hn : ss.length = n) (hn2 : n ≤ 1000) (g : Nat) (k : Int) (w : World) (hrow : RowS w g ss) :
    Calls Tryd.prog 77 #[.int .i64 k, .slice (some ⟨g, 0, none⟩) n n] w fun e w' => e = .returned (.string (pickS ss k)) ∧ w = w' := by
  subst hn
  by_cases h : 0 ≤ k ∧ k < (ss.length : Int)
  · have hb : decide (0 ≤ k ∧ k < (ss.length : Int)) = true := decide_eq_true h
    have hr := pickS_in h
    have hc := hrow k.toNat (by omega)
    rw [← hr] at hc
    obtain ⟨h0, h1⟩ := h
    clear hr hrow
    go_enter Tryd.func77, Tryd.ntmps77
    go_wp2_with (go_at_call 94; refine (at_c _ _ _ hb _).mono ?_; rintro e w' ⟨rfl, rfl⟩)
    go_ret
    exact ⟨rfl, rfl⟩
  · have hb : decide (0 ≤ k ∧ k < (ss.length : Int)) = false := decide_eq_false h
    rw [pickS_out h]
    clear hrow
    go_enter Tryd.func77, Tryd.ntmps77
    go_wp2_with (go_at_call 94; refine (at_c _ _ _ hb _).mono ?_; rintro e w' ⟨rfl, rfl⟩)
    go_ret
    exact ⟨rfl, rfl⟩
/-- The names of the kinds of marks. -/
def markNames : List ByteArray := [(⟨#[110, 111, 110, 101]⟩ : ByteArray), (⟨#[108, 101, 102, 116]⟩ : ByteArray), (⟨#[114, 105, 103, 104, 116]⟩ : ByteArray), (⟨#[110, 111, 114, 116, 104]⟩ : ByteArray), (⟨#[101, 97, 115, 116]⟩ : ByteArray), (⟨#[115, 111, 117, 116, 104]⟩ : ByteArray), (⟨#[119, 101, 115, 116]⟩ : ByteArray), (⟨#[100, 97, 110, 103, 101, 114]⟩ : ByteArray), (⟨#[115, 97, 102, 101]⟩ : ByteArray), (⟨#[115, 112, 101, 99, 105, 97, 108]⟩ : ByteArray)]
end Go.Proofs.YtimfpnmcdicldaaDoor
