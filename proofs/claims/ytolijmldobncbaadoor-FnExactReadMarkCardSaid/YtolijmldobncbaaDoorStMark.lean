/- Slices of Mark: contracts of the laws' helpers. -/
import Derived.Test.YtolijmldobncbaaDoorOwn
import Derived.Laws.StructEq
namespace Go.Proofs.YtolijmldobncbaaDoor
open Go Go.RowKit
def vMark (f0 : Nat → Int) (f1 : Nat → ByteArray) (f2 : Nat → ByteArray) (f3 : Nat → ByteArray) (i j : Nat) : Value := if j = 0 then .int .i64 (f0 i) else if j = 1 then .string (f1 i) else if j = 2 then .string (f2 i) else .string (f3 i)
theorem rowsMark {w : World} {A : Option Addr} {n : Nat} (h : Rows0 [0, 1, 1, 1] w A n) : ∃ (f0 : Nat → Int) (f1 : Nat → ByteArray) (f2 : Nat → ByteArray) (f3 : Nat → ByteArray), Rec 4 w A n (vMark f0 f1 f2 f3) ∧ ∀ i, i < n → (Lit.int .i64 (f0 i)).wf = true ∧ (f1 i).size ≤ maxLen ∧ (f2 i).size ≤ maxLen ∧ (f3 i).size ≤ maxLen := by
  obtain ⟨f, hf, hl⟩ := h.rec
  refine ⟨fun i => intOf (f i 0), fun i => strOf (f i 1), fun i => strOf (f i 2), fun i => strOf (f i 3), hf.congr fun i hi j hj => ?_, fun i hi => ?_⟩
  · have hj : j = 0 ∨ j = 1 ∨ j = 2 ∨ j = 3 := by simp only [List.length_cons, List.length_nil] at hj; omega
    rcases hj with rfl | rfl | rfl | rfl
    · exact (hl i hi 0 _ rfl).int.1
    · exact (hl i hi 1 _ rfl).str.1
    · exact (hl i hi 2 _ rfl).str.1
    · exact (hl i hi 3 _ rfl).str.1
  · exact ⟨(hl i hi 0 _ rfl).int.2, (hl i hi 1 _ rfl).str.2, (hl i hi 2 _ rfl).str.2, (hl i hi 3 _ rfl).str.2⟩
set_option maxHeartbeats 1000000 in
theorem toMark_c (x0 : Int) (x1 : ByteArray) (x2 : ByteArray) (x3 : ByteArray) (w : World) :
    Calls Tryd.prog 17 #[.agg #[.int .i64 x0, .string x1, .string x2, .string x3]] w fun e w' => e = .returned (.agg #[.int .i64 x0, .string x1, .string x2, .string x3]) ∧ Below w.heap.size w w' := by
  go_enter Tryd.func17, Tryd.ntmps17
  go_wp2
  refine bodyPost_ret (v := .agg #[.int .i64 x0, .string x1, .string x2, .string x3]) (by simp [results, Tryd.results17, go_sem]) rfl ⟨rfl, (by repeat (first | exact Below.refl _ _ | refine Below.alloc ?_ (by simp; try omega) _ | refine Below.drew ?_))⟩
set_option maxHeartbeats 1000000 in
theorem szMark_c (x0 : Int) (x1 : ByteArray) (x2 : ByteArray) (x3 : ByteArray) (left : Int) (h1 : x1.size ≤ maxLen) (h2 : x2.size ≤ maxLen) (h3 : x3.size ≤ maxLen) (l0 : 0 ≤ left) (l1 : left ≤ 1048576) (w : World) :
    Calls Tryd.prog 15 #[.agg #[.int .i64 x0, .string x1, .string x2, .string x3], .int .i64 left] w (SzPost 0 left w) := by
  unfold maxLen at h1 h2 h3
  go_enter Tryd.func15, Tryd.ntmps15
  go_wp2
  all_goals
    go_ret
    first
      | exact ⟨.inl rfl, (by repeat (first | exact Below.refl _ _ | refine Below.alloc ?_ (by simp; try omega) _ | refine Below.drew ?_))⟩
      | exact ⟨.inr ⟨_, by omega, by omega, rfl⟩, (by repeat (first | exact Below.refl _ _ | refine Below.alloc ?_ (by simp; try omega) _ | refine Below.drew ?_))⟩
set_option maxHeartbeats 1000000 in
theorem eqMark_same (x0 : Int) (x1 : ByteArray) (x2 : ByteArray) (x3 : ByteArray) (w : World) :
    Calls Tryd.prog 14 #[.agg #[.int .i64 x0, .string x1, .string x2, .string x3], .agg #[.int .i64 x0, .string x1, .string x2, .string x3]] w fun e w' => e = .returned (.bool true) ∧ Below w.heap.size w w' := by
  go_enter Tryd.func14, Tryd.ntmps14
  go_wp2
  go_ret
  exact ⟨rfl, (by repeat (first | exact Below.refl _ _ | refine Below.alloc ?_ (by simp; try omega) _ | refine Below.drew ?_))⟩
def dMark (x0 : Int) (x1 : ByteArray) (x2 : ByteArray) (x3 : ByteArray) (y0 : Int) (y1 : ByteArray) (y2 : ByteArray) (y3 : ByteArray) : Bool := (x0 == y0) && (x1.toList == y1.toList) && (x2.toList == y2.toList) && (x3.toList == y3.toList)
theorem dMark_self (x0 : Int) (x1 : ByteArray) (x2 : ByteArray) (x3 : ByteArray) : dMark x0 x1 x2 x3 x0 x1 x2 x3 = true := by simp [dMark]
theorem neqMark_run (x0 : Int) (x1 : ByteArray) (x2 : ByteArray) (x3 : ByteArray) (y0 : Int) (y1 : ByteArray) (y2 : ByteArray) (y3 : ByteArray) (W : World) :
    (binOp .neq 23 (.agg #[.int .i64 x0, .string x1, .string x2, .string x3]) (.agg #[.int .i64 y0, .string y1, .string y2, .string y3])).run Tryd.prog W = .ok (.bool (!dMark x0 x1 x2 x3 y0 y1 y2 y3)) W := by
  rw [run_neq_struct]
  have hp : Tryd.prog.stoodInHeld 23 = false := by kernel_rfl
  have hf : Tryd.prog.underlying 23 = some (.struct (Tryd.prog.fieldsOf 23)) := by unfold Program.fieldsOf; rw [Tryd.underlying23]
  rw [run_equalIn_struct W 9999 23 _ _ hf hp]
  unfold Program.fieldsOf
  rw [Tryd.underlying23]
  simp [go_sem, Op.eqFields, dMark]
  by_cases h0 : x0 = y0 <;> by_cases h1 : x1.toList = y1.toList <;> by_cases h2 : x2.toList = y2.toList <;> by_cases h3 : x3.toList = y3.toList <;> simp [h0, h1, h2, h3]
theorem eqlMark_run (x0 : Int) (x1 : ByteArray) (x2 : ByteArray) (x3 : ByteArray) (y0 : Int) (y1 : ByteArray) (y2 : ByteArray) (y3 : ByteArray) (W : World) :
    (binOp .eql 23 (.agg #[.int .i64 x0, .string x1, .string x2, .string x3]) (.agg #[.int .i64 y0, .string y1, .string y2, .string y3])).run Tryd.prog W = .ok (.bool (dMark x0 x1 x2 x3 y0 y1 y2 y3)) W := by
  rw [run_eql_struct]
  have hp : Tryd.prog.stoodInHeld 23 = false := by kernel_rfl
  have hf : Tryd.prog.underlying 23 = some (.struct (Tryd.prog.fieldsOf 23)) := by unfold Program.fieldsOf; rw [Tryd.underlying23]
  rw [run_equalIn_struct W 9999 23 _ _ hf hp]
  unfold Program.fieldsOf
  rw [Tryd.underlying23]
  simp [go_sem, Op.eqFields, dMark]
  by_cases h0 : x0 = y0 <;> by_cases h1 : x1.toList = y1.toList <;> by_cases h2 : x2.toList = y2.toList <;> by_cases h3 : x3.toList = y3.toList <;> simp [h0, h1, h2, h3]
end Go.Proofs.YtolijmldobncbaaDoor
