/- Slices of Point: contracts of the laws' helpers. -/
import Derived.Test.YtolijmldobncbaaOwn
import Derived.Laws.StructEq
namespace Go.Proofs.Ytolijmldobncbaa
open Go Go.RowKit
def vPoint (f0 : Nat → Int) (f1 : Nat → Int) (i j : Nat) : Value := if j = 0 then .int .i64 (f0 i) else .int .i64 (f1 i)
theorem rowsPoint {w : World} {A : Option Addr} {n : Nat} (h : Rows0 [0, 0] w A n) : ∃ (f0 : Nat → Int) (f1 : Nat → Int), Rec 2 w A n (vPoint f0 f1) ∧ ∀ i, i < n → (Lit.int .i64 (f0 i)).wf = true ∧ (Lit.int .i64 (f1 i)).wf = true := by
  obtain ⟨f, hf, hl⟩ := h.rec
  refine ⟨fun i => intOf (f i 0), fun i => intOf (f i 1), hf.congr fun i hi j hj => ?_, fun i hi => ?_⟩
  · have hj : j = 0 ∨ j = 1 := by simp only [List.length_cons, List.length_nil] at hj; omega
    rcases hj with rfl | rfl
    · exact (hl i hi 0 _ rfl).int.1
    · exact (hl i hi 1 _ rfl).int.1
  · exact ⟨(hl i hi 0 _ rfl).int.2, (hl i hi 1 _ rfl).int.2⟩
set_option maxHeartbeats 1000000 in
theorem toPoint_c (x0 : Int) (x1 : Int) (w : World) :
    Calls Try.prog 19 #[.agg #[.int .i64 x0, .int .i64 x1]] w fun e w' => e = .returned (.agg #[.int .i64 x0, .int .i64 x1]) ∧ Below w.heap.size w w' := by
  go_enter Try.func19, Try.ntmps19
  go_wp2
  refine bodyPost_ret (v := .agg #[.int .i64 x0, .int .i64 x1]) (by simp [results, Try.results19, go_sem]) rfl ⟨rfl, (by repeat (first | exact Below.refl _ _ | refine Below.alloc ?_ (by simp; try omega) _ | refine Below.drew ?_))⟩
set_option maxHeartbeats 1000000 in
theorem eqPoint_same (x0 : Int) (x1 : Int) (w : World) :
    Calls Try.prog 25 #[.agg #[.int .i64 x0, .int .i64 x1], .agg #[.int .i64 x0, .int .i64 x1]] w fun e w' => e = .returned (.bool true) ∧ Below w.heap.size w w' := by
  go_enter Try.func25, Try.ntmps25
  go_wp2
  go_ret
  exact ⟨rfl, (by repeat (first | exact Below.refl _ _ | refine Below.alloc ?_ (by simp; try omega) _ | refine Below.drew ?_))⟩
def dPoint (x0 : Int) (x1 : Int) (y0 : Int) (y1 : Int) : Bool := (x0 == y0) && (x1 == y1)
theorem dPoint_self (x0 : Int) (x1 : Int) : dPoint x0 x1 x0 x1 = true := by simp [dPoint]
theorem neqPoint_run (x0 : Int) (x1 : Int) (y0 : Int) (y1 : Int) (W : World) :
    (binOp .neq 34 (.agg #[.int .i64 x0, .int .i64 x1]) (.agg #[.int .i64 y0, .int .i64 y1])).run Try.prog W = .ok (.bool (!dPoint x0 x1 y0 y1)) W := by
  rw [run_neq_struct]
  have hp : Try.prog.stoodInHeld 34 = false := by kernel_rfl
  have hf : Try.prog.underlying 34 = some (.struct (Try.prog.fieldsOf 34)) := by unfold Program.fieldsOf; rw [Try.underlying34]
  rw [run_equalIn_struct W 9999 34 _ _ hf hp]
  unfold Program.fieldsOf
  rw [Try.underlying34]
  simp [go_sem, Op.eqFields, dPoint]
  by_cases h0 : x0 = y0 <;> by_cases h1 : x1 = y1 <;> simp [h0, h1]
theorem eqlPoint_run (x0 : Int) (x1 : Int) (y0 : Int) (y1 : Int) (W : World) :
    (binOp .eql 34 (.agg #[.int .i64 x0, .int .i64 x1]) (.agg #[.int .i64 y0, .int .i64 y1])).run Try.prog W = .ok (.bool (dPoint x0 x1 y0 y1)) W := by
  rw [run_eql_struct]
  have hp : Try.prog.stoodInHeld 34 = false := by kernel_rfl
  have hf : Try.prog.underlying 34 = some (.struct (Try.prog.fieldsOf 34)) := by unfold Program.fieldsOf; rw [Try.underlying34]
  rw [run_equalIn_struct W 9999 34 _ _ hf hp]
  unfold Program.fieldsOf
  rw [Try.underlying34]
  simp [go_sem, Op.eqFields, dPoint]
  by_cases h0 : x0 = y0 <;> by_cases h1 : x1 = y1 <;> simp [h0, h1]
def samePoint (n n' : Nat) (f0 : Nat → Int) (f1 : Nat → Int) (f0' : Nat → Int) (f1' : Nat → Int) : Bool := decide (n = n') && allB n (fun i => dPoint (f0 i) (f1 i) (f0' i) (f1' i))
end Go.Proofs.Ytolijmldobncbaa
