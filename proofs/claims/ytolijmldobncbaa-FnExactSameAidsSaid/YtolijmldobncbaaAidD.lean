/- Aids as cells: contracts that don't look into them. -/
import Derived.Test.YtolijmldobncbaaAidC
import Derived.Test.YtolijmldobncbaaQPlan
import Derived.Deep.MidRow
import Derived.Deep.WholeRow
namespace Go.Proofs.Ytolijmldobncbaa
open Go Go.RowKit
/-- The cells of an aid, its slices as they are held. -/
def IsA (d : AidD) (C : Array Value) (w : World) : Prop := ∃ G gc S sc, C = d.cells G gc S sc ∧ d.Has w G S
theorem IsA.below {d : AidD} {C : Array Value} {w w' : World} (h : IsA d C w) (hb : Below w.heap.size w w') : IsA d C w' := by
  obtain ⟨G, gc, S, sc, h1, h2⟩ := h
  exact ⟨G, gc, S, sc, h1, h2.below hb⟩
theorem IsA.size {d : AidD} {C : Array Value} {w : World} (h : IsA d C w) : C.size = 16 := by
  obtain ⟨G, gc, S, sc, rfl, _⟩ := h
  rfl
theorem IsA.one {d : AidD} {C : Array Value} {w : World} (h : IsA d C w) : C.all (·.oneCell') = true := by
  obtain ⟨G, gc, S, sc, rfl, _⟩ := h
  simp [AidD.cells, Value.oneCell']
structure AidD.Few (d : AidD) : Prop where
  gn : d.ch.n ≤ 1048576
  sn : d.sn ≤ 1048576
theorem toAidC_c (d : AidD) (C : Array Value) (w : World) (hf : d.Few) (h : IsA d C w) :
    Calls Try.prog 7 #[.agg C] w fun e w' => ∃ C', e = .returned (.agg C') ∧ IsA d C' w' ∧ Below w.heap.size w w' := by
  obtain ⟨G, gc, S, sc, rfl, hh⟩ := h
  refine (toAid_c d G gc S sc w hf.gn hf.sn hh).mono ?_
  rintro e w' ⟨a, b, rfl, _, F1, F2⟩
  exact ⟨_, rfl, ⟨_, _, _, _, rfl, F1.rec, F2.rec⟩, F1.bel⟩
theorem szAidC_c (d : AidD) (C : Array Value) (left : Int) (hok : d.Ok) (l0 : 0 ≤ left) (l1 : left ≤ 1048576) (w : World) (h : IsA d C w) :
    Calls Try.prog 5 #[.agg C, .int .i64 left] w fun e w' => (e = .returned (.int .i64 (-1)) ∨ ∃ r : Int, 0 ≤ r ∧ r ≤ left ∧ d.Few ∧ e = .returned (.int .i64 r)) ∧ Below w.heap.size w w' := by
  obtain ⟨G, gc, S, sc, rfl, hh⟩ := h
  refine (szAid_c d G gc S sc left hok l0 l1 w hh).mono ?_
  rintro e w' ⟨h | ⟨r, r0, r1, rfl⟩, hb⟩
  · exact ⟨.inl h, hb⟩
  · exact ⟨.inr ⟨r, r0, by omega, ⟨by omega, by omega⟩, rfl⟩, hb⟩
theorem eqAidC_same (d : AidD) (C C' : Array Value) (w : World) (hf : d.Few) (h : IsA d C w) (h' : IsA d C' w) :
    Calls Try.prog 9 #[.agg C, .agg C'] w fun e w' => e = .returned (.bool true) ∧ Below w.heap.size w w' := by
  obtain ⟨G, gc, S, sc, rfl, hh⟩ := h
  obtain ⟨G', gc', S', sc', rfl, hh'⟩ := h'
  exact eqAid_same d G gc S sc G' gc' S' sc' w hf.gn hf.sn hh hh'
theorem specSameAidC_c (d d' : AidD) (C C' : Array Value) (w : World) (hf : d.Few) (hf' : d'.Few) (h : IsA d C w) (h' : IsA d' C' w) :
    Calls Try.prog 6 #[.agg C, .agg C'] w fun e w' => e = .returned (.bool (d.same d')) ∧ Below w.heap.size w w' := by
  obtain ⟨G, gc, S, sc, rfl, hh⟩ := h
  obtain ⟨G', gc', S', sc', rfl, hh'⟩ := h'
  exact specSameAid_c d d' G gc S sc G' gc' S' sc' w hf.gn hf.sn hf'.gn hf'.sn hh hh'
theorem implSameAidC_c (d d' : AidD) (C C' : Array Value) (w : World) (hf : d.Few) (hf' : d'.Few) (h : IsA d C w) (h' : IsA d' C' w) :
    Calls Try.prog 8 #[.agg C, .agg C'] w fun e w' => e = .returned (.bool (d.same d')) ∧ Below w.heap.size w w' := by
  obtain ⟨G, gc, S, sc, rfl, hh⟩ := h
  obtain ⟨G', gc', S', sc', rfl, hh'⟩ := h'
  exact implSameAid_c d d' G gc S sc G' gc' S' sc' w hf.gn hf.sn hf'.gn hf'.sn hh hh'
def zeroA : Array Value := #[.int .i64 0, .string ⟨#[]⟩, .int .i64 0, .int .i64 0, .int .i64 0, .int .i64 0, .string ⟨#[]⟩, .string ⟨#[]⟩, .string ⟨#[]⟩, .int .i64 0, .slice none 0 0, .string ⟨#[]⟩, .string ⟨#[]⟩, .int .i64 0, .slice none 0 0, .int .i64 0]
theorem aid_store {d : AidD} {C : Array Value} {w : World} (h : IsA d C w) : (storeCells ⟨w.heap.size, 0, none⟩ C.toList 0).run Try.prog (w.alloc (.cells #[.int .i64 0, .string ⟨#[]⟩, .int .i64 0, .int .i64 0, .int .i64 0, .int .i64 0, .string ⟨#[]⟩, .string ⟨#[]⟩, .string ⟨#[]⟩, .int .i64 0, .slice none 0 0, .string ⟨#[]⟩, .string ⟨#[]⟩, .int .i64 0, .slice none 0 0, .int .i64 0] 39)) = .ok () (w.alloc (.cells C 39)) :=
  run_storeCells_new w 39 _ C (by rw [h.size]; kernel_rfl) (by rw [h.size]; rfl) h.one
theorem blk_row {w : World} {g : Nat} {t : TypeId} {C : Array Value} (h : Blk w g t C) : w.heap[g]? = some (.cells C t (0, 0)) := h
theorem sizeL {C : Array Value} (h : C.size = 16) : (Try.prog.info? 31).map (·.size) = some C.size := by rw [h]; kernel_rfl
theorem sizeI {C : Array Value} (h : C.size = 16) : (Try.prog.info? 39).map (·.size) = some C.size := by rw [h]; kernel_rfl
section
variable {P : Program} {ops : Array Oper} {Q : Exit → Act → World → Prop} {C : World → Prop} {L : Act → World → Prop} {ps : List (Nat × Bool)} {i : Nat} {o : Oper} {a : Act} {w : World}
/-- A whole row of cells is loaded: it floats. -/
theorem plan_load (h0 : ops[i]? = some o) (hg : Region.wanted o (yielded ops a.tmps) = true) (ty : TypeId) (x : Operand) (ho : o.op = .load ty x) (g : Nat) (hx : a.eval x = .pointer (some ⟨g, 0, none⟩)) (t : TypeId) (cs : Array Value) {d : TypeDesc}
    (hB : ∀ w', C w' → Blk w' g t cs) (hu : P.underlying ty = some d) (hd : (match d with | .struct _ | .array _ _ => true | _ => false) = true) (hi : (P.info? ty).map (·.size) = some cs.size) (hk : wpPlan P ops Q L ps C (a.put o.dst (.agg cs)) w) :
    wpPlan P ops Q L ((i, true) :: ps) C a w :=
  plan_look h0 hg (fun w' hw => by
    unfold execOp
    simp only [ho, hx, Instr.loadAt, Instr.sureAddr, Sem.run_bind, Sem.run_pure, Result.andThen_ok, run_loadVar_row w' g t ty cs (0, 0) d (hB w' hw) hu hd hi]) hk
end
end Go.Proofs.Ytolijmldobncbaa
