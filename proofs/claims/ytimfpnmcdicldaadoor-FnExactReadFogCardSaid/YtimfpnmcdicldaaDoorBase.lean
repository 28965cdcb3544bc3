/- Common words of this seat's proofs: no function of the program is walked here. -/
import Derived.Test.YtimfpnmcdicldaaDoorRows
import Derived.WalkKit
import Derived.ProofKit
import Derived.OpenShut
import Derived.ShutString
import Derived.ChangeOld
import Derived.Below
import Derived.Lib.Hide
import Derived.Lib.SmallJoins
import Derived.WalkSpells
import Derived.WalkLawsBesides
import Derived.Deep.RegionHeld3
import Derived.Deep.DrawnRows
import Derived.Deep.QuietTactic
import Derived.BigQuiet
namespace Go.Proofs.YtimfpnmcdicldaaDoor
open Go.RowKit
set_option linter.unusedVariables false

theorem lawOwn : ownKnob Tryd.prog.godebug = none := by kernel_rfl
theorem lawLaid : laidOutB Tryd.prog = true := by kernel_rfl

/-- What a walk is told of a slice of integers that came in. -/
def IsRow (k : IntKind) (w : World) (a : Option Addr) (len cap : Nat) (zs : List Int) : Prop :=
  (a = none ∧ len = 0 ∧ cap = 0 ∧ zs = []) ∨
  ∃ x, a = some x ∧ len ≤ cap ∧ cap ≤ maxLen ∧ zs.length = cap ∧ (∀ i, i < zs.length → w.cell? (x.add i) = some (.int k (zs.getD i 0))) ∧ ∀ n ∈ zs, (Lit.int k n).wf = true

theorem ret_int {k : IntKind} {a b : Int} (h : a = b) : Ending.returned (.int k a) = .returned (.int k b) := by rw [h]
theorem ret_bool {a b : Bool} (h : a = b) : Ending.returned (.bool a) = .returned (.bool b) := by rw [h]

/-- In a range: a Bool that no rule takes apart. -/
def inR (n lo hi : Int) : Bool := decide (lo ≤ n) && decide (n ≤ hi)
theorem inR_yes {n lo hi : Int} (h : lo ≤ n ∧ n ≤ hi) : inR n lo hi = true := by simp [inR, h]
theorem inR_no {n lo hi : Int} (h : ¬ (lo ≤ n ∧ n ≤ hi)) : inR n lo hi = false := by
  simp only [inR, Bool.and_eq_false_iff, decide_eq_false_iff_not]; omega
theorem inR_iff {n lo hi : Int} : inR n lo hi = true ↔ lo ≤ n ∧ n ≤ hi := by simp [inR]

theorem i64_wf {n : Int} (h : (Lit.int .i64 n).wf = true) : -9223372036854775808 ≤ n ∧ n ≤ 9223372036854775807 := by
  simpa [Go.Joins.In64] using Go.Joins.in64_of_wf h

theorem bcell {W w1 : World} (hb : Below W.heap.size W w1) : (∀ b o, b < W.heap.size → w1.cell? ⟨b, o, none⟩ = W.cell? ⟨b, o, none⟩) ∧ (∀ b o, b < W.heap.size → w1.frozen? ⟨b, o, none⟩ = W.frozen? ⟨b, o, none⟩) :=
  ⟨fun b o h => hb.cell (p := ⟨b, o, none⟩) h, fun b o h => hb.frozen (p := ⟨b, o, none⟩) h⟩

theorem cell_new (w : World) (cs : Array Value) (T : TypeId) (i : Nat) : (w.alloc (.cells cs T)).cell? ⟨w.heap.size, i, none⟩ = cs[i]? := Go.Joins.cell_of_block (heap_alloc_new w _) i
theorem cell_past {w : World} {b : Nat} (h : b < w.heap.size) (o : Obj) (i : Nat) : (w.alloc o).cell? ⟨b, i, none⟩ = w.cell? ⟨b, i, none⟩ := World.cell?_alloc_lt w o ⟨b, i, none⟩ h
/-- Two blocks laid one behind the other: a cell of the first, and of the second. -/
theorem cell_two1 (w : World) (cs : Array Value) (T : TypeId) (o : Obj) (i : Nat) : ((w.alloc (.cells cs T)).alloc o).cell? ⟨w.heap.size, i, none⟩ = cs[i]? :=
  (cell_past (by simp) o i).trans (cell_new w cs T i)
theorem cell_two2 (w : World) (o : Obj) (cs : Array Value) (T : TypeId) (i : Nat) : ((w.alloc o).alloc (.cells cs T)).cell? ⟨w.heap.size + 1, i, none⟩ = cs[i]? := by
  have := cell_new (w.alloc o) cs T i
  simp only [World.size_alloc] at this
  exact this
theorem held_next {w w1 w2 : World} (h : Below w.heap.size w w1) (hb : Below w1.heap.size w1 w2) : Below w.heap.size w w2 := h.trans (hb.mono h.size)

/-! Rows of the call's own. -/
theorem le_alloc {n : Nat} {w : World} (h : n ≤ w.heap.size) (o : Obj) : n ≤ (w.alloc o).heap.size := by rw [World.size_alloc]; omega
theorem own_next {w0 wr w1 : World} {o : Obj} {v : Value} {E : TypeId} {size n : Nat} {xs : List Value} (hb : Below w0.heap.size w0 wr) (hown : wr.ownsRow w0.heap.size E size v n xs)
    (hg : (wr.alloc o).grownBy w1 v.ownBlock) : Below w0.heap.size w0 w1 :=
  (hb.alloc hb.size o).grown hg (le_alloc hb.size o) (fun k hk => (hown.lt k hk).1)
theorem own_next0 {w0 wr w1 : World} {v : Value} {E : TypeId} {size n : Nat} {xs : List Value} (hb : Below w0.heap.size w0 wr) (hown : wr.ownsRow w0.heap.size E size v n xs)
    (hg : wr.grownBy w1 v.ownBlock) : Below w0.heap.size w0 w1 :=
  hb.grown hg hb.size (fun k hk => (hown.lt k hk).1)
theorem one_int (k : IntKind) (n : Int) : ∀ u ∈ [Value.int k n], u.oneCell' = true := by intro u hu; simp only [List.mem_singleton] at hu; subst hu; rfl
theorem one_string (s : ByteArray) : ∀ u ∈ [Value.string s], u.oneCell' = true := by intro u hu; simp only [List.mem_singleton] at hu; subst hu; rfl
theorem small_row {k : Nat} (h : k ≤ 1000000) : k ≤ maxLen := by unfold maxLen; omega

theorem ownsRow_at {w : World} {g base n : Nat} {cs : Array Value} {e : TypeId} {xs : List Value} (hg : g = w.heap.size) (hb : base ≤ w.heap.size) (hn : cs.size = n) (hm : n ≤ 1000000) (hx : cs.toList = xs) :
    (w.alloc (.cells cs e)).ownsRow base e 1 (.slice (some ⟨g, 0, none⟩) n n) n xs := by
  subst hg hx
  exact World.ownsRow_lit (base := base) (e := e) (size := 1) w cs n hb (small_row hm) (by omega)

theorem bytesLess_one (c d : UInt8) : Op.bytesLess [c] [d] = decide (c < d) := by
  simp [Op.bytesLess]
/-- 'a[i]' of an array by value, the index in range, whose elements take one cell. -/
theorem run_index_array_in {P : Program} {t e : TypeId} {n : Nat} {cs : Array Value} {i0 : TypeInfo} {k : IntKind} {i : Int} {v : Value} (h : P.underlying t = some (.array n e)) (hi : P.info? e = some i0) (hs : i0.size = 1) (hagg : ∀ w, (isAgg e).run P w = .ok false w)
    (h0 : 0 ≤ i) (h1 : i < (n : Int)) (hv : cs[i.toNat]? = some v) (w : World) : (Instr.index t (.agg cs) (.int k i)).run P w = .ok v w := by
  simp [Instr.index, run_underlying h, asIntOf, h0, h1, sizeOf, typeInfo, hi, hs, part, hagg, hv]

/-! A region that draws its order, whose operations only read, whose callees may make memory: the class of the worlds that keep all that 'w' held. -/
/-- A world that keeps all that w held. -/
structure Aft (w : World) where
  w1 : World
  below : Below w.heap.size w w1

instance aftNonempty (w : World) : Nonempty (Aft w) := ⟨⟨w, Below.refl _ _⟩⟩

theorem Aft.cell {w : World} (x : Aft w) {b o : Nat} {v : Value} (hb : b < w.heap.size) (h : w.cell? ⟨b, o, none⟩ = some v) : x.w1.cell? ⟨b, o, none⟩ = some v :=
  (x.below.cell (p := ⟨b, o, none⟩) hb).trans h
theorem Aft.lt {w : World} (x : Aft w) {g : Nat} (h : g < w.heap.size) : g < x.w1.heap.size := Nat.lt_of_lt_of_le h x.below.size
/-- A cell of the block that was laid last. -/
theorem Aft.new {w : World} {cs : Array Value} {T : TypeId} (x : Aft (w.alloc (.cells cs T))) {i : Nat} {v : Value} (h : cs[i]? = some v) : x.w1.cell? ⟨w.heap.size, i, none⟩ = some v := by
  refine x.cell (by simp) ?_
  rw [Go.Joins.cell_of_block (heap_alloc_new w _)]
  exact h
theorem below_box {w w1 : World} {o : Obj} (h : Below (w.alloc o).heap.size (w.alloc o) w1) : Below w.heap.size w w1 :=
  held_next (Go.Joins.below_alloc1 w o) h
theorem Aft.call {P : Program} {f : FuncId} {args : Array Value} {w : World} {x : Aft w} {v : Value}
    (h : Calls P f args x.w1 fun e w' => e = .returned v ∧ Below x.w1.heap.size x.w1 w') : Calls P f args x.w1 fun e w' => e = .returned v ∧ ∃ y : Aft w, w' = y.w1 :=
  h.mono fun _ w' ⟨he, hb⟩ => ⟨he, ⟨w', held_next x.below hb⟩, rfl⟩
theorem Aft.same {P : Program} {f : FuncId} {args : Array Value} {w : World} {x : Aft w} {v : Value}
    (h : Calls P f args x.w1 fun e w' => e = .returned v ∧ x.w1 = w') : Calls P f args x.w1 fun e w' => e = .returned v ∧ ∃ y : Aft w, w' = y.w1 :=
  h.mono fun _ _ ⟨he, hb⟩ => ⟨he, x, hb.symm⟩
theorem Aft.first {P : Program} {f : FuncId} {args : Array Value} {w : World} {v : Value}
    (h : Calls P f args w fun e w' => e = .returned v ∧ Below w.heap.size w w') : Calls P f args w fun e w' => e = .returned v ∧ ∃ y : Aft w, w' = y.w1 :=
  h.mono fun _ w' ⟨he, hb⟩ => ⟨he, ⟨w', hb⟩, rfl⟩
theorem Aft.first0 {P : Program} {f : FuncId} {args : Array Value} {w : World} {v : Value}
    (h : Calls P f args w fun e w' => e = .returned v ∧ w = w') : Calls P f args w fun e w' => e = .returned v ∧ ∃ y : Aft w, w' = y.w1 :=
  h.mono fun _ w' ⟨he, hb⟩ => ⟨he, ⟨w', hb ▸ Below.refl _ _⟩, rfl⟩
theorem wp_region_aftx {P : Program} {id : Nat} {Q : Exit → Act → World → Prop} {a : Act} {w : World} (y : Aft w) {l : List Oper} (hm : P.follows .mixedOrders = true) (hB : Region.lexB .any l.toArray = true)
    (h : wpQuiet P l.toArray (fun w' => ∃ x : Aft w, w' = x.w1) (fun a' => ∀ z : Aft w, Q .normal a' z.w1) l a) : (Code.region id l.toArray true).wp P Q a y.w1 := by
  refine wp_region_quiet (C := fun w' => ∃ x : Aft w, w' = x.w1) hm hB ⟨⟨_, y.below.drew⟩, rfl⟩ ?_
  have : (fun a' => ∀ z : Aft w, Q .normal a' z.w1) = (fun a' => ∀ w', (∃ x : Aft w, w' = x.w1) → Q .normal a' w') := by
    funext a'
    apply propext
    constructor
    · rintro h1 w' ⟨x, rfl⟩
      exact h1 x
    · intro h1 z
      exact h1 _ ⟨z, rfl⟩
  rw [this] at h
  simpa using h
theorem wp_region_aft {P : Program} {id : Nat} {Q : Exit → Act → World → Prop} {a : Act} {w : World} {l : List Oper} (hm : P.follows .mixedOrders = true) (hB : Region.lexB .any l.toArray = true)
    (h : wpQuiet P l.toArray (fun w' => ∃ x : Aft w, w' = x.w1) (fun a' => ∀ w1, Below w.heap.size w w1 → Q .normal a' w1) l a) : (Code.region id l.toArray true).wp P Q a w := by
  refine wp_region_quiet (C := fun w' => ∃ x : Aft w, w' = x.w1) hm hB ⟨⟨_, (Below.refl w.heap.size w).drew⟩, rfl⟩ ?_
  have : (fun a' => ∀ w1, Below w.heap.size w w1 → Q .normal a' w1) = (fun a' => ∀ w', (∃ x : Aft w, w' = x.w1) → Q .normal a' w') := by
    funext a'
    apply propext
    constructor
    · rintro h1 w' ⟨x, rfl⟩
      exact h1 _ x.below
    · intro h1 w1 hb
      exact h1 _ ⟨⟨w1, hb⟩, rfl⟩
  rw [this] at h
  simpa using h

end Go.Proofs.YtimfpnmcdicldaaDoor
