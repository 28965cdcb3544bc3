/- Lists of aids: contracts of the laws' helpers. -/
import Derived.Test.YtolijmldobncbaaAidD
namespace Go.Proofs.Ytolijmldobncbaa
open Go Go.RowKit
theorem range_below {w w' : World} {b o : Nat} {cs : List Value} (h : w.rangeAt b o cs) (hb : Below w.heap.size w w') : w'.rangeAt b o cs := fun j v hj => by
  have h1 := h j v hj
  exact (hb.cell (p := ⟨b, o + j, none⟩) (cell_lt h1)).trans h1
/-- A slice of aids. -/
def RowA (w : World) (A : Option Addr) (n : Nat) (D : Nat → AidD) (C : Nat → Array Value) : Prop :=
  ∃ b o, ∀ i, i < n → A = some ⟨b, o, none⟩ ∧ w.rangeAt b (o + i * 16) (C i).toList ∧ IsA (D i) (C i) w
theorem RowA.below {w w' : World} {A : Option Addr} {n : Nat} {D : Nat → AidD} {C : Nat → Array Value} (h : RowA w A n D C) (hb : Below w.heap.size w w') : RowA w' A n D C := by
  obtain ⟨b, o, hi⟩ := h
  exact ⟨b, o, fun i hin => ⟨(hi i hin).1, range_below (hi i hin).2.1 hb, (hi i hin).2.2.below hb⟩⟩
section
variable {P : Program} {ops : Array Oper} {Q : Exit → Act → World → Prop}
/-- A struct out of the middle of a block. -/
theorem wpList_load_arr {rest : List Oper} {op : Oper} {a : Act} {w : World} (hgd : op.guard = none) (ty : TypeId) (x : Operand) (ho : op.op = .load ty x)
    (b o : Nat) (hx : a.eval x = .pointer (some ⟨b, o, none⟩)) (cs : Array Value) {d : TypeDesc} (hc : w.rangeAt b o cs.toList)
    (hu : P.underlying ty = some d) (hd : d.isRow = true) (hi : (P.info? ty).map (·.size) = some cs.size)
    (h : wpList P ops Q rest (a.put op.dst (.agg cs)) w) : wpList P ops Q (op :: rest) a w :=
  wpList_load_mid hgd ty x ho b o hx cs.toList d hc hu hd (by rw [hi, Array.length_toList]) (by rw [Array.toArray_toList]; exact h)
theorem quiet_load {op : Oper} {a : Act} {C : World → Prop} {K : Act → Prop} (ty : TypeId) (x : Operand) (ho : op.op = .load ty x)
    (b o : Nat) (hx : a.eval x = .pointer (some ⟨b, o, none⟩)) (cs : Array Value) {d : TypeDesc} (hc : ∀ w, C w → w.rangeAt b o cs.toList)
    (hu : P.underlying ty = some d) (hd : d.isRow = true) (hi : (P.info? ty).map (·.size) = some cs.size)
    (h : K (a.put op.dst (.agg cs))) : op.quiet P a C K :=
  ⟨_, fun w hw => by
    have hr := run_loadVar_mid w b o ty cs.toList d (hc w hw) hu hd (by rw [hi, Array.length_toList])
    rw [Array.toArray_toList] at hr
    unfold Oper.quietAt execOp
    simp only [ho, hx, Instr.loadAt, Instr.sureAddr, Sem.run_bind, Sem.run_pure, Result.andThen_ok, hr]
    exact ⟨rfl, rfl⟩, h⟩
end
/-! Several cells of a row of the call's own. -/
def putsL (xs : List Value) : Nat → List Value → List Value
  | _, [] => xs
  | o, v :: r => putsL (xs.set o v) (o + 1) r
theorem putsL_len : ∀ (cs : List Value) (xs : List Value) (o : Nat), (putsL xs o cs).length = xs.length
  | [], xs, o => rfl
  | v :: r, xs, o => by rw [putsL, putsL_len r]; simp
theorem putsL_out : ∀ (cs : List Value) (xs : List Value) (o j : Nat), (j < o ∨ o + cs.length ≤ j) → (putsL xs o cs)[j]? = xs[j]?
  | [], xs, o, j, _ => rfl
  | v :: r, xs, o, j, h => by
    simp only [List.length_cons] at h
    rw [putsL, putsL_out r _ (o + 1) j (by omega), List.getElem?_set_ne (by omega)]
theorem putsL_in : ∀ (cs : List Value) (xs : List Value) (o j : Nat), o + cs.length ≤ xs.length → j < cs.length → (putsL xs o cs)[o + j]? = cs[j]?
  | [], xs, o, j, _, hj => by simp at hj
  | v :: r, xs, o, 0, h, _ => by
    simp only [List.length_cons] at h
    rw [putsL, putsL_out r _ (o + 1) _ (by omega), Nat.add_zero]
    simp [show o < xs.length by omega]
  | v :: r, xs, o, j + 1, h, hj => by
    simp only [List.length_cons] at h hj
    have := putsL_in r (xs.set o v) (o + 1) j (by simp; omega) (by omega)
    rw [putsL, show o + (j + 1) = o + 1 + j by omega, this]
    rfl
theorem own_puts {base : Nat} {e : TypeId} {m n g cap : Nat} {w0 : World} (hg : w0.heap.size ≤ g) : ∀ (cs : List Value) (o : Nat) {w : World} {xs : List Value}, w.ownsRow base e m (.slice (some ⟨g, 0, none⟩) n cap) n xs → Below w0.heap.size w0 w →
    (w.setCells g o cs).ownsRow base e m (.slice (some ⟨g, 0, none⟩) n cap) n (putsL xs o cs) ∧ Below w0.heap.size w0 (w.setCells g o cs)
  | [], _, _, _, h, hb => ⟨h, hb⟩
  | v :: r, o, _, _, h, hb => by
    obtain ⟨h1, h2⟩ := own_put h hb hg o v
    exact own_puts hg r (o + 1) h1 h2
/-- Made anew, off one block. -/
def IsN (d : AidD) (C : Array Value) (w : World) (g : Nat) : Prop := ∃ a b gc sc, C = d.cells (some ⟨a, 0, none⟩) gc (some ⟨b, 0, none⟩) sc ∧ a ≠ g ∧ b ≠ g ∧ d.Has w (some ⟨a, 0, none⟩) (some ⟨b, 0, none⟩)
theorem IsN.isA {d : AidD} {C : Array Value} {w : World} {g : Nat} (h : IsN d C w g) : IsA d C w := by
  obtain ⟨a, b, gc, sc, h1, _, _, h2⟩ := h
  exact ⟨_, _, _, _, h1, h2⟩
theorem IsN.below {d : AidD} {C : Array Value} {w w' : World} {g : Nat} (h : IsN d C w g) (hb : Below w.heap.size w w') : IsN d C w' g := by
  obtain ⟨a, b, gc, sc, h1, h2, h3, h4⟩ := h
  exact ⟨a, b, gc, sc, h1, h2, h3, h4.below hb⟩
theorem rec_puts {m a n g : Nat} {w : World} {f : Nat → Nat → Value} (h : Rec m w (some ⟨a, 0, none⟩) n f) (hne : a ≠ g) (o : Nat) (cs : List Value) : Rec m (w.setCells g o cs) (some ⟨a, 0, none⟩) n f := by
  obtain ⟨b, o', hi⟩ := h
  refine ⟨b, o', fun i hin => ⟨(hi i hin).1, fun j hj => ?_⟩⟩
  have hA := (hi i hin).1
  injection hA with hA
  injection hA with hA _ _
  rw [World.cell?_setCells_out g cs o w ⟨b, o' + (i * m + j), none⟩ (fun hb _ => absurd (hA.trans hb) hne)]
  exact (hi i hin).2 j hj
theorem IsN.puts {d : AidD} {C : Array Value} {w : World} {g : Nat} (h : IsN d C w g) (o : Nat) (cs : List Value) : IsN d C (w.setCells g o cs) g := by
  obtain ⟨a, b, gc, sc, h1, h2, h3, h4, h5⟩ := h
  exact ⟨a, b, gc, sc, h1, h2, h3, rec_puts h4 h2 o cs, rec_puts h5 h3 o cs⟩
theorem toAidN_c (d : AidD) (C : Array Value) (g : Nat) (w : World) (hg : g < w.heap.size) (hf : d.Few) (h : IsA d C w) :
    Calls Try.prog 7 #[.agg C] w fun e w' => ∃ C', e = .returned (.agg C') ∧ IsN d C' w' g ∧ Below w.heap.size w w' := by
  obtain ⟨G, gc, S, sc, rfl, hh⟩ := h
  refine (toAid_c d G gc S sc w hf.gn hf.sn hh).mono ?_
  rintro e w' ⟨a, b, rfl, _, F1, F2⟩
  have h1 := F1.ge_
  have h2 := F2.ge_
  exact ⟨_, rfl, ⟨_, _, _, _, rfl, by omega, by omega, F1.rec, F2.rec⟩, F1.bel⟩
theorem infoAid : (Try.prog.info? 39).map (fun i => (i.zero, i.size, i.bytes)) = some (some (.agg #[.int .i64 0, .string ByteArray.empty, .int .i64 0, .int .i64 0, .int .i64 0, .int .i64 0, .string ByteArray.empty, .string ByteArray.empty, .string ByteArray.empty, .int .i64 0, .slice none 0 0, .string ByteArray.empty, .string ByteArray.empty, .int .i64 0, .slice none 0 0, .int .i64 0]), 16, 208) := by kernel_rfl
set_option maxRecDepth 100000 in
set_option maxHeartbeats 4000000 in
theorem toAidS_c (A : Option Addr) (n cap : Nat) (D : Nat → AidD) (C : Nat → Array Value) (w : World) (hn : n ≤ 1048576) (hf : ∀ i, i < n → (D i).Few) (h : RowA w A n D C) :
    Calls Try.prog 12 #[.slice A n cap] w fun e w' => ∃ g C', e = .returned (.slice (some ⟨g, 0, none⟩) n n) ∧ RowA w' (some ⟨g, 0, none⟩) n D C' ∧ Below w.heap.size w w' := by
  obtain ⟨i0, hi0, hz0, hz1, hz2⟩ := info_parts infoAid
  go_enter Try.func12, Try.ntmps12
  go_wp2_with (at_make; refine wpList_make_full _ rfl _ _ 45 rfl w.heap.size 39 i0 _ 16 Try.underlying45 hi0 hz0 hz1 _ _ _ _ n rfl rfl rfl rfl (by rw [hz2]; omega) (by unfold maxLen; omega) (by simp) ?_)
  intro w1 hown hgrow
  have hb1 : Below w.heap.size w w1 := (Below.refl _ _).grown hgrow (Nat.le_refl _) (by simp)
  go_wp2
  go_loopw [4] (fun i wr => ∃ (k : Nat) (xs : List Value) (C' : Nat → Array Value), k ≤ n ∧ i = .int .i64 k ∧ Below w.heap.size w wr ∧ wr.ownsRow w.heap.size 39 16 (.slice (some ⟨w.heap.size, 0, none⟩) n n) n xs ∧ Hid (∀ i, i < k → IsN (D i) (C' i) wr w.heap.size ∧ ∀ j, j < 16 → xs[i * 16 + j]? = (C' i)[j]?)) (fun i _ => n - (intOf i).toNat)
  case atStart => exact ⟨0, _, fun _ => #[], by omega, rfl, hb1, hown, Lib.hid (fun i hi => by omega)⟩
  case round =>
    obtain ⟨k, xs, C', hk, rfl, hbw, hown2, hall⟩ := hrel
    have HW := Lib.hid hown2
    clear hown hown2 hgrow hb1
    by_cases hlt : k < n
    · obtain ⟨b, o, hi⟩ := h.below hbw
      obtain ⟨rfl, hr, hA⟩ := hi k hlt
      have hfk := hf k hlt
      have HB := Lib.hid hbw
      have hgl := (HW.out.lt _ rfl).2
      have ZC := Lib.hid (hA.size)
      generalize hCk : C k = Ck at *
      clear hi hbw hCk
      go_wp2_with (refine wpList_load_arr rfl 31 _ rfl b (o + k * 16) rfl Ck hr Try.underlying31 rfl (sizeL ZC.out) ?_)
      refine (toAidN_c (D k) Ck w.heap.size _ hgl hfk hA).mono ?_
      rintro e w2 ⟨C2, rfl, hN, hb2⟩
      have hown3 := own_below HW.out hb2
      have hlen : xs.length = n * 16 := hown3.1
      have ht : w2.there w.heap.size (k * 16) C2.size := fun j hj => by
        rw [hN.isA.size] at hj
        exact ⟨by rw [hown3.cellAt (k * 16 + j) (by omega), List.getElem?_eq_getElem (by omega)]; rfl, hown3.frozenAt _⟩
      have HN := Lib.hid hN
      have HW3 := Lib.hid hown3
      have HT := Lib.hid ht
      have HL := Lib.hid hlen
      have HB2 := Lib.hid hb2
      clear hN hown3 ht hlen hr hA hb2
      go_wp2_with (refine wpList_store_mid rfl 39 _ _ rfl w.heap.size (k * 16) C2 rfl rfl HT.out (sizeI HN.out.isA.size) HN.out.isA.one ?_)
      go_roundw
      case rel =>
        obtain ⟨o1, b1⟩ := own_puts (w0 := w) (Nat.le_refl _) C2.toList (k * 16) HW3.out (held_next HB.out HB2.out)
        refine ⟨k + 1, _, fun i => if i = k then C2 else C' i, by omega, by go_num, b1, o1, Lib.hid (fun i hi => ?_)⟩
        have hz : C2.toList.length = 16 := by rw [Array.length_toList]; exact HN.out.isA.size
        by_cases e : i = k
        · subst e
          simp only [if_true]
          refine ⟨HN.out.puts _ _, fun j hj => ?_⟩
          rw [putsL_in _ _ _ _ (by rw [HL.out, hz]; omega) (by omega)]
          simp
        · simp only [e, if_false]
          obtain ⟨h1, h2⟩ := hall.out i (by omega)
          refine ⟨(h1.below HB2.out).puts _ _, fun j hj => ?_⟩
          rw [putsL_out _ _ _ _ (by rw [hz]; omega)]
          exact h2 j hj
      case measure => simp [intOf]; omega
    · obtain rfl : k = n := by omega
      go_wp2
      go_ret
      refine ⟨_, C', rfl, ⟨w.heap.size, 0, fun i hi => ⟨rfl, fun j v hj => ?_, (hall.out i hi).1.isA⟩⟩, hbw⟩
      obtain ⟨h1, h2⟩ := hall.out i hi
      have hj16 : j < 16 := by
        have := (List.getElem?_eq_some_iff.1 hj).1
        rw [Array.length_toList, h1.isA.size] at this
        exact this
      have hl := HW.out.1
      rw [Nat.zero_add, HW.out.cellAt _ (by omega), h2 j hj16]
      simpa using hj
end Go.Proofs.Ytolijmldobncbaa
