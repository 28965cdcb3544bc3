/- Rows of phases: the laws' marks on them. -/
import Derived.Test.YtimfpnmcdicldaaDoorStPhase
namespace Go.Proofs.YtimfpnmcdicldaaDoor
open Go Go.RowKit
/-- The digits of a number. -/
def digsF : Nat → Nat → ByteArray
  | 0, _ => ⟨#[]⟩
  | f + 1, k => if k = 0 then ⟨#[]⟩ else digsF f (k / 10) ++ ⟨#[UInt8.ofNat (48 + k % 10)]⟩
/-- A mark. -/
def mT (k : Nat) : ByteArray := (⟨#[109]⟩ : ByteArray) ++ digsF 20 k
theorem digit_back {n : Nat} (h : n < 10) (W : World) : (convert 100 9 (.slice (some ⟨W.heap.size, 0, none⟩) 1 1)).run Tryd.prog (W.alloc (.cells #[.int .u8 (48 + (n : Int))] 5)) = .ok (.string ⟨#[UInt8.ofNat (48 + n)]⟩) (W.alloc (.cells #[.int .u8 (48 + (n : Int))] 5)) := by
  refine run_convert_bytes_back (P := Tryd.prog) _ _ _ 5 ⟨W.heap.size, 0, none⟩ 1 [UInt8.ofNat (48 + n)] Tryd.underlying100 Tryd.underlying5 Tryd.underlying9 ?_
  intro j hj
  obtain rfl : j = 0 := by simpa using hj
  show (W.alloc _).cell? ⟨W.heap.size, 0, none⟩ = _
  rw [cell_new]
  have : ((UInt8.ofNat (48 + n)).toNat : Int) = 48 + (n : Int) := by
    rw [UInt8.toNat_ofNat']
    omega
  simp only [List.getElem_cons_zero, this]
  rfl
set_option maxRecDepth 100000 in
set_option maxHeartbeats 4000000 in
theorem markText_c (k : Nat) (h0 : 1 ≤ k) (h1 : k ≤ 1000000000000) (w : World) :
    Calls Tryd.prog 54 #[.int .i64 k] w fun e w' => e = .returned (.string (mT k)) ∧ Below w.heap.size w w' := by
  have HM := Lib.hid (show mT k = (⟨#[109]⟩ : ByteArray) ++ digsF 20 k from rfl)
  have hk0 : ¬ (k : Int) ≤ 0 := by omega
  go_enter Tryd.func54, Tryd.ntmps54
  go_wp2
  go_loopw [0, 3] (fun i o wr => ∃ (f j : Nat) (out : ByteArray) (x : Aft w), i = .int .i64 j ∧ o = .string out ∧ wr = x.w1 ∧ f ≤ 20 ∧ j < 10 ^ f ∧ j ≤ 1000000000000 ∧ out.size + f = 20 ∧ Hid (digsF 20 k = digsF f j ++ out)) (fun i _ _ => (intOf i).toNat)
  case atStart => exact ⟨20, k, ⟨#[]⟩, ⟨w, Below.refl _ _⟩, rfl, rfl, rfl, by omega, by omega, by omega, rfl, Lib.hid (by apply ByteArray.ext; simp [ByteArray.data_append])⟩
  case round =>
    obtain ⟨f, j, out, x, rfl, rfl, rfl, hf, hj, hj2, ho, hd⟩ := hrel
    by_cases hlt : 0 < j
    · have hb := fun W => digit_back (n := j % 10) (by omega) W
      have hf0 : f ≠ 0 := fun e => by subst e; omega
      obtain ⟨f', rfl⟩ : ∃ f', f = f' + 1 := ⟨f - 1, by omega⟩
      have hj3 : j / 10 < 10 ^ f' := by rw [Nat.pow_succ] at hj; omega
      have HN : Hid (digsF 20 k = digsF f' (j / 10) ++ ((⟨#[UInt8.ofNat (48 + j % 10)]⟩ : ByteArray) ++ out)) := by
        refine Lib.hid ?_
        rw [hd.out, digsF, if_neg (by omega), ByteArray.append_assoc]
      have hz : (⟨#[UInt8.ofNat (48 + j % 10)]⟩ : ByteArray).size = 1 := rfl
      have hz2 : ((⟨#[UInt8.ofNat (48 + j % 10)]⟩ : ByteArray) ++ out).size = 1 + out.size := by rw [ByteArray.size_append, hz]
      rw [show (((j % 10 : Nat)) : Int) = (j : Int) % 10 by omega] at hb
      generalize (⟨#[UInt8.ofNat (48 + j % 10)]⟩ : ByteArray) = db at *
      clear hj
      go_wp2
      go_roundw
      case rel => exact ⟨f', j / 10, _, ⟨_, (Aft.below _).alloc (Aft.below _).size _⟩, by first | rfl | (congr 1; omega), rfl, rfl, by omega, hj3, by omega, by omega, HN⟩
      case measure => simp [intOf]; omega
    · have hj0 : j = 0 := by omega
      subst hj0
      have e : digsF f 0 = ⟨#[]⟩ := by cases f <;> simp [digsF]
      have HN : Hid (mT k = (⟨#[109]⟩ : ByteArray) ++ out) := by
        refine Lib.hid ?_
        rw [HM.out, hd.out, e]
        congr 1
      clear hj
      go_wp2
      go_ret
      exact ⟨by rw [HN.out]; rfl, x.below⟩
def mkPhase (k : Int) (i j : Nat) : Value := if j = 0 then .string (mT (k + 2 * i).toNat) else .int .i64 (k + 2 * i + 1)
set_option maxHeartbeats 4000000 in
theorem markPhaseS_c (A : Option Addr) (n cap : Nat) (k : Int) (base : Nat) (f : Nat → Nat → Value) (w : World) (hn : n ≤ 1048576) (k0 : 1 ≤ k) (k1 : k ≤ 1000000) (h : SO w base 72 2 (.slice A n cap) n f) (hb0 : base ≤ w.heap.size) :
    Calls Tryd.prog 23 #[.slice A n cap, .int .i64 k] w fun e w' => e = .returned (.int .i64 (k + 2 * n)) ∧ Below base w w' ∧ SO w' base 72 2 (.slice A n cap) n (mkPhase k) := by
  go_enter Tryd.func23, Tryd.ntmps23
  go_wp2
  go_loopw [1, 5] (fun c i wr => ∃ (q : Nat) (xs : List Value), q ≤ n ∧ i = .int .i64 q ∧ c = .int .i64 (k + 2 * q) ∧ wr.ownsRow base 72 2 (.slice A n cap) n xs ∧ Hid (∀ i, i < q → ∀ j, j < 2 → xs[i * 2 + j]? = some (mkPhase k i j)) ∧ Below base w wr ∧ base ≤ wr.heap.size) (fun _ i _ => n - (intOf i).toNat)
  case atStart =>
    obtain ⟨xs, h1, h2⟩ := h
    exact ⟨0, xs, by omega, rfl, by simp, h1, Lib.hid (fun i hi => by omega), Below.refl _ _, hb0⟩
  case round =>
    obtain ⟨q, xs, hq, rfl, rfl, hown, hxs, hgr, hbs⟩ := hrel
    by_cases hlt : q < n
    · obtain ⟨g, cap', hv⟩ : ∃ g cap', Value.slice A n cap = .slice (some ⟨g, 0, none⟩) n cap' := by
        rcases hown.2 with ⟨_, h0⟩ | ⟨g, cap', cur, h0, _⟩
        · omega
        · exact ⟨g, cap', h0⟩
      injection hv with hA _ hcap
      subst hA hcap
      have hge : base ≤ g := (hown.lt g rfl).1
      have hg : g < wr.heap.size := (hown.lt g rfl).2
      obtain ⟨m, hm⟩ : ∃ m : Nat, k + 2 * (q : Int) = (m : Int) := ⟨(k + 2 * (q : Int)).toNat, by omega⟩
      have HMT := Lib.hid (fun W => markText_c m (by omega) (by omega) W)
      have hlen : xs.length = n * 2 := hown.1
      obtain ⟨u0, d0⟩ : ∃ u, wr.cell? ⟨g, q * 2, none⟩ = some u := ⟨_, (hown.cellAt (q * 2) (by omega)).trans (List.getElem?_eq_getElem (by omega))⟩
      obtain ⟨u1, d1⟩ : ∃ u, wr.cell? ⟨g, q * 2 + 1, none⟩ = some u := ⟨_, (hown.cellAt (q * 2 + 1) (by omega)).trans (List.getElem?_eq_getElem (by omega))⟩
      have g0 := hown.frozenAt (q * 2)
      have g1 := hown.frozenAt (q * 2 + 1)
      rw [hm]
      have HW := Lib.hid hown
      have HL := Lib.hid hlen
      have HG := Lib.hid hgr
      clear hlen hown hgr h
      go_wp2_with fail
      refine (HMT.out _).mono ?_
      rintro e w2 ⟨rfl, hb2⟩
      obtain ⟨hc, hf⟩ := bcell hb2
      have e0 : w2.cell? ⟨g, q * 2, none⟩ = some u0 := (hc _ _ hg).trans d0
      have e1 : w2.cell? ⟨g, q * 2 + 1, none⟩ = some u1 := (hc _ _ hg).trans d1
      have f0 : w2.frozen? ⟨g, q * 2, none⟩ = false := (hf _ _ hg).trans g0
      have f1 : w2.frozen? ⟨g, q * 2 + 1, none⟩ = false := (hf _ _ hg).trans g1
      have HB2 := Lib.hid hb2
      clear hc hf d0 d1 g0 g1 hb2
      go_wp2
      go_roundw
      case rel =>
        have hmN : (k + 2 * (q : Int)).toNat = m := by omega
        have o0 := own_below HW.out HB2.out
        obtain ⟨o1, t1⟩ := o0.stored (q * 2) (.string (mT m))
        obtain ⟨o2, t2⟩ := o1.stored (q * 2 + 1) (.int .i64 ((m : Int) + 1))
        have bb : Below base w w2 := HG.out.trans (HB2.out.mono hbs)
        have s2 : base ≤ w2.heap.size := Nat.le_trans hbs HB2.out.size
        have bb1 := bb.grown t1 s2 (fun k hk => by cases hk; exact hge)
        have bb2 := bb1.grown t2 (Nat.le_trans s2 t1.size) (fun k hk => by cases hk; exact hge)
        refine ⟨q + 1, _, by omega, by go_num, by congr 1; omega, o2, Lib.hid (fun i hi j hj => ?_), bb2, Nat.le_trans (Nat.le_trans s2 t1.size) t2.size⟩
        have hl := HL.out
        have e2 : j = 0 ∨ j = 1 := by omega
        by_cases e : i = q
        · subst e
          rcases e2 with rfl | rfl
          · refine (set_other (set_here (by omega)) (by omega)).trans ?_
            simp [mkPhase, hmN]
          · refine (set_here (by simp only [List.length_set]; omega)).trans ?_
            simp [mkPhase]; omega
        · exact set_other (set_other (hxs.out i (by omega) j hj) (by omega)) (by omega)
      case measure => simp [intOf]; omega
    · obtain rfl : q = n := by omega
      go_wp2
      go_ret
      exact ⟨rfl, hgr, xs, hown, hxs.out⟩
set_option maxHeartbeats 4000000 in
theorem heldPhaseS_c (A : Option Addr) (n cap : Nat) (k : Int) (w : World) (hn : n ≤ 1048576) (k0 : 1 ≤ k) (k1 : k ≤ 1000000) (h : Rec 2 w A n (mkPhase k)) :
    Calls Tryd.prog 24 #[.slice A n cap, .int .i64 k] w fun e w' => e = .returned (.int .i64 (k + 2 * n)) ∧ Below w.heap.size w w' := by
  go_enter Tryd.func24, Tryd.ntmps24
  go_wp2
  go_loopw [1, 5] (fun c i wr => ∃ (q : Nat) (x : Aft w), q ≤ n ∧ i = .int .i64 q ∧ c = .int .i64 (k + 2 * q) ∧ wr = x.w1) (fun _ i _ => n - (intOf i).toNat)
  case atStart => exact ⟨0, ⟨w, Below.refl _ _⟩, by omega, rfl, by simp, rfl⟩
  case round =>
    obtain ⟨q, x, hq, rfl, rfl, rfl⟩ := hrel
    by_cases hlt : q < n
    · obtain ⟨b, o, hi⟩ := h
      obtain ⟨rfl, hc⟩ := hi q hlt
      obtain ⟨m, hm⟩ : ∃ m : Nat, k + 2 * (q : Int) = (m : Int) := ⟨(k + 2 * (q : Int)).toNat, by omega⟩
      have hmN : (k + 2 * (q : Int)).toNat = m := by omega
      have p0 : w.cell? ⟨b, o + q * 2, none⟩ = some (.string (mT m)) := by simpa [mkPhase, hmN, Nat.add_assoc] using hc 0 (by omega)
      have p1 : w.cell? ⟨b, o + q * 2 + 1, none⟩ = some (.int .i64 ((m : Int) + 1)) := by
        have := hc 1 (by omega)
        rw [← hm]
        simpa [mkPhase, Nat.add_assoc] using this
      have c0 : ∀ y : Aft w, y.w1.cell? ⟨b, o + q * 2, none⟩ = some (.string (mT m)) := fun y => y.cell (cell_lt p0) p0
      have c1 : ∀ y : Aft w, y.w1.cell? ⟨b, o + q * 2 + 1, none⟩ = some (.int .i64 ((m : Int) + 1)) := fun y => y.cell (cell_lt p1) p1
      have HMT := Lib.hid (fun W => markText_c m (by omega) (by omega) W)
      rw [hm]
      generalize mT m = t at *
      clear hc hi p0 p1
      go_wp2
      refine wp_region_aftx x (by kernel_rfl) (by kernel_rfl) ?_
      repeat (go_big_quiet_step ((go_at_call 54; exact Aft.call (HMT.out _))))
      refine wpQuiet_nil ?_
      intro z
      have z1 := c1 z
      go_wp2
      go_roundw
      case rel => exact ⟨q + 1, z, by omega, by go_num, by congr 1; omega, rfl⟩
      case measure => simp [intOf]; omega
    · obtain rfl : q = n := by omega
      go_wp2
      go_ret
      exact ⟨rfl, x.below⟩
end Go.Proofs.YtimfpnmcdicldaaDoor
