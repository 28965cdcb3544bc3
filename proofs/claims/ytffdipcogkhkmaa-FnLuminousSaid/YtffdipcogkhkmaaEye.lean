/- The least number that is accepted: the program's search by halving, with a closure. -/
import Derived.Test.YtffdipcogkhkmaaGeo
import Derived.Shelf.Abstract
namespace Go.Proofs.Ytffdipcogkhkmaa
open Go.RowKit
set_option linter.unusedVariables false
/-- What the search finds: the least number of a range that is accepted. -/
def IsLeast (acc : Int → Bool) (lo n : Int) : Prop := acc n = true ∧ ∀ m, lo ≤ m → m < n → acc m = false
theorem isLeast_eq {acc : Int → Bool} {lo a b : Int} (ha0 : lo ≤ a) (hb0 : lo ≤ b) (ha : IsLeast acc lo a) (hb : IsLeast acc lo b) : a = b := by
  rcases Int.lt_trichotomy a b with h | h | h
  · have := hb.2 a ha0 h; rw [ha.1] at this; cases this
  · exact h
  · have := ha.2 b hb0 h; rw [hb.1] at this; cases this
theorem exists_least (acc : Int → Bool) (hi : Int) (h : acc hi = true) : ∀ (n : Nat) (lo : Int), (hi - lo).toNat = n → lo ≤ hi → ∃ r, lo ≤ r ∧ r ≤ hi ∧ IsLeast acc lo r
  | 0, lo, hn, hl => ⟨hi, by omega, by omega, h, fun m a b => by omega⟩
  | n + 1, lo, hn, hl => by
    cases hv : acc lo
    · obtain ⟨r, r0, r1, r2, r3⟩ := exists_least acc hi h n (lo + 1) (by omega) (by omega)
      refine ⟨r, by omega, r1, r2, fun m a b => ?_⟩
      by_cases e : m = lo
      · rw [e]; exact hv
      · exact r3 m (by omega) b
    · exact ⟨lo, by omega, hl, hv, fun m a b => by omega⟩
/-- The accepting function hands back 'acc', whatever it is asked and whatever has been laid since. -/
def Accepts (K : FuncId) (cs : List Value) (w : World) (lo hi : Int) (acc : Int → Bool) : Prop :=
  ∀ (n : Int) (x : Aft w), lo ≤ n → n ≤ hi → Calls Try.prog K (Value.int .i64 n :: cs).toArray x.w1 fun e w' => e = .returned (.bool (acc n)) ∧ ∃ y : Aft w, w' = y.w1
set_option maxHeartbeats 1000000 in
theorem leastOf_none (K : FuncId) (cs : List Value) (lo hi : Int) (acc : Int → Bool) (h0 : 0 ≤ lo) (h1 : lo ≤ hi) (h2 : hi ≤ 1000000000) (w : World)
    (hK : ∀ args w, (callFunc K args).run Try.prog w = .ok (.enter K args) w) (H : Accepts K cs w lo hi acc) (hn : acc hi = false) (x : Aft w) :
    Calls Try.prog 47 #[.int .i64 lo, .int .i64 hi, .func (.func K) #[] cs.toArray] x.w1 fun e w' => e = .returned (.tuple #[.int .i64 0, .int .i64 3]) ∧ ∃ y : Aft w, w' = y.w1 := by
  have HH := Lib.hid H
  clear H
  go_enter Try.func47, Try.ntmps47
  go_wp2_with fail
  refine (HH.out hi x h1 (Int.le_refl _)).mono ?_
  rintro e _ ⟨rfl, y, rfl⟩
  go_wp2
  go_ret2
  exact ⟨rfl, y, rfl⟩

/-- What holds at the head of the search's loop. -/
def LRel (acc : Int → Bool) (lo l h : Int) : Prop := acc h = true ∧ ∀ m, lo ≤ m → m < l → acc m = false
def Mono (acc : Int → Bool) (lo hi : Int) : Prop := ∀ a b, lo ≤ a → a ≤ b → b ≤ hi → acc a = true → acc b = true
theorem LRel.up {acc : Int → Bool} {lo l h m hi : Int} (hr : LRel acc lo l h) (hm : Mono acc lo hi) (h1 : lo ≤ m) (h2 : m ≤ hi) (hv : acc m = false) : LRel acc lo (m + 1) h := by
  refine ⟨hr.1, fun k hk hkm => ?_⟩
  cases hk' : acc k
  · rfl
  · have := hm k m hk (by omega) h2 hk'
    rw [hv] at this; cases this
theorem LRel.down {acc : Int → Bool} {lo l h m : Int} (hr : LRel acc lo l h) (hv : acc m = true) : LRel acc lo l m := ⟨hv, hr.2⟩

set_option maxHeartbeats 2000000 in
theorem leastOf_some (K : FuncId) (cs : List Value) (lo hi : Int) (acc : Int → Bool) (h0 : 0 ≤ lo) (h1 : lo ≤ hi) (h2 : hi ≤ 1000000000) (w : World)
    (hK : ∀ args w, (callFunc K args).run Try.prog w = .ok (.enter K args) w) (H : Accepts K cs w lo hi acc) (hn : acc hi = true) (hmono : Mono acc lo hi) (r : Int) (hr : lo ≤ r) (hl : IsLeast acc lo r) (x : Aft w) :
    Calls Try.prog 47 #[.int .i64 lo, .int .i64 hi, .func (.func K) #[] cs.toArray] x.w1 fun e w' => e = .returned (.tuple #[.int .i64 r, .int .i64 0]) ∧ ∃ y : Aft w, w' = y.w1 := by
  have HH := Lib.hid H
  have HM := Lib.hid hmono
  have HL := Lib.hid hl
  have H0 : LRel acc lo lo hi := ⟨hn, fun m a b => by omega⟩
  clear H hmono hl
  go_enter Try.func47, Try.ntmps47
  go_wp2_with fail
  refine (HH.out hi x h1 (Int.le_refl _)).mono ?_
  rintro e _ ⟨rfl, y, rfl⟩
  go_wp2
  go_loopw [0, 1, 8] (fun a b _ wr => ∃ (l h : Int) (z : Aft w), lo ≤ l ∧ l ≤ h ∧ h ≤ hi ∧ a = .int .i64 l ∧ b = .int .i64 h ∧ wr = z.w1 ∧ LRel acc lo l h) (fun a b _ _ => (intOf b - intOf a).toNat)
  case atStart => exact ⟨lo, hi, y, by omega, by omega, by omega, rfl, rfl, rfl, H0⟩
  case round =>
    obtain ⟨l, h, z, r0, r1, r2, rfl, rfl, rfl, hrel⟩ := hrel
    have HR := Lib.hid hrel
    clear hrel H0 hn
    by_cases hlt : l < h
    · go_wp2_with fail
      cases hv : acc ((l + h) / 2)
      · have HV := Lib.hid hv
        refine (HH.out ((l + h) / 2) z (by omega) (by omega)).mono ?_
        rw [hv]
        clear hv
        rintro e _ ⟨rfl, z2, rfl⟩
        go_wp2
        go_roundw
        case rel => exact ⟨(l + h) / 2 + 1, h, z2, by omega, by omega, by omega, rfl, rfl, rfl, HR.out.up HM.out (by omega) (by omega) HV.out⟩
        case measure => simp [intOf]; omega
      · have HV := Lib.hid hv
        refine (HH.out ((l + h) / 2) z (by omega) (by omega)).mono ?_
        rw [hv]
        clear hv
        rintro e _ ⟨rfl, z2, rfl⟩
        go_wp2
        go_roundw
        case rel => exact ⟨l, (l + h) / 2, z2, by omega, by omega, by omega, rfl, rfl, rfl, HR.out.down HV.out⟩
        case measure => simp [intOf]; omega
    · go_wp2
      have e : l = h := by omega
      subst e
      have er : l = r := isLeast_eq r0 hr ⟨HR.out.1, HR.out.2⟩ HL.out
      subst er
      go_ret2
      exact ⟨rfl, z, rfl⟩
/-- An eye is high enough. -/
def accEye (h d n : Int) : Bool := decide (d ≤ horZ h + horZ n)
theorem accEye_mono (h d : Int) : Mono (accEye h d) 0 3000 := by
  intro a b ha hab hb hv
  have := horZ_mono ha hab
  simp only [accEye, decide_eq_true_eq] at *
  omega
set_option maxHeartbeats 1000000 in
theorem isRange_c (n : Int) (w : World) :
    Calls Try.prog 46 #[.int .i64 n] w fun e w' => e = .returned (.bool (inR n 1 100000)) ∧ w = w' := by
  go_enter Try.func46, Try.ntmps46
  go_wp2_with (go_at_call 44; refine (within_c _ _ _ _).mono ?_; rintro e w' ⟨rfl, rfl⟩)
  go_ret
  exact ⟨rfl, rfl⟩
set_option maxHeartbeats 1000000 in
theorem l09Distance_c (n : Int) (w : World) :
    Calls Try.prog 57 #[.int .i64 n] w fun e w' => e = .returned (.bool (inR n 1 100000)) ∧ w = w' := by
  go_enter Try.func57, Try.ntmps57
  go_wp2_with (go_at_call 55; refine (l00In_c _ _ _ _).mono ?_; rintro e w' ⟨rfl, rfl⟩)
  go_ret
  exact ⟨rfl, rfl⟩
set_option maxHeartbeats 1000000 in
theorem eye1_c (h d n : Int) (h0 : 0 ≤ h) (h1 : h ≤ 3000) (n0 : 0 ≤ n) (n1 : n ≤ 3000) (b1 b2 : Nat) (w : World) (hb1 : b1 < w.heap.size) (hb2 : b2 < w.heap.size)
    (c1 : w.cell? ⟨b1, 0, none⟩ = some (.int .i64 h)) (c2 : w.cell? ⟨b2, 0, none⟩ = some (.int .i64 d)) :
    Calls Try.prog 58 #[.int .i64 n, .pointer (some ⟨b1, 0, none⟩), .pointer (some ⟨b2, 0, none⟩)] w fun e w' => e = .returned (.bool (accEye h d n)) ∧ Below w.heap.size w w' := by
  have k1 : ∀ x : Aft w, x.w1.cell? ⟨b1, 0, none⟩ = some (.int .i64 h) := fun x => x.cell hb1 c1
  have k2 : ∀ x : Aft w, x.w1.cell? ⟨b2, 0, none⟩ = some (.int .i64 d) := fun x => x.cell hb2 c2
  obtain ⟨e0, e1⟩ := horZ_bd h0 h1
  obtain ⟨f0, f1⟩ := horZ_bd n0 n1
  have es : IntKind.i64.wrap (horZ h + horZ n) = horZ h + horZ n := IntWalk.i64_in _ (by omega)
  go_enter Try.func58, Try.ntmps58
  go_wp2
  refine wp_region_aft (by kernel_rfl) (by kernel_rfl) ?_
  repeat (go_big_quiet_step ((go_at_call 59; exact Aft.same (horizon_c _ (by assumption) (by assumption) _))))
  refine wpQuiet_nil ?_
  intro w1 hb1
  go_wp2
  go_ret
  exact ⟨rfl, hb1⟩
theorem eye1_accepts (h d : Int) (h0 : 0 ≤ h) (h1 : h ≤ 3000) (b1 b2 : Nat) (w : World) (hb1 : b1 < w.heap.size) (hb2 : b2 < w.heap.size)
    (c1 : w.cell? ⟨b1, 0, none⟩ = some (.int .i64 h)) (c2 : w.cell? ⟨b2, 0, none⟩ = some (.int .i64 d)) :
    Accepts 58 [.pointer (some ⟨b1, 0, none⟩), .pointer (some ⟨b2, 0, none⟩)] w 0 3000 (accEye h d) :=
  fun n x n0 n1 => Aft.call (eye1_c h d n h0 h1 n0 n1 b1 b2 x.w1 (x.lt hb1) (x.lt hb2) (x.cell hb1 c1) (x.cell hb2 c2))
theorem eye1_enter : ∀ args w, (callFunc 58 args).run Try.prog w = .ok (.enter 58 args) w := Go.Proofs.enters_of Try.func58 (by kernel_rfl) rfl
set_option maxHeartbeats 1000000 in
theorem implEye_none (h d : Int) (h0 : 0 ≤ h) (h1 : h ≤ 3000) (hd : inR d 1 100000 = true) (ha : accEye h d 3000 = false) (w : World) :
    Calls Try.prog 25 #[.int .i64 h, .int .i64 d] w fun e w' => e = .returned (.tuple #[.int .i64 0, .int .i64 3]) ∧ Below w.heap.size w w' := by
  have hh : inR h 0 3000 = true := inR_yes ⟨h0, h1⟩
  have hmf : ∀ (fn : Fn) (first cap : Array Value) (w : World), (Instr.makeFunc fn first cap).run Try.prog w = .ok (.func fn first cap) w := fun _ _ _ _ => rfl
  have HA := Lib.hid ha
  clear ha
  go_enter Try.func25, Try.ntmps25
  go_wp2_with (first
    | (go_at_call 53; refine (isHeight_c _ _).mono ?_; rintro e w' ⟨rfl, rfl⟩)
    | (go_at_call 46; refine (isRange_c _ _).mono ?_; rintro e w' ⟨rfl, rfl⟩))
  refine (leastOf_none 58 [.pointer (some ⟨w.heap.size, 0, none⟩), .pointer (some ⟨w.heap.size + 1, 0, none⟩)] 0 3000 (accEye h d) (by omega) (by omega) (by omega) _ eye1_enter
    (eye1_accepts h d h0 h1 _ _ _ (by simp; omega) (by simp) (cell_two1 _ _ _ _ _) (cell_two2 _ _ _ _ _)) HA.out ⟨_, Below.refl _ _⟩).mono ?_
  rintro e _ ⟨rfl, y, rfl⟩
  go_wp2
  go_ret2
  exact ⟨rfl, below_box (below_box y.below)⟩
set_option maxHeartbeats 1000000 in
theorem implEye_some (h d : Int) (h0 : 0 ≤ h) (h1 : h ≤ 3000) (hd : inR d 1 100000 = true) (ha : accEye h d 3000 = true) (r : Int) (r0 : 0 ≤ r) (hr : IsLeast (accEye h d) 0 r) (w : World) :
    Calls Try.prog 25 #[.int .i64 h, .int .i64 d] w fun e w' => e = .returned (.tuple #[.int .i64 r, .int .i64 0]) ∧ Below w.heap.size w w' := by
  have hh : inR h 0 3000 = true := inR_yes ⟨h0, h1⟩
  have hmf : ∀ (fn : Fn) (first cap : Array Value) (w : World), (Instr.makeFunc fn first cap).run Try.prog w = .ok (.func fn first cap) w := fun _ _ _ _ => rfl
  have HA := Lib.hid ha
  have HR := Lib.hid hr
  clear ha hr
  go_enter Try.func25, Try.ntmps25
  go_wp2_with (first
    | (go_at_call 53; refine (isHeight_c _ _).mono ?_; rintro e w' ⟨rfl, rfl⟩)
    | (go_at_call 46; refine (isRange_c _ _).mono ?_; rintro e w' ⟨rfl, rfl⟩))
  refine (leastOf_some 58 [.pointer (some ⟨w.heap.size, 0, none⟩), .pointer (some ⟨w.heap.size + 1, 0, none⟩)] 0 3000 (accEye h d) (by omega) (by omega) (by omega) _ eye1_enter
    (eye1_accepts h d h0 h1 _ _ _ (by simp; omega) (by simp) (cell_two1 _ _ _ _ _) (cell_two2 _ _ _ _ _)) HA.out (accEye_mono h d) r r0 HR.out ⟨_, Below.refl _ _⟩).mono ?_
  rintro e _ ⟨rfl, y, rfl⟩
  go_wp2
  go_ret2
  exact ⟨rfl, below_box (below_box y.below)⟩
set_option maxHeartbeats 1000000 in
theorem implEye_bad1 (h d : Int) (hh : inR h 0 3000 = false) (w : World) :
    Calls Try.prog 25 #[.int .i64 h, .int .i64 d] w fun e w' => e = .returned (.tuple #[.int .i64 0, .int .i64 2]) ∧ Below w.heap.size w w' := by
  go_enter Try.func25, Try.ntmps25
  go_wp2_with (go_at_call 53; refine (isHeight_c _ _).mono ?_; rintro e w' ⟨rfl, rfl⟩)
  go_ret2
  exact ⟨rfl, (by repeat (first | exact Below.refl _ _ | refine Below.alloc ?_ (by simp; try omega) _ | refine Below.drew ?_))⟩
set_option maxHeartbeats 1000000 in
theorem implEye_bad2 (h d : Int) (hh : inR h 0 3000 = true) (hd : inR d 1 100000 = false) (w : World) :
    Calls Try.prog 25 #[.int .i64 h, .int .i64 d] w fun e w' => e = .returned (.tuple #[.int .i64 0, .int .i64 2]) ∧ Below w.heap.size w w' := by
  go_enter Try.func25, Try.ntmps25
  go_wp2_with (first
    | (go_at_call 53; refine (isHeight_c _ _).mono ?_; rintro e w' ⟨rfl, rfl⟩)
    | (go_at_call 46; refine (isRange_c _ _).mono ?_; rintro e w' ⟨rfl, rfl⟩))
  go_ret2
  exact ⟨rfl, (by repeat (first | exact Below.refl _ _ | refine Below.alloc ?_ (by simp; try omega) _ | refine Below.drew ?_))⟩
end Go.Proofs.Ytffdipcogkhkmaa
