/- Patterns: the program's period. -/
import Derived.Test.YtimfpnmcdicldaaPatC
namespace Go.Proofs.Ytimfpnmcdicldaa
open Go Go.RowKit Go.Shelf
/-- What the program's least period is. -/
def PerI (n : Nat) (t : Nat → UInt8) (q : Nat) : Prop := 1 ≤ q ∧ Cyc t n q ∧ ∀ m, 1 ≤ m → m < q → ¬ Cyc t n m
/-- The same again after q: as a Bool. -/
def cycB (n : Nat) (t : Nat → UInt8) (q : Nat) : Bool := allB n fun i => decide (t i = t ((i + q) % n))
theorem cycB_iff {n : Nat} {t : Nat → UInt8} {q : Nat} : cycB n t q = true ↔ Cyc t n q := by
  constructor
  · intro h i hi
    have := allB_at h i hi
    simpa using this
  · intro h
    exact allB_yes (fun i hi => by simpa using h i hi)
theorem own_cap2 {w : World} {base n g cap m : Nat} {e : TypeId} {xs : List Value} (h : w.ownsRow base e m (.slice (some ⟨g, 0, none⟩) n cap) n xs) : cap ≤ 9223372036854775807 := by
  rcases h.2 with ⟨h0, _⟩ | ⟨g', cap', cur, h1, _, _, _, h5, _⟩
  · cases h0
  · injection h1 with _ _ h1c
    unfold maxLen at h5
    omega
set_option maxHeartbeats 4000000 in
theorem repeats_c (g n cap q : Nat) (t : Nat → UInt8) (w : World) (hn : n ≤ 600) (hq : q ≤ 600) (hR : StR w g n t) :
    Calls Try.prog 120 #[.slice (some ⟨g, 0, none⟩) n cap, .int .i64 q] w fun e w' => e = .returned (.bool (cycB n t q)) ∧ Below w.heap.size w w' := by
  have HR := Lib.hid (fun (y : Aft w) => hR.below y.below)
  clear hR
  go_enter Try.func120, Try.ntmps120
  go_wp2
  go_loopw [8] (fun i wr => ∃ (k : Nat) (x : Aft w), k ≤ n ∧ i = .int .i64 k ∧ wr = x.w1 ∧ Hid (∀ i, i < k → decide (t i = t ((i + q) % n)) = true)) (fun i _ => n - (intOf i).toNat)
  case atStart => exact ⟨0, ⟨w, Below.refl _ _⟩, by omega, rfl, rfl, Lib.hid (fun i hi => by omega)⟩
  case round =>
    obtain ⟨k, x, hk, rfl, rfl, hall⟩ := hrel
    by_cases hlt : k < n
    · have hn0 : (n : Int) ≠ 0 := by omega
      have hr1 : ((k : Int) + (q : Int)) % (n : Int) = (((k + q) % n : Nat) : Int) := by rw [← Int.natCast_add, ← Int.natCast_emod]
      have hl1 : (k + q) % n < n := Nat.mod_lt _ (by omega)
      have hT := lamp_beq (t k) (t ((k + q) % n))
      cases hd : decide (t k = t ((k + q) % n))
      all_goals
        rw [hd] at hT
        have HD : Hid ((fun i => decide (t i = t ((i + q) % n))) k = _) := Lib.hid hd
        clear hd
        have m0 : ∀ z : Aft w, z.w1.cell? ⟨g, k, none⟩ = some (.string (lampB (t k))) := fun z => HR.out z k hlt
        have m1 : ∀ z : Aft w, z.w1.cell? ⟨g, (k + q) % n, none⟩ = some (.string (lampB (t ((k + q) % n)))) := fun z => HR.out z _ hl1
        generalize (k + q) % n = r1 at *
        have hi1 : ((r1 : Int)) < (n : Int) := by omega
        go_wp2
        refine wp_region_aftx x (by kernel_rfl) (by kernel_rfl) ?_
        repeat (go_big_quiet_step (fail))
        refine wpQuiet_nil ?_
        intro z
        go_wp2
        first
          | (go_ret
             exact ⟨ret_bool (by unfold cycB; rw [allB_no hlt HD.out]), Aft.below _⟩)
          | (go_roundw
             case rel => exact ⟨k + 1, z, by omega, by go_num, rfl, Lib.hid (ok_more hall.out HD.out)⟩
             case measure => simp [intOf]; omega)
    · obtain rfl : k = n := by omega
      go_wp2
      go_ret
      exact ⟨ret_bool (by unfold cycB; rw [allB_yes hall.out]), x.below⟩
set_option maxHeartbeats 4000000 in
theorem onePeriod_c (A : Option Addr) (n cap : Nat) (C : Nat → ByteArray) (L : Nat → Int) (w : World) (hn : n ≤ 40) (hok : ∀ i, i < n → okPh C L i = true) (h1 : 1 ≤ (tensL C L n).length) (h6 : (tensL C L n).length ≤ 600) (hR : Rec 2 w A n (vPhase C L)) :
    Calls Try.prog 97 #[.slice A n cap] w fun e w' => ∃ (g q c : Nat), e = .returned (.slice (some ⟨g, 0, none⟩) q c) ∧ PerI (tensL C L n).length (fun i => (tensL C L n).getD i 0) q ∧ q ≤ (tensL C L n).length ∧ (q ≤ c ∧ c ≤ 9223372036854775807) ∧ StR w' g q (fun i => (tensL C L n).getD i 0) ∧ Below w.heap.size w w' := by
  have HT := Lib.hid (tenths_c A n cap C L w hn hok hR)
  generalize tensL C L n = l at *
  go_enter Try.func97, Try.ntmps97
  go_wp2_with fail
  refine HT.out.mono ?_
  rintro e w1 ⟨v, rfl, hown, hb1⟩
  obtain ⟨g, c, rfl⟩ := Go.Joins.ownsRow_form hown h1
  have hB := StR.of hown
  have hcap := own_cap1 hown
  have hcm := own_cap2 hown
  have HBy := Lib.hid hB
  have HP := Lib.hid (fun q hq W hB => repeats_c g l.length c q (fun i => l.getD i 0) W h6 hq hB)
  have HC := Lib.hid (cyc_all (fun i => l.getD i 0) l.length)
  clear hown hB HT
  go_wp2
  go_loopw [4] (fun i wr => ∃ (q : Nat) (x : Aft w1), 1 ≤ q ∧ q ≤ l.length ∧ i = .int .i64 q ∧ wr = x.w1 ∧ Hid (∀ m, 1 ≤ m → m < q → ¬ Cyc (fun i => l.getD i 0) l.length m)) (fun i _ => l.length - (intOf i).toNat)
  case atStart => exact ⟨1, ⟨w1, Below.refl _ _⟩, by omega, h1, rfl, rfl, Lib.hid (fun m a b => by omega)⟩
  case round =>
    obtain ⟨q, x, hq1, hq, rfl, rfl, hmin⟩ := hrel
    have HPq := Lib.hid (HP.out q (by omega))
    cases hv : cycB l.length (fun i => l.getD i 0) q
    · have hnot : Hid (¬ Cyc (fun i => l.getD i 0) l.length q) := Lib.hid (fun h => by rw [cycB_iff.2 h] at hv; cases hv)
      have hqn : q < l.length := by
        rcases Nat.lt_or_ge q l.length with h | h
        · exact h
        · exfalso
          have : q = l.length := by omega
          rw [this] at hnot
          exact hnot.out HC.out
      rw [hv] at HPq
      clear hv
      go_wp2_with (go_at_call 120; refine (Aft.call (HPq.out _ (HBy.out.below x.below))).mono ?_; rintro e _ ⟨rfl, y, rfl⟩)
      go_roundw
      case rel => exact ⟨q + 1, y, by omega, by omega, by go_num, rfl, Lib.hid (fun m a b => by
        by_cases e : m = q
        · subst e; exact hnot.out
        · exact hmin.out m a (by omega))⟩
      case measure => simp [intOf]; omega
    · have hyes : Hid (Cyc (fun i => l.getD i 0) l.length q) := Lib.hid (cycB_iff.1 hv)
      rw [hv] at HPq
      clear hv
      go_wp2_with (go_at_call 120; refine (Aft.call (HPq.out _ (HBy.out.below x.below))).mono ?_; rintro e _ ⟨rfl, y, rfl⟩)
      go_ret
      exact ⟨g, q, _, rfl, ⟨hq1, hyes.out, hmin.out⟩, hq, ⟨by omega, hcm⟩, fun i hi => HBy.out.below y.below i (by omega), held_next hb1 y.below⟩
end Go.Proofs.Ytimfpnmcdicldaa
