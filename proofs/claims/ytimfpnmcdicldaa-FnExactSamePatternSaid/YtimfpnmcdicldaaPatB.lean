/- Patterns: the reference's period and least rotation. -/
import Derived.Test.YtimfpnmcdicldaaPatA
namespace Go.Proofs.Ytimfpnmcdicldaa
open Go Go.RowKit Go.Shelf
/-- What the reference's least period is. -/
def PerS (n : Nat) (t : Nat → UInt8) (q : Nat) : Prop := 1 ≤ q ∧ q ≤ n ∧ (q = n ∨ (n % q = 0 ∧ Lin t n q)) ∧ ∀ m, 1 ≤ m → m < q → ¬ (n % m = 0 ∧ Lin t n m)
theorem u8_int (a b : UInt8) : ((a.toNat : Int) == (b.toNat : Int)) = decide (a = b) := by
  by_cases h : a = b
  · subst h; simp
  · rw [decide_eq_false h, beq_eq_false_iff_ne]
    intro e
    exact h (UInt8.toNat_inj.1 (by omega))
set_option maxHeartbeats 8000000 in
theorem l06Period_c (g n cap : Nat) (t : Nat → UInt8) (w : World) (h1 : 1 ≤ n) (hn : n ≤ 600) (hR : ByR w g n t) :
    Calls Try.prog 116 #[.slice (some ⟨g, 0, none⟩) n cap] w fun e w' => ∃ q : Nat, e = .returned (.int .i64 q) ∧ PerS n t q ∧ Below w.heap.size w w' := by
  have HR := Lib.hid (fun (y : Aft w) => hR.below y.below)
  clear hR
  go_enter Try.func116, Try.ntmps116
  go_wp2
  go_loopw [3] (fun i wr => ∃ (q : Nat) (x : Aft w), 1 ≤ q ∧ q ≤ n ∧ i = .int .i64 q ∧ wr = x.w1 ∧ Hid (∀ m, 1 ≤ m → m < q → ¬ (n % m = 0 ∧ Lin t n m))) (fun i _ => n - (intOf i).toNat)
  case atStart => exact ⟨1, ⟨w, Below.refl _ _⟩, by omega, h1, rfl, rfl, Lib.hid (fun m a b => by omega)⟩
  case round =>
    obtain ⟨q, x, hq1, hq, rfl, rfl, hmin⟩ := hrel
    by_cases hlt : q < n
    · by_cases hm : n % q = 0
      · have hmi : ((n : Int) % (q : Int) == 0) = true := by rw [← Int.natCast_emod, hm]; rfl
        have hmi2 : ((n : Int) % (q : Int) != 0) = false := by rw [bne, hmi]; rfl
        have hq0 : (q : Int) ≠ 0 := by omega
        go_wp2
        go_loopw [4, 5] (fun s i wr => ∃ (k : Nat) (b : Bool) (y : Aft w), k ≤ n ∧ s = .bool b ∧ i = .int .i64 k ∧ wr = y.w1 ∧ Hid ((b = true ∧ ∀ j, j < k → t j = t (j + q)) ∨ (b = false ∧ ¬ Lin t n q))) (fun _ i _ => n - (intOf i).toNat)
        case atStart => exact ⟨0, true, x, by omega, rfl, rfl, rfl, Lib.hid (.inl ⟨rfl, fun j hj => by omega⟩)⟩
        case round =>
          obtain ⟨k, b, y, hk, rfl, rfl, rfl, hb⟩ := hrel
          cases b
          · have hnot : Hid (¬ Lin t n q) := Lib.hid (by
              rcases hb.out with h | h
              · cases h.1
              · exact h.2)
            have hnext : Hid (∀ m, 1 ≤ m → m < q + 1 → ¬ (n % m = 0 ∧ Lin t n m)) := Lib.hid (fun m a b => by
              by_cases e : m = q
              · subst e; exact fun h => hnot.out h.2
              · exact hmin.out m a (by omega))
            go_wp2
            all_goals
              go_roundw
              case rel => exact ⟨q + 1, y, by omega, by omega, by go_num, rfl, hnext⟩
              case measure => simp [intOf]; omega
          · have heq : Hid (∀ j, j < k → t j = t (j + q)) := Lib.hid (by
              rcases hb.out with h | h
              · exact h.2
              · cases h.1)
            clear hb
            by_cases hkq : k + q < n
            · have m0 : ∀ z : Aft w, z.w1.cell? ⟨g, k, none⟩ = some (.int .u8 ((t k).toNat : Int)) := fun z => HR.out z k (by omega)
              have m1 : ∀ z : Aft w, z.w1.cell? ⟨g, k + q, none⟩ = some (.int .u8 ((t (k + q)).toNat : Int)) := fun z => HR.out z (k + q) hkq
              have hkq2 : (k : Int) + (q : Int) < (n : Int) := by omega
              have hT := u8_int (t k) (t (k + q))
              by_cases ht : t k = t (k + q)
              · rw [decide_eq_true ht] at hT
                have hn' : Hid ((true = true ∧ ∀ j, j < k + 1 → t j = t (j + q)) ∨ (true = false ∧ ¬ Lin t n q)) := Lib.hid (.inl ⟨rfl, fun j hj => by
                  by_cases e : j = k
                  · subst e; exact ht
                  · exact heq.out j (by omega)⟩)
                clear ht
                go_wp2
                refine wp_region_aftx y (by kernel_rfl) (by kernel_rfl) ?_
                repeat (go_big_quiet_step (fail))
                refine wpQuiet_nil ?_
                intro z
                go_wp2
                go_roundw
                case rel => exact ⟨k + 1, true, z, by omega, rfl, by go_num, rfl, Lib.hid (by simpa using hn'.out)⟩
                case measure => simp [intOf]; omega
              · rw [decide_eq_false ht] at hT
                have hn' : Hid ((false = true ∧ ∀ j, j < k + 1 → t j = t (j + q)) ∨ (false = false ∧ ¬ Lin t n q)) := Lib.hid (.inr ⟨rfl, fun h => ht (h k hkq)⟩)
                clear ht
                go_wp2
                refine wp_region_aftx y (by kernel_rfl) (by kernel_rfl) ?_
                repeat (go_big_quiet_step (fail))
                refine wpQuiet_nil ?_
                intro z
                go_wp2
                go_roundw
                case rel => exact ⟨k + 1, false, z, by omega, rfl, by go_num, rfl, Lib.hid (by simpa using hn'.out)⟩
                case measure => simp [intOf]; omega
            · have hkq2 : ¬ (k : Int) + (q : Int) < (n : Int) := by omega
              have hL : Hid (Lin t n q) := Lib.hid (fun j hj => heq.out j (by omega))
              go_wp2
              go_ret
              exact ⟨q, rfl, ⟨hq1, hq, .inr ⟨hm, hL.out⟩, hmin.out⟩, y.below⟩
      · have hmi : ((n : Int) % (q : Int) == 0) = false := by
          rw [beq_eq_false_iff_ne]
          intro e
          apply hm
          rw [← Int.natCast_emod] at e
          omega
        have hmi2 : ((n : Int) % (q : Int) != 0) = true := by rw [bne, hmi]; rfl
        have hq0 : (q : Int) ≠ 0 := by omega
        have hnext : Hid (∀ m, 1 ≤ m → m < q + 1 → ¬ (n % m = 0 ∧ Lin t n m)) := Lib.hid (fun m a b => by
          by_cases e : m = q
          · subst e; exact fun h => hm h.1
          · exact hmin.out m a (by omega))
        go_wp2
        go_roundw
        case rel => exact ⟨q + 1, x, by omega, by omega, by go_num, rfl, hnext⟩
        case measure => simp [intOf]; omega
    · obtain rfl : q = n := by omega
      go_wp2
      go_ret
      exact ⟨q, rfl, ⟨hq1, hq, .inl rfl, hmin.out⟩, x.below⟩
set_option maxHeartbeats 8000000 in
theorem l06Least_c (g n cap : Nat) (t : Nat → UInt8) (w : World) (h1 : 1 ≤ n) (hn : n ≤ 600) (hR : ByR w g n t) :
    Calls Try.prog 95 #[.slice (some ⟨g, 0, none⟩) n cap] w fun e w' => (∃ b : Nat, e = .returned (.int .i64 b) ∧ b < n ∧ ∀ j, j < n → ¬ LtF n (rotF t n j) (rotF t n b)) ∧ w = w' := by
  have HR := Lib.hid hR
  clear hR
  have hn0 : (n : Int) ≠ 0 := by omega
  go_enter Try.func95, Try.ntmps95
  go_wp2
  go_loop [3, 4] (fun b i => ∃ (q m : Nat), 1 ≤ q ∧ q ≤ n ∧ m < q ∧ b = .int .i64 m ∧ i = .int .i64 q ∧ Hid (∀ j, j < q → ¬ LtF n (rotF t n j) (rotF t n m))) (fun _ i => n - (intOf i).toNat)
  case atStart => exact ⟨1, 0, by omega, h1, by omega, rfl, rfl, Lib.hid (fun j hj h => by
    obtain rfl : j = 0 := by omega
    exact ltF_irrefl h (fun _ _ => rfl))⟩
  case round =>
    obtain ⟨q, m, hq1, hq, hm, rfl, rfl, hmin⟩ := hrel
    by_cases hlt : q < n
    · go_wp2
      go_loop [3, 5] (fun b k => ∃ (k' : Nat), k' ≤ n ∧ b = .int .i64 m ∧ k = .int .i64 k' ∧ Hid (∀ j, j < k' → rotF t n q j = rotF t n m j)) (fun _ k => n - (intOf k).toNat)
      case atStart => exact ⟨0, by omega, rfl, rfl, Lib.hid (fun j hj => by omega)⟩
      case round =>
        obtain ⟨k, hk, rfl, rfl, heq⟩ := hrel
        by_cases hkn : k < n
        · have hr1 : ((q : Int) + (k : Int)) % (n : Int) = (((q + k) % n : Nat) : Int) := by rw [← Int.natCast_add, ← Int.natCast_emod]
          have hr2 : ((m : Int) + (k : Int)) % (n : Int) = (((m + k) % n : Nat) : Int) := by rw [← Int.natCast_add, ← Int.natCast_emod]
          have hl1 : (q + k) % n < n := Nat.mod_lt _ (by omega)
          have hl2 : (m + k) % n < n := Nat.mod_lt _ (by omega)
          have c1 := HR.out _ hl1
          have c2 := HR.out _ hl2
          have e1 : rotF t n q k = t ((q + k) % n) := rfl
          have e2 : rotF t n m k = t ((m + k) % n) := rfl
          generalize (q + k) % n = r1 at *
          generalize (m + k) % n = r2 at *
          have hi1 : ((r1 : Int)) < (n : Int) := by omega
          have hi2 : ((r2 : Int)) < (n : Int) := by omega
          have hT := u8_int (t r1) (t r2)
          have hTl : decide (((t r1).toNat : Int) < ((t r2).toNat : Int)) = decide (t r1 < t r2) := by
            by_cases h : t r1 < t r2
            · have := UInt8.lt_iff_toNat_lt.1 h
              rw [decide_eq_true h, decide_eq_true (by omega)]
            · have : ¬ (t r1).toNat < (t r2).toNat := fun h' => h (UInt8.lt_iff_toNat_lt.2 h')
              rw [decide_eq_false h, decide_eq_false (by omega)]
          rcases u8_or (t r1) (t r2) with h | h | h
          · rw [decide_eq_true h] at hT
            have hT2 : ((t r1).toNat : Int) = ((t r2).toNat : Int) := by rw [h]
            have hn' : Hid (∀ j, j < k + 1 → rotF t n q j = rotF t n m j) := Lib.hid (fun j hj => by
              by_cases e : j = k
              · subst e; rw [e1, e2, h]
              · exact heq.out j (by omega))
            clear hTl e1 e2 h
            go_wp2
            go_round
            case rel => exact ⟨k + 1, by omega, rfl, by go_num, hn'⟩
            case measure => simp [intOf]; omega
          · rw [decide_eq_false (fun e => by rw [e] at h; exact UInt8.lt_irrefl _ h)] at hT
            rw [decide_eq_true h] at hTl
            have hlt2 : LtF n (rotF t n q) (rotF t n m) := ⟨k, hkn, heq.out, by rw [e1, e2]; exact h⟩
            have hn' : Hid (∀ j, j < q + 1 → ¬ LtF n (rotF t n j) (rotF t n q)) := Lib.hid (fun j hj h' => by
              by_cases e : j = q
              · subst e; exact ltF_irrefl h' (fun _ _ => rfl)
              · exact hmin.out j (by omega) (ltF_trans h' hlt2))
            have hTi : ((t r1).toNat : Int) < ((t r2).toNat : Int) := by
              have := UInt8.lt_iff_toNat_lt.1 h
              omega
            clear e1 e2 h hlt2 hTl
            go_wp2
            go_round
            case rel => exact ⟨q + 1, q, by omega, by omega, by omega, rfl, by go_num, hn'⟩
            case measure => simp [intOf]; omega
          · rw [decide_eq_false (fun e => by rw [e] at h; exact UInt8.lt_irrefl _ h)] at hT
            have hlt2 : LtF n (rotF t n m) (rotF t n q) := ⟨k, hkn, fun j hj => (heq.out j hj).symm, by rw [e1, e2]; exact h⟩
            have hn' : Hid (∀ j, j < q + 1 → ¬ LtF n (rotF t n j) (rotF t n m)) := Lib.hid (fun j hj h' => by
              by_cases e : j = q
              · subst e; exact ltF_irrefl (ltF_trans h' hlt2) (fun _ _ => rfl)
              · exact hmin.out j (by omega) h')
            have hTi : ¬ ((t r1).toNat : Int) < ((t r2).toNat : Int) := by
              have := UInt8.lt_iff_toNat_lt.1 h
              omega
            clear e1 e2 h hlt2 hTl
            go_wp2
            go_round
            case rel => exact ⟨q + 1, m, by omega, by omega, by omega, rfl, by go_num, hn'⟩
            case measure => simp [intOf]; omega
        · obtain rfl : k = n := by omega
          have hn' : Hid (∀ j, j < q + 1 → ¬ LtF k (rotF t k j) (rotF t k m)) := Lib.hid (fun j hj h' => by
            by_cases e : j = q
            · subst e; exact ltF_irrefl h' heq.out
            · exact hmin.out j (by omega) h')
          go_wp2
          go_round
          case rel => exact ⟨q + 1, m, by omega, by omega, by omega, rfl, by go_num, hn'⟩
          case measure => simp [intOf]; omega
    · obtain rfl : q = n := by omega
      go_wp2
      go_ret
      exact ⟨⟨m, rfl, hm, hmin.out⟩, rfl⟩
end Go.Proofs.Ytimfpnmcdicldaa
