/- Patterns: the plain law: the least period, the least rotation, joined phases. -/
import Derived.Test.YtimfpnmcdicldaaBase
namespace Go.Proofs.Ytimfpnmcdicldaa
open Go Go.RowKit
section
variable {α : Type}
/-- The same again after n, round a list of N. -/
def Cyc (g : Nat → α) (N n : Nat) : Prop := ∀ t, t < N → g t = g ((t + n) % N)
/-- The same again after n, as far as the list goes. -/
def Lin (g : Nat → α) (N n : Nat) : Prop := ∀ i, i + n < N → g i = g (i + n)
theorem cyc_mul {g : Nat → α} {N n : Nat} (h : Cyc g N n) : ∀ (k t : Nat), t < N → g t = g ((t + k * n) % N)
  | 0, t, ht => by simp [Nat.mod_eq_of_lt ht]
  | k + 1, t, ht => by
    have hN : 0 < N := by omega
    rw [cyc_mul h k t ht, h _ (Nat.mod_lt _ hN), Nat.mod_add_mod]
    congr 2
    rw [Nat.add_mul]
    omega
theorem cyc_rem {g : Nat → α} {N p : Nat} (h : Cyc g N p) : Cyc g N (N % p) := by
  intro t ht
  have hN : 0 < N := by omega
  rw [cyc_mul h (N / p) ((t + N % p) % N) (Nat.mod_lt _ hN), Nat.mod_add_mod]
  have e : t + N % p + N / p * p = t + N := by
    have := Nat.div_add_mod N p
    rw [Nat.mul_comm] at this
    omega
  rw [e, Nat.add_mod_right, Nat.mod_eq_of_lt ht]
theorem cyc_all (g : Nat → α) (N : Nat) : Cyc g N N := fun t ht => by rw [Nat.add_mod_right, Nat.mod_eq_of_lt ht]
theorem cyc_lin {g : Nat → α} {N n : Nat} (h : Cyc g N n) : Lin g N n := fun i hi => by
  have := h i (by omega)
  rwa [Nat.mod_eq_of_lt hi] at this
theorem lin_mul {g : Nat → α} {N n : Nat} (h : Lin g N n) (r : Nat) : ∀ k, r + k * n < N → g r = g (r + k * n)
  | 0, _ => by simp
  | k + 1, hk => by
    rw [Nat.add_mul, Nat.one_mul, ← Nat.add_assoc] at hk ⊢
    rw [lin_mul h r k (by omega), h (r + k * n) hk]
theorem lin_cyc {g : Nat → α} {N n : Nat} (hd : N % n = 0) (_hn : 1 ≤ n) (hnN : n ≤ N) (h : Lin g N n) : Cyc g N n := by
  intro t ht
  by_cases hlt : t + n < N
  · rw [Nat.mod_eq_of_lt hlt]; exact h t hlt
  · obtain ⟨q, hq⟩ := Nat.dvd_of_mod_eq_zero hd
    have e1 : (t + n) % N = t + n - N := by
      rw [Nat.mod_eq_sub_mod (by omega), Nat.mod_eq_of_lt (by omega)]
    rw [e1]
    have hq1 : 1 ≤ q := by
      rcases Nat.eq_zero_or_pos q with rfl | h1
      · omega
      · exact h1
    have e2 : t + n - N + (q - 1) * n = t := by
      have : (q - 1) * n + n = N := by
        rw [← Nat.succ_mul, hq, Nat.mul_comm]
        congr 1
        omega
      omega
    have := lin_mul h (t + n - N) (q - 1) (by rw [e2]; exact ht)
    rw [e2] at this
    exact this.symm
/-- The program's least period is the reference's. -/
theorem period_same {g : Nat → α} {N p q : Nat} (hp : 1 ≤ p) (hc : Cyc g N p) (hpm : ∀ m, 1 ≤ m → m < p → ¬ Cyc g N m)
    (hq : 1 ≤ q) (hqN : q ≤ N) (hqc : q = N ∨ (N % q = 0 ∧ Lin g N q)) (hqm : ∀ m, 1 ≤ m → m < q → ¬ (N % m = 0 ∧ Lin g N m)) : p = q := by
  have hN : 1 ≤ N := by omega
  have hpN : p ≤ N := by
    rcases Nat.lt_or_ge N p with h | h
    · exact absurd (cyc_all g N) (hpm N hN h)
    · exact h
  have hd : N % p = 0 := by
    rcases Nat.eq_zero_or_pos (N % p) with h | h
    · exact h
    · exact absurd (cyc_rem hc) (hpm _ h (Nat.mod_lt _ hp))
  have h1 : q ≤ p := by
    rcases Nat.lt_or_ge p q with h | h
    · exact absurd ⟨hd, cyc_lin hc⟩ (hqm p hp h)
    · exact h
  have h2 : p ≤ q := by
    rcases hqc with rfl | ⟨h3, h4⟩
    · exact hpN
    · rcases Nat.lt_or_ge q p with h | h
      · exact absurd (lin_cyc h3 hq hqN h4) (hpm q hq h)
      · exact h
  omega
end
/-! The least rotation. -/
theorem u8_or (a b : UInt8) : a = b ∨ a < b ∨ b < a := by
  rcases Nat.lt_trichotomy a.toNat b.toNat with h | h | h
  · exact .inr (.inl (UInt8.lt_iff_toNat_lt.2 h))
  · exact .inl (UInt8.toNat_inj.1 h)
  · exact .inr (.inr (UInt8.lt_iff_toNat_lt.2 h))
def rotF (g : Nat → UInt8) (n i k : Nat) : UInt8 := g ((i + k) % n)
def LtF (n : Nat) (u v : Nat → UInt8) : Prop := ∃ k, k < n ∧ (∀ j, j < k → u j = v j) ∧ u k < v k
theorem ltF_trans {n : Nat} {u v x : Nat → UInt8} (h : LtF n u v) (h2 : LtF n v x) : LtF n u x := by
  obtain ⟨k, hk, he, hl⟩ := h
  obtain ⟨m, hm, he2, hl2⟩ := h2
  rcases Nat.lt_trichotomy k m with h | rfl | h
  · exact ⟨k, hk, fun j hj => (he j hj).trans (he2 j (by omega)), (he2 k h) ▸ hl⟩
  · exact ⟨k, hk, fun j hj => (he j hj).trans (he2 j hj), UInt8.lt_trans hl hl2⟩
  · exact ⟨m, hm, fun j hj => (he j (by omega)).trans (he2 j hj), (he m h).symm ▸ hl2⟩
theorem ltF_or (u v : Nat → UInt8) : ∀ n, (∀ k, k < n → u k = v k) ∨ LtF n u v ∨ LtF n v u
  | 0 => .inl fun k hk => by omega
  | n + 1 => by
    rcases ltF_or u v n with h | ⟨k, hk, h1, h2⟩ | ⟨k, hk, h1, h2⟩
    · rcases u8_or (u n) (v n) with e | e | e
      · exact .inl fun k hk => by
          by_cases hkn : k = n
          · rw [hkn]; exact e
          · exact h k (by omega)
      · exact .inr (.inl ⟨n, by omega, h, e⟩)
      · exact .inr (.inr ⟨n, by omega, fun j hj => (h j hj).symm, e⟩)
    · exact .inr (.inl ⟨k, by omega, h1, h2⟩)
    · exact .inr (.inr ⟨k, by omega, h1, h2⟩)
theorem ltF_irrefl {n : Nat} {u v : Nat → UInt8} (h : LtF n u v) (he : ∀ k, k < n → u k = v k) : False := by
  obtain ⟨k, hk, _, hl⟩ := h
  rw [he k hk] at hl
  exact absurd hl (UInt8.lt_irrefl _)
/-- A least rotation that begins inside a run: all letters are one. -/
theorem inside_const {g : Nat → UInt8} {n b : Nat} (hb : b < n) (hmin : ∀ j, j < n → ¬ LtF n (rotF g n j) (rotF g n b)) (hin : g b = g ((b + n - 1) % n)) : ∀ k, k < n → rotF g n b k = rotF g n b 0 := by
  intro k
  induction k using Nat.strongRecOn with
  | _ k ih =>
    intro hk
    rcases u8_or (rotF g n b k) (rotF g n b 0) with e | e | e
    · exact e
    · exfalso
      refine hmin ((b + k) % n) (Nat.mod_lt _ (by omega)) ⟨0, by omega, fun j hj => by omega, ?_⟩
      have e2 : rotF g n ((b + k) % n) 0 = rotF g n b k := by simp [rotF]
      rw [e2]
      exact e
    · exfalso
      have hk0 : k ≠ 0 := by
        rintro rfl
        exact absurd e (UInt8.lt_irrefl _)
      refine hmin ((b + n - 1) % n) (Nat.mod_lt _ (by omega)) ⟨k, hk, fun j hj => ?_, ?_⟩
      · have hw : rotF g n b j = rotF g n b 0 := ih j hj (by omega)
        rw [hw]
        rcases Nat.eq_zero_or_pos j with rfl | hj0
        · simp only [rotF, Nat.add_zero, Nat.mod_mod]
          rw [Nat.mod_eq_of_lt hb, ← hin]
        · have h1 := ih (j - 1) (by omega) (by omega)
          have e2 : rotF g n ((b + n - 1) % n) j = rotF g n b (j - 1) := by
            simp only [rotF, Nat.mod_add_mod]
            congr 1
            rw [show b + n - 1 + j = (b + (j - 1)) + n by omega, Nat.add_mod_right]
          rw [e2, h1]
      · have e2 : rotF g n ((b + n - 1) % n) k = rotF g n b (k - 1) := by
          simp only [rotF, Nat.mod_add_mod]
          congr 1
          rw [show b + n - 1 + k = (b + (k - 1)) + n by omega, Nat.add_mod_right]
        rw [e2, ih (k - 1) (by omega) (by omega)]
        exact e
/-- The least of the rotations that begin at 0 or where a run begins is the least of all. -/
theorem least_same {g : Nat → UInt8} {n bS bI : Nat} (hS : bS < n) (hI : bI < n) (hminS : ∀ j, j < n → ¬ LtF n (rotF g n j) (rotF g n bS))
    (hminI : ∀ j, j < n → (j = 0 ∨ g j ≠ g ((j + n - 1) % n)) → ¬ LtF n (rotF g n j) (rotF g n bI)) : ∀ k, k < n → rotF g n bS k = rotF g n bI k := by
  rcases ltF_or (rotF g n bS) (rotF g n bI) n with h | h | h
  · exact h
  · by_cases hb : g bS = g ((bS + n - 1) % n)
    · have hc := inside_const hS hminS hb
      have hall : ∀ i, i < n → g i = rotF g n bS 0 := by
        intro i hi
        have := hc ((i + n - bS) % n) (Nat.mod_lt _ (by omega))
        rw [← this]
        simp only [rotF, Nat.add_mod_mod]
        rw [show bS + (i + n - bS) = i + n by omega, Nat.add_mod_right, Nat.mod_eq_of_lt hi]
      intro k hk
      rw [hc k hk]
      exact (hall _ (Nat.mod_lt _ (by omega))).symm
    · exact absurd h (hminI bS hS (.inr hb))
  · exact absurd h (hminS bI hI)
/-! Joined phases. -/
def stepJ (out : List (UInt8 × Nat)) (c : UInt8) : List (UInt8 × Nat) :=
  match out.getLast? with
  | some p => if p.1 = c then out.dropLast ++ [(c, p.2 + 1)] else out ++ [(c, 1)]
  | none => [(c, 1)]
def joinJ (l : List UInt8) : List (UInt8 × Nat) := l.foldl stepJ []
def expand (out : List (UInt8 × Nat)) : List UInt8 := out.flatMap fun p => List.replicate p.2 p.1
theorem expand_step (out : List (UInt8 × Nat)) (c : UInt8) : expand (stepJ out c) = expand out ++ [c] := by
  unfold stepJ
  split
  · rename_i p hp
    obtain ⟨ini, rfl⟩ := List.getLast?_eq_some_iff.1 hp
    split
    · rename_i he
      subst he
      simp only [List.dropLast_concat, expand, List.flatMap_append, List.flatMap_cons, List.flatMap_nil, List.append_nil, List.append_assoc]
      rw [List.replicate_succ']
    · simp [expand]
  · rename_i hn
    rw [List.getLast?_eq_none_iff] at hn
    subst hn
    simp [expand]
theorem expand_fold : ∀ (l : List UInt8) (out : List (UInt8 × Nat)), expand (l.foldl stepJ out) = expand out ++ l
  | [], out => by simp
  | c :: l, out => by rw [List.foldl_cons, expand_fold l, expand_step]; simp
theorem expand_join (l : List UInt8) : expand (joinJ l) = l := by
  unfold joinJ
  rw [expand_fold]
  rfl
theorem join_inj {l l' : List UInt8} (h : joinJ l = joinJ l') : l = l' := by
  rw [← expand_join l, h, expand_join]
theorem stepJ_len (out : List (UInt8 × Nat)) (c : UInt8) : (stepJ out c).length ≤ out.length + 1 := by
  unfold stepJ
  split
  · split
    · simp
    · simp
  · simp
theorem joinJ_snoc (l : List UInt8) (c : UInt8) : joinJ (l ++ [c]) = stepJ (joinJ l) c := by
  unfold joinJ
  rw [List.foldl_append]
  rfl
end Go.Proofs.Ytimfpnmcdicldaa
