/- The logarithm in thousandths: the plain law, with no program in sight. -/
import Derived.Test.YtffdipcogkhkmaaBase
namespace Go.Proofs.Ytffdipcogkhkmaa
open Go.RowKit
set_option linter.unusedVariables false
/-- How often a number can be divided by 10 till it is below 10 (fuel enough for what is asked here). -/
def lgF : Nat → Int → Int
  | 0, _ => 0
  | f + 1, m => if 10 ≤ m then lgF f (m / 10) + 1 else 0
/-- The digits before the last. -/
def lg (n : Int) : Int := lgF 20 n
def tens : Nat → Int
  | 0 => 1
  | k + 1 => 10 * tens k
theorem tens_pos : ∀ k, 1 ≤ tens k
  | 0 => by simp [tens]
  | k + 1 => by have := tens_pos k; simp only [tens]; omega
theorem lgF_nonneg : ∀ f m, 0 ≤ lgF f m
  | 0, _ => by simp [lgF]
  | f + 1, m => by
    unfold lgF
    split
    · have := lgF_nonneg f (m / 10); omega
    · omega
theorem lgF_le : ∀ (f : Nat) (m : Int), lgF f m ≤ f
  | 0, _ => by simp [lgF]
  | f + 1, m => by
    unfold lgF
    split
    · have := lgF_le f (m / 10); omega
    · omega
/-- One step more of fuel changes nothing, where the number is small enough. -/
theorem lgF_more : ∀ (f : Nat) (m : Int), m < tens (f + 1) → lgF (f + 1) m = lgF f m
  | 0, m, h => by
    simp only [tens] at h
    unfold lgF
    rw [if_neg (by omega)]
  | f + 1, m, h => by
    have e1 : lgF (f + 1 + 1) m = if 10 ≤ m then lgF (f + 1) (m / 10) + 1 else 0 := rfl
    have e2 : lgF (f + 1) m = if 10 ≤ m then lgF f (m / 10) + 1 else 0 := rfl
    rw [e1, e2]
    split
    · rw [lgF_more f (m / 10) (by
        have : tens (f + 1 + 1) = 10 * tens (f + 1) := rfl
        generalize tens (f + 1) = t at *
        omega)]
    · rfl
theorem lg_step {m : Int} (h : 10 ≤ m) (h2 : m < tens 20) : lg m = lg (m / 10) + 1 := by
  have e1 : lgF 20 m = if 10 ≤ m then lgF 19 (m / 10) + 1 else 0 := rfl
  have e2 := lgF_more 19 (m / 10) (by generalize tens (19 + 1) = t at *; omega)
  unfold lg
  rw [e1, if_pos h, ← e2]
theorem lg_small {m : Int} (h : m < 10) : lg m = 0 := by
  have e1 : lgF 20 m = if 10 ≤ m then lgF 19 (m / 10) + 1 else 0 := rfl
  unfold lg
  rw [e1, if_neg (by omega)]
theorem lg_nonneg (n : Int) : 0 ≤ lg n := lgF_nonneg 20 n
theorem lg_le (n : Int) : lg n ≤ 20 := lgF_le 20 n
theorem tens20 : tens 20 = 100000000000000000000 := by decide

/-- x times 10, k times. -/
def up : Nat → Int → Int
  | 0, x => x
  | k + 1, x => up k (x * 10)
/-- x by 10, k times. -/
def down : Nat → Int → Int
  | 0, x => x
  | k + 1, x => down k (x / 10)
/-- The number with nine digits. -/
def nrm (n : Int) : Int := if lg n ≤ 8 then up (8 - lg n).toNat n else down (lg n - 8).toNat n

/-- One step of a digit's search. -/
def stepD (x : Int) (p : Int × Int) : Int × Int := if 1000000000 ≤ p.1 * x / 100000000 then (p.1 * x / 100000000 / 10, p.2 + 1) else (p.1 * x / 100000000, p.2)
def digs (x : Int) : Nat → Int × Int → Int × Int
  | 0, p => p
  | k + 1, p => digs x k (stepD x p)
/-- One digit more. -/
def rnd (p : Int × Int) : Int × Int := (10 * p.1 + (digs p.2 10 (100000000, 0)).2, (digs p.2 10 (100000000, 0)).1)
def rnds : Nat → Int × Int → Int × Int
  | 0, p => p
  | k + 1, p => rnds k (rnd p)
/-- 1000 times the decimal logarithm. -/
def tenL (n : Int) : Int := (rnds 3 (lg n, nrm n)).1

/-! Bounds. -/
def NineD (x : Int) : Prop := 100000000 ≤ x ∧ x ≤ 999999999
theorem mul_bd {x y : Int} (hx : NineD x) (hy : NineD y) : 10000000000000000 ≤ y * x ∧ y * x ≤ 999999998000000001 := by
  obtain ⟨a, b⟩ := hx
  obtain ⟨c, d⟩ := hy
  have h1 : 100000000 * 100000000 ≤ y * x := Int.mul_le_mul c a (by omega) (by omega)
  have h2 : y * x ≤ 999999999 * 999999999 := Int.mul_le_mul d b (by omega) (by omega)
  omega
theorem stepD_bd {x : Int} {p : Int × Int} (hx : NineD x) (hp : NineD p.1) (hd : 0 ≤ p.2) : NineD (stepD x p).1 ∧ 0 ≤ (stepD x p).2 ∧ p.2 ≤ (stepD x p).2 ∧ (stepD x p).2 ≤ p.2 + 1 := by
  obtain ⟨h1, h2⟩ := mul_bd hx hp
  unfold stepD
  generalize p.1 * x = z at *
  split <;> refine ⟨⟨?_, ?_⟩, ?_, ?_, ?_⟩ <;> simp only <;> omega
theorem digs_bd {x : Int} (hx : NineD x) : ∀ (k : Nat) (p : Int × Int), NineD p.1 → 0 ≤ p.2 → NineD (digs x k p).1 ∧ p.2 ≤ (digs x k p).2 ∧ (digs x k p).2 ≤ p.2 + k
  | 0, p, h, hd => ⟨h, Int.le_refl _, by simp [digs]⟩
  | k + 1, p, h, hd => by
    obtain ⟨a, b, c, d⟩ := stepD_bd hx h hd
    obtain ⟨e, f, g⟩ := digs_bd hx k (stepD x p) a b
    refine ⟨e, Int.le_trans c f, ?_⟩
    show (digs x k (stepD x p)).2 ≤ p.2 + ((k + 1 : Nat) : Int)
    omega
theorem nine_one : NineD 100000000 := ⟨by omega, by omega⟩

/-- The number with nine digits has nine digits. -/
theorem lgF_tens : ∀ (f : Nat) (m : Int), 1 ≤ m → m < tens (f + 1) → ∃ r : Nat, lgF f m = r ∧ r ≤ f ∧ tens r ≤ m ∧ m < tens (r + 1)
  | 0, m, h, h2 => ⟨0, rfl, Nat.le_refl _, by simpa [tens] using h, h2⟩
  | f + 1, m, h, h2 => by
    have e2 : lgF (f + 1) m = if 10 ≤ m then lgF f (m / 10) + 1 else 0 := rfl
    by_cases hm : 10 ≤ m
    · obtain ⟨r, a, b, c, d⟩ := lgF_tens f (m / 10) (by omega) (by
        have : tens (f + 1 + 1) = 10 * tens (f + 1) := rfl
        generalize tens (f + 1) = t at *
        omega)
      refine ⟨r + 1, by rw [e2, if_pos hm, a]; rfl, by omega, ?_, ?_⟩
      · have : tens (r + 1) = 10 * tens r := rfl
        generalize tens r = t at *
        omega
      · have : tens (r + 1 + 1) = 10 * tens (r + 1) := rfl
        generalize tens (r + 1) = t at *
        omega
    · refine ⟨0, by rw [e2, if_neg hm]; rfl, by omega, by simpa [tens] using h, by simp [tens]; omega⟩
theorem lg_tens {n : Int} (h : 1 ≤ n) (h2 : n ≤ 1000000000000) : ∃ r : Nat, lg n = r ∧ r ≤ 12 ∧ tens r ≤ n ∧ n < tens (r + 1) := by
  obtain ⟨r, a, b, c, d⟩ := lgF_tens 20 n h (by have : tens (20 + 1) = 1000000000000000000000 := by decide
                                                omega)
  refine ⟨r, a, ?_, c, d⟩
  rcases Nat.lt_or_ge 12 r with h' | h'
  · exfalso
    have : tens 13 ≤ tens r := by
      clear a d c
      induction r with
      | zero => omega
      | succ r ih =>
        by_cases e : r = 12
        · subst e; exact Int.le_refl _
        · have := ih (by omega) (by omega)
          have h3 : tens (r + 1) = 10 * tens r := rfl
          have h4 := tens_pos r
          generalize tens r = t at *
          omega
    have e13 : tens 13 = 10000000000000 := by decide
    omega
  · exact h'
theorem up_eq : ∀ (k : Nat) (x : Int), up k x = x * tens k
  | 0, x => by simp [up, tens]
  | k + 1, x => by
    rw [show up (k + 1) x = up k (x * 10) from rfl, up_eq k, show tens (k + 1) = 10 * tens k from rfl, Int.mul_assoc]
theorem tens_add : ∀ (a b : Nat), tens (a + b) = tens a * tens b
  | 0, b => by simp [tens]
  | a + 1, b => by
    rw [show a + 1 + b = (a + b) + 1 by omega, show tens (a + b + 1) = 10 * tens (a + b) from rfl, tens_add a b, show tens (a + 1) = 10 * tens a from rfl, Int.mul_assoc]
theorem down_bd : ∀ (k : Nat) (x : Int) (r : Nat), tens (r + k) ≤ x → x < tens (r + 1 + k) → tens r ≤ down k x ∧ down k x < tens (r + 1)
  | 0, x, r, h, h2 => ⟨h, h2⟩
  | k + 1, x, r, h, h2 => by
    refine down_bd k (x / 10) r ?_ ?_
    · have : tens (r + (k + 1)) = 10 * tens (r + k) := rfl
      generalize tens (r + k) = t at *
      omega
    · have : tens (r + 1 + (k + 1)) = 10 * tens (r + 1 + k) := rfl
      generalize tens (r + 1 + k) = t at *
      omega
theorem nrm_bd {n : Int} (h : 1 ≤ n) (h2 : n ≤ 1000000000000) : NineD (nrm n) := by
  obtain ⟨r, a, b, c, d⟩ := lg_tens h h2
  unfold nrm
  rw [a]
  have e8 : tens 8 = 100000000 := by decide
  have e9 : tens 9 = 1000000000 := by decide
  split
  · rename_i hr
    rw [up_eq, show ((8 : Int) - r).toNat = 8 - r by omega]
    have t1 : tens r * tens (8 - r) = tens 8 := by rw [← tens_add]; congr 1; omega
    have t2 : tens (r + 1) * tens (8 - r) = tens 9 := by rw [← tens_add]; congr 1; omega
    have hp := tens_pos (8 - r)
    have k1 : tens r * tens (8 - r) ≤ n * tens (8 - r) := Int.mul_le_mul_of_nonneg_right c (by omega)
    have k2 : n * tens (8 - r) < tens (r + 1) * tens (8 - r) := Int.mul_lt_mul_of_pos_right d (by omega)
    exact ⟨by omega, by omega⟩
  · rename_i hr
    have hk : ((r : Int) - 8).toNat = r - 8 := by omega
    rw [hk]
    have := down_bd (r - 8) n 8 (by rw [show 8 + (r - 8) = r by omega]; exact c) (by rw [show 8 + 1 + (r - 8) = r + 1 by omega]; exact d)
    exact ⟨by omega, by have h9 : tens (8 + 1) = 1000000000 := by decide
                        omega⟩
theorem up_le : ∀ (k : Nat) (x : Int), 0 ≤ x → x ≤ up k x
  | 0, x, h => Int.le_refl _
  | k + 1, x, h => by
    have := up_le k (x * 10) (by omega)
    show x ≤ up k (x * 10)
    omega

/-! Monotony. -/
/-- Before, or at the same place: a number and its digits. -/
def Lex (p q : Int × Int) : Prop := p.2 < q.2 ∨ p.2 = q.2 ∧ p.1 ≤ q.1
theorem mul_mono2 {x x' y y' : Int} (hx : NineD x) (hy : NineD y) (h : x ≤ x') (h' : y ≤ y') : y * x ≤ y' * x' :=
  Int.mul_le_mul h' h (by have := hx.1; omega) (by have := hy.1; omega)
theorem stepD_mono {x x' : Int} {p q : Int × Int} (hx : NineD x) (hx' : NineD x') (hp : NineD p.1) (hq : NineD q.1) (h : x ≤ x') (hl : Lex p q) : Lex (stepD x p) (stepD x' q) := by
  obtain ⟨a1, a2⟩ := mul_bd hx hp
  obtain ⟨b1, b2⟩ := mul_bd hx' hq
  rcases hl with hl | ⟨h1, h2⟩
  · -- the second is a decade ahead
    have c1 : p.1 * x ≤ 999999999 * x := Int.mul_le_mul_of_nonneg_right hp.2 (by have := hx.1; omega)
    have c2 : 100000000 * x' ≤ q.1 * x' := Int.mul_le_mul_of_nonneg_right hq.1 (by have := hx'.1; omega)
    unfold Lex stepD
    generalize p.1 * x = z at *
    generalize q.1 * x' = z' at *
    split <;> split <;> simp only <;> omega
  · have c := mul_mono2 hx hp h h2
    unfold Lex stepD
    generalize p.1 * x = z at *
    generalize q.1 * x' = z' at *
    split <;> split <;> simp only <;> omega
theorem digs_mono {x x' : Int} (hx : NineD x) (hx' : NineD x') (h : x ≤ x') : ∀ (k : Nat) (p q : Int × Int), NineD p.1 → NineD q.1 → 0 ≤ p.2 → 0 ≤ q.2 → Lex p q → Lex (digs x k p) (digs x' k q)
  | 0, _, _, _, _, _, _, hl => hl
  | k + 1, p, q, hp, hq, hp2, hq2, hl => by
    obtain ⟨a, b, _⟩ := stepD_bd hx hp hp2
    obtain ⟨c, d, _⟩ := stepD_bd hx' hq hq2
    exact digs_mono hx hx' h k _ _ a c b d (stepD_mono hx hx' hp hq h hl)
/-- Digits first, then the rest. -/
def Lex2 (p q : Int × Int) : Prop := p.1 < q.1 ∨ p.1 = q.1 ∧ p.2 ≤ q.2
theorem digs_top : digs 999999999 10 (100000000, 0) = (999999990, 9) := by decide +kernel
theorem digs_nine {x : Int} (hx : NineD x) : NineD (digs x 10 (100000000, 0)).1 ∧ 0 ≤ (digs x 10 (100000000, 0)).2 ∧ (digs x 10 (100000000, 0)).2 ≤ 9 := by
  obtain ⟨a, b, _⟩ := digs_bd hx 10 (100000000, 0) nine_one (Int.le_refl _)
  have h9 : NineD 999999999 := ⟨by omega, by omega⟩
  have hl := digs_mono hx h9 hx.2 10 (100000000, 0) (100000000, 0) nine_one nine_one (Int.le_refl _) (Int.le_refl _) (.inr ⟨rfl, Int.le_refl _⟩)
  rw [digs_top] at hl
  refine ⟨a, b, ?_⟩
  rcases hl with h | ⟨h, _⟩
  · have : (digs x 10 (100000000, 0)).2 < 9 := h
    omega
  · have : (digs x 10 (100000000, 0)).2 = 9 := h
    omega
theorem rnd_bd {p : Int × Int} (hp : NineD p.2) : NineD (rnd p).2 ∧ 10 * p.1 ≤ (rnd p).1 ∧ (rnd p).1 ≤ 10 * p.1 + 9 := by
  obtain ⟨a, b, c⟩ := digs_nine hp
  exact ⟨a, by show 10 * p.1 ≤ 10 * p.1 + _; omega, by show 10 * p.1 + _ ≤ _; omega⟩
theorem rnd_mono {p q : Int × Int} (hp : NineD p.2) (hq : NineD q.2) (h : Lex2 p q) : Lex2 (rnd p) (rnd q) := by
  obtain ⟨_, a, b⟩ := rnd_bd hp
  obtain ⟨_, c, d⟩ := rnd_bd hq
  rcases h with h | ⟨h1, h2⟩
  · exact .inl (by omega)
  · have hl := digs_mono hp hq h2 10 (100000000, 0) (100000000, 0) nine_one nine_one (Int.le_refl _) (Int.le_refl _) (.inr ⟨rfl, Int.le_refl _⟩)
    unfold Lex2 rnd
    rcases hl with h | ⟨h, h'⟩
    · left; simp only; omega
    · right; exact ⟨by simp only; omega, h'⟩
theorem rnds_bd : ∀ (k : Nat) (p : Int × Int), NineD p.2 → NineD (rnds k p).2
  | 0, p, h => h
  | k + 1, p, h => rnds_bd k (rnd p) (rnd_bd h).1
theorem rnds_mono : ∀ (k : Nat) (p q : Int × Int), NineD p.2 → NineD q.2 → Lex2 p q → Lex2 (rnds k p) (rnds k q)
  | 0, _, _, _, _, h => h
  | k + 1, p, q, hp, hq, h => rnds_mono k _ _ (rnd_bd hp).1 (rnd_bd hq).1 (rnd_mono hp hq h)
theorem up_mono : ∀ (k : Nat) (x y : Int), x ≤ y → up k x ≤ up k y
  | 0, _, _, h => h
  | k + 1, x, y, h => up_mono k (x * 10) (y * 10) (by omega)
theorem down_mono : ∀ (k : Nat) (x y : Int), x ≤ y → down k x ≤ down k y
  | 0, _, _, h => h
  | k + 1, x, y, h => down_mono k (x / 10) (y / 10) (by omega)
theorem tens_mono : ∀ (a b : Nat), a ≤ b → tens a ≤ tens b
  | a, 0, h => by obtain rfl : a = 0 := by omega
                  exact Int.le_refl _
  | a, b + 1, h => by
    by_cases e : a = b + 1
    · subst e; exact Int.le_refl _
    · have := tens_mono a b (by omega)
      have h3 : tens (b + 1) = 10 * tens b := rfl
      have h4 := tens_pos b
      omega
theorem nrm_mono {m n : Int} (h0 : 1 ≤ m) (h : m ≤ n) (h1 : n ≤ 1000000000000) : Lex2 (lg m, nrm m) (lg n, nrm n) := by
  obtain ⟨r, a, b, c, d⟩ := lg_tens h0 (by omega)
  obtain ⟨s, a', b', c', d'⟩ := lg_tens (show 1 ≤ n by omega) h1
  by_cases hrs : r = s
  · subst hrs
    right
    refine ⟨by rw [a, a'], ?_⟩
    show nrm m ≤ nrm n
    unfold nrm
    rw [a, a']
    split
    · exact up_mono _ _ _ h
    · exact down_mono _ _ _ h
  · left
    show lg m < lg n
    rw [a, a']
    rcases Nat.lt_or_ge r s with h' | h'
    · omega
    · exfalso
      have := tens_mono (s + 1) r (by omega)
      omega
/-- **The logarithm does not fall.** -/
theorem tenL_mono {m n : Int} (h0 : 1 ≤ m) (h : m ≤ n) (h1 : n ≤ 1000000000000) : tenL m ≤ tenL n := by
  have := rnds_mono 3 _ _ (nrm_bd h0 (by omega)) (nrm_bd (show 1 ≤ n by omega) h1) (nrm_mono h0 h h1)
  unfold tenL
  rcases this with h | ⟨h, _⟩ <;> omega
theorem tenL_bd {n : Int} (h0 : 1 ≤ n) (h1 : n ≤ 1000000000000) : 0 ≤ tenL n ∧ tenL n ≤ 21000 := by
  have hb := nrm_bd h0 h1
  have g0 := lg_nonneg n
  have g1 := lg_le n
  obtain ⟨a1, a2, a3⟩ := rnd_bd (p := (lg n, nrm n)) hb
  obtain ⟨b1, b2, b3⟩ := rnd_bd a1
  obtain ⟨c1, c2, c3⟩ := rnd_bd b1
  show 0 ≤ (rnd (rnd (rnd (lg n, nrm n)))).1 ∧ (rnd (rnd (rnd (lg n, nrm n)))).1 ≤ 21000
  simp only at a2 a3
  exact ⟨by omega, by omega⟩
/-- **Ten times as much: a thousand more.** -/
theorem rnd_plus (r x c : Int) : rnd (r + c, x) = ((rnd (r, x)).1 + 10 * c, (rnd (r, x)).2) := by
  unfold rnd
  simp only [Prod.mk.injEq, and_true]
  omega
theorem rnd3_plus (r x c : Int) : (rnd (rnd (rnd (r + c, x)))).1 = (rnd (rnd (rnd (r, x)))).1 + 1000 * c := by
  rw [rnd_plus]
  obtain ⟨r1, x1⟩ := rnd (r, x)
  rw [rnd_plus]
  obtain ⟨r2, x2⟩ := rnd (r1, x1)
  rw [rnd_plus]
  obtain ⟨r3, x3⟩ := rnd (r2, x2)
  show r3 + 10 * (10 * (10 * c)) = r3 + 1000 * c
  omega
theorem down_ten {n : Int} : ∀ k, down (k + 1) (10 * n) = down k n := fun k => by
  show down k (10 * n / 10) = down k n
  congr 1; omega
theorem tenL_ten {n : Int} (h0 : 1 ≤ n) (h1 : n ≤ 100000000000) : tenL (10 * n) = tenL n + 1000 := by
  have hl : lg (10 * n) = lg n + 1 := by
    have := lg_step (m := 10 * n) (by omega) (by rw [tens20]; omega)
    rw [this]; congr 1; congr 1; omega
  have hn : nrm (10 * n) = nrm n := by
    unfold nrm
    rw [hl]
    have g0 := lg_nonneg n
    by_cases h8 : lg n + 1 ≤ 8
    · rw [if_pos h8, if_pos (show lg n ≤ 8 by omega)]
      have e : (8 - lg n).toNat = (8 - (lg n + 1)).toNat + 1 := by omega
      rw [e]
      show _ = up _ (n * 10)
      rw [Int.mul_comm]
    · rw [if_neg h8]
      by_cases h9 : lg n ≤ 8
      · rw [if_pos h9]
        have e1 : (lg n + 1 - 8).toNat = 0 + 1 := by omega
        have e2 : (8 - lg n).toNat = 0 := by omega
        rw [e1, e2, down_ten]; rfl
      · rw [if_neg h9]
        have e1 : (lg n + 1 - 8).toNat = (lg n - 8).toNat + 1 := by omega
        rw [e1, down_ten]
  unfold tenL
  rw [hl, hn]
  exact rnd3_plus (lg n) (nrm n) 1
end Go.Proofs.Ytffdipcogkhkmaa
