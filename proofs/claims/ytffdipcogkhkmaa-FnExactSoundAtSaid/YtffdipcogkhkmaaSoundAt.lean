/- SoundAt and NextBlast: the program and the reference. -/
import Derived.Test.YtffdipcogkhkmaaBlasts
import Derived.Test.YtffdipcogkhkmaaFogLaws
namespace Go.Proofs.Ytffdipcogkhkmaa
open Go Go.RowKit
theorem okFog_all {k b p pw : Int} (h : okFog k b p pw = true) : (1 ≤ k ∧ k ≤ 4) ∧ (1 ≤ b ∧ b ≤ 6) ∧ (2 * b * blastZ k ≤ p ∧ p ≤ 1200) := by
  simp only [okFog, Bool.and_eq_true] at h
  obtain ⟨⟨h1, h2⟩, _⟩ := h
  obtain ⟨h3, h4⟩ := shapeFog_yes h1
  exact ⟨h3, h4, inR_iff.1 h2⟩
/-- The code of an ask. -/
def askZ (k b p pw t : Int) : Int := if okFog k b p pw then (if inR t 0 1000000000000 then 0 else 2) else 1
set_option maxHeartbeats 2000000 in
theorem l10Ask_c (g : Nat) (k b p pw t : Int) (w : World) (c0 : w.cell? ⟨g, 0, none⟩ = some (.int .i64 k)) (c1 : w.cell? ⟨g, 1, none⟩ = some (.int .i64 b)) (c2 : w.cell? ⟨g, 2, none⟩ = some (.int .i64 p)) (c3 : w.cell? ⟨g, 3, none⟩ = some (.int .i64 pw)) :
    Calls Try.prog 71 #[.pointer (some ⟨g, 0, none⟩), .int .i64 t] w fun e w' => e = .returned (.int .i64 (askZ k b p pw t)) ∧ Below w.heap.size w w' := by
  have H := Lib.hid (l10Ok_c g k b p pw w (cell_lt c0) c0 c1 c2 c3)
  unfold askZ
  clear c0 c1 c2 c3
  cases v1 : okFog k b p pw <;> cases v2 : inR t 0 1000000000000
  all_goals
    have HV1 := Lib.hid v1
    have HV2 := Lib.hid v2
    clear v1 v2
    go_enter Try.func71, Try.ntmps71
    go_wp2_with fail
    refine H.out.mono ?_
    rintro e w1 ⟨rfl, hb1⟩
    rw [HV1.out]
    go_wp2_with (go_at_call 55; refine (l00In_v HV2.out _).mono ?_; rintro e _ ⟨rfl, rfl⟩)
    go_ret
    exact ⟨rfl, hb1⟩
set_option maxHeartbeats 2000000 in
theorem soundCode_c (k b p pw t : Int) (w : World) :
    Calls Try.prog 73 #[.agg #[.int .i64 k, .int .i64 b, .int .i64 p, .int .i64 pw], .int .i64 t] w fun e w' => e = .returned (.int .i64 (askZ k b p pw t)) ∧ Below w.heap.size w w' := by
  unfold askZ
  cases v1 : okFog k b p pw <;> cases v2 : inR t 0 1000000000000
  all_goals
    have HV1 := Lib.hid v1
    have HV2 := Lib.hid v2
    clear v1 v2
    go_enter Try.func73, Try.ntmps73
    go_wp2_with fail
    refine (validFog_c k b p pw _).mono ?_
    rintro e w1 ⟨rfl, hb1⟩
    rw [HV1.out]
    go_wp2_with (go_at_call 44; refine (within_v HV2.out _).mono ?_; rintro e _ ⟨rfl, rfl⟩)
    go_ret
    exact ⟨rfl, below_box hb1⟩

theorem quoRem {a b : Int} (ha : 0 ≤ a) (hb : 1 ≤ b) : 0 ≤ a / b ∧ a / b ≤ a ∧ 0 ≤ a % b ∧ a % b < b :=
  ⟨Int.ediv_nonneg ha (by omega), Int.ediv_le_self _ ha, Int.emod_nonneg _ (by omega), Int.emod_lt_of_pos _ (by omega)⟩
theorem okFog_per {k b p pw : Int} (h : okFog k b p pw = true) : (1 ≤ k ∧ k ≤ 4) ∧ (1 ≤ b ∧ b ≤ 6) ∧ 10 ≤ p ∧ p ≤ 1200 := by
  obtain ⟨hk, hb, h1, h2⟩ := okFog_all h
  have h5 := blastZ_pos hk
  have : 2 * 1 * 5 ≤ 2 * b * blastZ k := Int.mul_le_mul (by omega) h5 (by omega) (by omega)
  exact ⟨hk, hb, by omega, h2⟩
theorem askZ_yes {k b p pw t : Int} (h : askZ k b p pw t = 0) : okFog k b p pw = true ∧ 0 ≤ t ∧ t ≤ 1000000000000 := by
  unfold askZ at h
  split at h
  · rename_i h1
    split at h
    · rename_i h2
      exact ⟨h1, inR_iff.1 h2⟩
    · omega
  · omega
/-- Does a signal sound? -/
def hitB (L t : Int) (i : Nat) : Bool := decide (bP L i ≤ t) && decide (t < bQ L i)
def snB (L : Int) (n : Nat) (t : Int) : Bool := !allB n (fun i => !hitB L t i)
theorem snB_yes {L t : Int} {n i : Nat} (hi : i < n) (h : hitB L t i = true) : snB L n t = true := by
  unfold snB
  rw [allB_no hi (by rw [h]; rfl)]
  rfl
theorem snB_no {L t : Int} {n : Nat} (h : ∀ i, i < n → hitB L t i = false) : snB L n t = false := by
  unfold snB
  rw [allB_yes (fun i hi => by rw [h i hi]; rfl)]
  rfl
theorem bPQ_bd {L : Int} {i : Nat} (l0 : 0 ≤ L) (l1 : L ≤ 40) (hi : i < 6) : 0 ≤ bP L i ∧ bP L i ≤ 480 ∧ bP L i ≤ bQ L i ∧ bQ L i ≤ 520 := by
  obtain ⟨h0, h1⟩ := mul_bd (k := (i : Int)) (L := L) (by omega) (by omega) l0 l1
  unfold bP bQ
  omega
set_option maxHeartbeats 2000000 in
theorem specSoundAt_no (k b p pw t : Int) (h : askZ k b p pw t ≠ 0) (w : World) :
    Calls Try.prog 36 #[.agg #[.int .i64 k, .int .i64 b, .int .i64 p, .int .i64 pw], .int .i64 t] w fun e w' => e = .returned (.tuple #[.bool false, .int .i64 (askZ k b p pw t)]) ∧ Below w.heap.size w w' := by
  have hz : (askZ k b p pw t == 0) = false := by simpa using h
  have HC := Lib.hid (fun g W c0 c1 c2 c3 => l10Ask_c g k b p pw t W c0 c1 c2 c3)
  have hbd : 0 ≤ askZ k b p pw t ∧ askZ k b p pw t ≤ 2 := by unfold askZ; split <;> (try split) <;> omega
  generalize askZ k b p pw t = z at *
  go_enter Try.func36, Try.ntmps36
  go_wp2_with fail
  refine (HC.out _ _ (by simp [go_sem]) (by simp [go_sem]) (by simp [go_sem]) (by simp [go_sem])).mono ?_
  rintro e w1 ⟨rfl, hb1⟩
  go_wp2
  go_ret2
  exact ⟨rfl, below_box hb1⟩
set_option maxRecDepth 100000 in
set_option maxHeartbeats 4000000 in
theorem specSoundAt_yes (k b p pw t : Int) (h : askZ k b p pw t = 0) (w : World) :
    Calls Try.prog 36 #[.agg #[.int .i64 k, .int .i64 b, .int .i64 p, .int .i64 pw], .int .i64 t] w fun e w' => e = .returned (.tuple #[.bool (snB (blastZ k) b.toNat (t % p)), .int .i64 0]) ∧ Below w.heap.size w w' := by
  obtain ⟨hv, t0, t1⟩ := askZ_yes h
  obtain ⟨hk, hb, p0, p1⟩ := okFog_per hv
  obtain ⟨l0, l1⟩ := blastZ_40 hk
  obtain ⟨q1, q2, q3, q4⟩ := quoRem t0 (show 1 ≤ p by omega)
  have pz : (p == 0) = false := by simp; omega
  have HC := Lib.hid (fun g W c0 c1 c2 c3 => l10Ask_c g k b p pw t W c0 c1 c2 c3)
  rw [h] at HC
  have HL := Lib.hid (fun g W c0 c1 => l10Blasts_c g k b hk hb W c0 c1)
  generalize blastZ k = L at *
  clear h hv
  obtain ⟨n, rfl⟩ : ∃ n : Nat, b = (n : Int) := ⟨b.toNat, by omega⟩
  have hn : n ≤ 6 := by omega
  simp only [Int.toNat_natCast] at *
  have S1 := Lib.hid (fun (i : Nat) (hi : i < n) (h : hitB L (t % p) i = true) => snB_yes hi h)
  have S2 := Lib.hid (fun (h : ∀ i, i < n → hitB L (t % p) i = false) => snB_no h)
  generalize snB L n (t % p) = ans at *
  go_enter Try.func36, Try.ntmps36
  go_wp2_with fail
  refine (HC.out _ _ (by simp [go_sem]) (by simp [go_sem]) (by simp [go_sem]) (by simp [go_sem])).mono ?_
  rintro e w1 ⟨rfl, hb1⟩
  obtain ⟨hc, hf⟩ := bcell hb1
  have c0 : w1.cell? ⟨w.heap.size, 0, none⟩ = some (.int .i64 k) := (hc _ _ (by simp)).trans (by simp [go_sem])
  have c1 : w1.cell? ⟨w.heap.size, 1, none⟩ = some (.int .i64 n) := (hc _ _ (by simp)).trans (by simp [go_sem])
  have c2 : w1.cell? ⟨w.heap.size, 2, none⟩ = some (.int .i64 p) := (hc _ _ (by simp)).trans (by simp [go_sem])
  clear hc hf
  go_wp2_with fail
  refine (HL.out _ _ c0 c1).mono ?_
  rintro e w2 ⟨A, c, rfl, hP, hb2⟩
  obtain ⟨hc, hf⟩ := bcell hb2
  have d2 : w2.cell? ⟨w.heap.size, 2, none⟩ = some (.int .i64 p) := (hc _ _ (cell_lt c2)).trans c2
  clear hc hf c0 c1 c2
  have hbw := held_next (below_box hb1) hb2
  have HP := Lib.hid hP
  clear hP hb1 hb2
  go_wp2
  go_loop [8] (fun i => ∃ (q : Nat), q ≤ n ∧ i = .int .i64 q ∧ Hid (∀ i, i < q → hitB L (t % p) i = false)) (fun i => n - (intOf i).toNat)
  case atStart => exact ⟨0, by omega, rfl, Lib.hid (fun i hi => by omega)⟩
  case round =>
    obtain ⟨q, hq, rfl, hh⟩ := hrel
    by_cases hlt : q < n
    · obtain ⟨g, m, rfl, e1, e2, e3, _⟩ := HP.out.at_ hlt
      obtain ⟨b0, b1, b2, b3⟩ := bPQ_bd (L := L) (i := q) l0 l1 (by omega)
      have hH : hitB L (t % p) q = (decide (bP L q ≤ t % p) && decide (t % p < bQ L q)) := rfl
      generalize t % p = r at *
      generalize bP L q = P at *
      generalize bQ L q = Q at *
      by_cases s1 : P ≤ r <;> by_cases s2 : r < Q
      all_goals
        simp only [s1, s2, decide_true, decide_false, Bool.and_true, Bool.and_false] at hH
        have HH := Lib.hid hH
        clear hH
        go_wp2
        first
          | (go_roundw
             case rel => exact ⟨q + 1, by omega, by go_num, Lib.hid (fun i hi => if e : i = q then e ▸ HH.out else hh.out i (by omega))⟩
             case measure => simp [intOf]; omega)
          | (go_ret2
             exact ⟨by rw [S1.out q hlt HH.out]; rfl, hbw⟩)
    · obtain rfl : q = n := by omega
      go_wp2
      go_ret2
      exact ⟨by rw [S2.out hh.out]; rfl, hbw⟩

theorem hit_in {L r : Int} {i : Nat} : inR r (bP L i) (bQ L i - 1) = hitB L r i := by
  unfold inR hitB
  by_cases h : r < bQ L i
  · have : r ≤ bQ L i - 1 := by omega
    simp [h, this]
  · have : ¬ r ≤ bQ L i - 1 := by omega
    simp [h, this]
set_option maxHeartbeats 2000000 in
theorem implSoundAt_no (k b p pw t : Int) (h : askZ k b p pw t ≠ 0) (w : World) :
    Calls Try.prog 38 #[.agg #[.int .i64 k, .int .i64 b, .int .i64 p, .int .i64 pw], .int .i64 t] w fun e w' => e = .returned (.tuple #[.bool false, .int .i64 (askZ k b p pw t)]) ∧ Below w.heap.size w w' := by
  have hz : (askZ k b p pw t == 0) = false := by simpa using h
  have HC := Lib.hid (fun W => soundCode_c k b p pw t W)
  have hbd : 0 ≤ askZ k b p pw t ∧ askZ k b p pw t ≤ 2 := by unfold askZ; split <;> (try split) <;> omega
  generalize askZ k b p pw t = z at *
  go_enter Try.func38, Try.ntmps38
  go_wp2_with fail
  refine (HC.out _).mono ?_
  rintro e w1 ⟨rfl, hb1⟩
  go_wp2
  go_ret2
  exact ⟨rfl, below_box hb1⟩
set_option maxRecDepth 100000 in
set_option maxHeartbeats 4000000 in
theorem implSoundAt_yes (k b p pw t : Int) (h : askZ k b p pw t = 0) (w : World) :
    Calls Try.prog 38 #[.agg #[.int .i64 k, .int .i64 b, .int .i64 p, .int .i64 pw], .int .i64 t] w fun e w' => e = .returned (.tuple #[.bool (snB (blastZ k) b.toNat (t % p)), .int .i64 0]) ∧ Below w.heap.size w w' := by
  obtain ⟨hv, t0, t1⟩ := askZ_yes h
  obtain ⟨hk, hb, p0, p1⟩ := okFog_per hv
  obtain ⟨l0, l1⟩ := blastZ_40 hk
  obtain ⟨q1, q2, q3, q4⟩ := quoRem t0 (show 1 ≤ p by omega)
  have pz : (p == 0) = false := by simp; omega
  have HC := Lib.hid (fun W => soundCode_c k b p pw t W)
  rw [h] at HC
  have HL := Lib.hid (fun W => blasts_c k b p pw hk hb W)
  generalize blastZ k = L at *
  clear h hv
  obtain ⟨n, rfl⟩ : ∃ n : Nat, b = (n : Int) := ⟨b.toNat, by omega⟩
  have hn : n ≤ 6 := by omega
  simp only [Int.toNat_natCast] at *
  have S1 := Lib.hid (fun (i : Nat) (hi : i < n) (h : hitB L (t % p) i = true) => snB_yes hi h)
  have S2 := Lib.hid (fun (h : ∀ i, i < n → hitB L (t % p) i = false) => snB_no h)
  generalize snB L n (t % p) = ans at *
  go_enter Try.func38, Try.ntmps38
  go_wp2_with fail
  refine (HC.out _).mono ?_
  rintro e w1 ⟨rfl, hb1⟩
  obtain ⟨hc, hf⟩ := bcell hb1
  have c0 : w1.cell? ⟨w.heap.size, 0, none⟩ = some (.int .i64 k) := (hc _ _ (by simp)).trans (by simp [go_sem])
  have c1 : w1.cell? ⟨w.heap.size, 1, none⟩ = some (.int .i64 n) := (hc _ _ (by simp)).trans (by simp [go_sem])
  have c2 : w1.cell? ⟨w.heap.size, 2, none⟩ = some (.int .i64 p) := (hc _ _ (by simp)).trans (by simp [go_sem])
  have c3 : w1.cell? ⟨w.heap.size, 3, none⟩ = some (.int .i64 pw) := (hc _ _ (by simp)).trans (by simp [go_sem])
  clear hc hf
  go_wp2_with fail
  refine (HL.out _).mono ?_
  rintro e w2 ⟨A, c, rfl, hP, hb2⟩
  obtain ⟨hc, hf⟩ := bcell hb2
  have d2 : w2.cell? ⟨w.heap.size, 2, none⟩ = some (.int .i64 p) := (hc _ _ (cell_lt c2)).trans c2
  have D2 : ∀ y : Aft w2, y.w1.cell? ⟨w.heap.size, 2, none⟩ = some (.int .i64 p) := fun y => y.cell (cell_lt d2) d2
  clear hc hf c0 c1 c2 c3
  have hbw := held_next (below_box hb1) hb2
  have HP := Lib.hid hP
  clear hP hb1 hb2
  go_wp2
  go_loopw [18] (fun i wr => ∃ (q : Nat) (x : Aft w2), q ≤ n ∧ i = .int .i64 q ∧ wr = x.w1 ∧ Hid (∀ i, i < q → hitB L (t % p) i = false)) (fun i _ => n - (intOf i).toNat)
  case atStart => exact ⟨0, ⟨w2, Below.refl _ _⟩, by omega, rfl, rfl, Lib.hid (fun i hi => by omega)⟩
  case round =>
    obtain ⟨q, x, hq, rfl, rfl, hh⟩ := hrel
    by_cases hlt : q < n
    · obtain ⟨g, m, rfl, e1, e2, e3, _⟩ := HP.out.at_ hlt
      obtain ⟨b0, b1, b2, b3⟩ := bPQ_bd (L := L) (i := q) l0 l1 (by omega)
      have E1 : ∀ y : Aft w2, y.w1.cell? ⟨g, q, none⟩ = _ := fun y => y.cell (cell_lt e1) e1
      have E2 : ∀ y : Aft w2, y.w1.cell? ⟨m, 0, none⟩ = _ := fun y => y.cell (cell_lt e2) e2
      have E3 : ∀ y : Aft w2, y.w1.cell? ⟨m, 1, none⟩ = _ := fun y => y.cell (cell_lt e3) e3
      have hH := hit_in (L := L) (r := t % p) (i := q)
      clear e1 e2 e3 d2
      generalize bP L q = P at *
      generalize bQ L q = Q at *
      cases hs : hitB L (t % p) q
      all_goals
        rw [hs] at hH
        have HH := Lib.hid hs
        have HV := Lib.hid (fun W => within_v hH W)
        clear hs hH
        go_wp2
        refine wp_region_aftx x (by kernel_rfl) (by kernel_rfl) ?_
        repeat (go_big_quiet_step (first
          | (go_at_call 44; exact Aft.same (HV.out _))))
        refine wpQuiet_nil ?_
        intro z
        go_wp2
        first
          | (go_roundw
             case rel => exact ⟨q + 1, z, by omega, by go_num, rfl, Lib.hid (fun i hi => if e : i = q then e ▸ HH.out else hh.out i (by omega))⟩
             case measure => simp [intOf]; omega)
          | (go_ret2
             exact ⟨by rw [S1.out q hlt HH.out]; rfl, held_next hbw z.below⟩)
    · obtain rfl : q = n := by omega
      go_wp2
      go_ret2
      exact ⟨by rw [S2.out hh.out]; rfl, held_next hbw x.below⟩

/-- The next blast. -/
def nbF (L : Int) (n : Nat) (B t p : Int) : Int := ((List.range n).find? (fun i => decide (t ≤ B + bP L i))).elim (B + p) (fun i => B + bP L i)
theorem nb_hit {L B t p : Int} {n i : Nat} (hi : i < n) (h : t ≤ B + bP L i) (hj : ∀ j, j < i → ¬ t ≤ B + bP L j) : nbF L n B t p = B + bP L i := by
  have : (List.range n).find? (fun i => decide (t ≤ B + bP L i)) = some i := List.find?_range_eq_some.2 ⟨by simpa using h, by simpa using hi, fun j q => by simpa using hj j q⟩
  unfold nbF
  rw [this]
  rfl
theorem nb_none {L B t p : Int} {n : Nat} (hj : ∀ j, j < n → ¬ t ≤ B + bP L j) : nbF L n B t p = B + p := by
  have : (List.range n).find? (fun i => decide (t ≤ B + bP L i)) = none := List.find?_range_eq_none.2 (fun j q => by simpa using hj j q)
  unfold nbF
  rw [this]
  rfl

set_option maxHeartbeats 2000000 in
theorem specNextBlast_no (k b p pw t : Int) (h : askZ k b p pw t ≠ 0) (w : World) :
    Calls Try.prog 39 #[.agg #[.int .i64 k, .int .i64 b, .int .i64 p, .int .i64 pw], .int .i64 t] w fun e w' => e = .returned (.tuple #[.int .i64 0, .int .i64 (askZ k b p pw t)]) ∧ Below w.heap.size w w' := by
  have hz : (askZ k b p pw t == 0) = false := by simpa using h
  have HC := Lib.hid (fun g W c0 c1 c2 c3 => l10Ask_c g k b p pw t W c0 c1 c2 c3)
  have hbd : 0 ≤ askZ k b p pw t ∧ askZ k b p pw t ≤ 2 := by unfold askZ; split <;> (try split) <;> omega
  generalize askZ k b p pw t = z at *
  go_enter Try.func39, Try.ntmps39
  go_wp2_with fail
  refine (HC.out _ _ (by simp [go_sem]) (by simp [go_sem]) (by simp [go_sem]) (by simp [go_sem])).mono ?_
  rintro e w1 ⟨rfl, hb1⟩
  go_wp2
  go_ret2
  exact ⟨rfl, below_box hb1⟩
set_option maxRecDepth 100000 in
set_option maxHeartbeats 4000000 in
theorem specNextBlast_yes (k b p pw t : Int) (h : askZ k b p pw t = 0) (w : World) :
    Calls Try.prog 39 #[.agg #[.int .i64 k, .int .i64 b, .int .i64 p, .int .i64 pw], .int .i64 t] w fun e w' => e = .returned (.tuple #[.int .i64 (nbF (blastZ k) b.toNat (t - t % p) t p), .int .i64 0]) ∧ Below w.heap.size w w' := by
  obtain ⟨hv, t0, t1⟩ := askZ_yes h
  obtain ⟨hk, hb, p0, p1⟩ := okFog_per hv
  obtain ⟨l0, l1⟩ := blastZ_40 hk
  obtain ⟨q1, q2, q3, q4⟩ := quoRem t0 (show 1 ≤ p by omega)
  have q5 : t % p ≤ t := by have := Int.mul_ediv_add_emod t p; have := Int.mul_nonneg (show 0 ≤ p by omega) q1; omega
  have pz : (p == 0) = false := by simp; omega
  have HC := Lib.hid (fun g W c0 c1 c2 c3 => l10Ask_c g k b p pw t W c0 c1 c2 c3)
  rw [h] at HC
  have HL := Lib.hid (fun g W c0 c1 => l10Blasts_c g k b hk hb W c0 c1)
  generalize blastZ k = L at *
  clear h hv
  obtain ⟨n, rfl⟩ : ∃ n : Nat, b = (n : Int) := ⟨b.toNat, by omega⟩
  have hn : n ≤ 6 := by omega
  simp only [Int.toNat_natCast] at *
  have hnb1 := Lib.hid (fun i hi h hj => nb_hit (L := L) (B := t - t % p) (t := t) (p := p) (n := n) (i := i) hi h hj)
  have hnb2 := Lib.hid (fun hj => nb_none (L := L) (B := t - t % p) (t := t) (p := p) (n := n) hj)
  generalize nbF L n (t - t % p) t p = ans at *
  go_enter Try.func39, Try.ntmps39
  go_wp2_with fail
  refine (HC.out _ _ (by simp [go_sem]) (by simp [go_sem]) (by simp [go_sem]) (by simp [go_sem])).mono ?_
  rintro e w1 ⟨rfl, hb1⟩
  obtain ⟨hc, hf⟩ := bcell hb1
  have c0 : w1.cell? ⟨w.heap.size, 0, none⟩ = some (.int .i64 k) := (hc _ _ (by simp)).trans (by simp [go_sem])
  have c1 : w1.cell? ⟨w.heap.size, 1, none⟩ = some (.int .i64 n) := (hc _ _ (by simp)).trans (by simp [go_sem])
  have c2 : w1.cell? ⟨w.heap.size, 2, none⟩ = some (.int .i64 p) := (hc _ _ (by simp)).trans (by simp [go_sem])
  have c3 : w1.cell? ⟨w.heap.size, 3, none⟩ = some (.int .i64 pw) := (hc _ _ (by simp)).trans (by simp [go_sem])
  clear hc hf
  go_wp2_with fail
  refine (HL.out _ _ c0 c1).mono ?_
  rintro e w2 ⟨A, c, rfl, hP, hb2⟩
  obtain ⟨hc, hf⟩ := bcell hb2
  have d2 : w2.cell? ⟨w.heap.size, 2, none⟩ = some (.int .i64 p) := (hc _ _ (cell_lt c2)).trans c2
  clear hc hf c0 c1 c2 c3
  have hbw := held_next (below_box hb1) hb2
  have HP := Lib.hid hP
  clear hP hb1 hb2
  go_wp2
  generalize t % p = r at *
  go_loop [9] (fun i => ∃ (q : Nat), q ≤ n ∧ i = .int .i64 q ∧ Hid (∀ i, i < q → ¬ t ≤ t - r + bP L i)) (fun i => n - (intOf i).toNat)
  case atStart => exact ⟨0, by omega, rfl, Lib.hid (fun i hi => by omega)⟩
  case round =>
    obtain ⟨q, hq, rfl, hh⟩ := hrel
    by_cases hlt : q < n
    · obtain ⟨g, m, rfl, e1, e2, e3, _⟩ := HP.out.at_ hlt
      obtain ⟨b0, b1, b2, b3⟩ := bPQ_bd (L := L) (i := q) l0 l1 (by omega)
      have hq' := Lib.hid (hnb1.out q hlt)
      have hG := Lib.hid (show ∀ i : Nat, i < q + 1 → (¬ t ≤ t - r + bP L q) → ¬ t ≤ t - r + bP L i from fun i hi h => by
        by_cases e : i = q
        · subst e; exact h
        · exact hh.out i (by omega))
      generalize bP L q = P at *
      by_cases s1 : t ≤ t - r + P
      · have HA := Lib.hid (hq'.out s1 (fun j h => by have := hh.out j h; omega))
        clear hq' hG
        go_wp2
        go_ret2
        exact ⟨by rw [HA.out]; rfl, hbw⟩
      · have HG := Lib.hid (fun (i : Nat) (hi : i < q + 1) => hG.out i hi s1)
        clear hq' hG
        go_wp2
        go_roundw
        case rel => exact ⟨q + 1, by omega, by go_num, HG⟩
        case measure => simp [intOf]; omega
    · obtain rfl : q = n := by omega
      have HA := Lib.hid (hnb2.out (fun j h => by have := hh.out j h; omega))
      go_wp2
      go_ret2
      exact ⟨by rw [HA.out]; rfl, hbw⟩

set_option maxHeartbeats 2000000 in
theorem implNextBlast_no (k b p pw t : Int) (h : askZ k b p pw t ≠ 0) (w : World) :
    Calls Try.prog 40 #[.agg #[.int .i64 k, .int .i64 b, .int .i64 p, .int .i64 pw], .int .i64 t] w fun e w' => e = .returned (.tuple #[.int .i64 0, .int .i64 (askZ k b p pw t)]) ∧ Below w.heap.size w w' := by
  have hz : (askZ k b p pw t == 0) = false := by simpa using h
  have HC := Lib.hid (fun W => soundCode_c k b p pw t W)
  have hbd : 0 ≤ askZ k b p pw t ∧ askZ k b p pw t ≤ 2 := by unfold askZ; split <;> (try split) <;> omega
  generalize askZ k b p pw t = z at *
  go_enter Try.func40, Try.ntmps40
  go_wp2_with fail
  refine (HC.out _).mono ?_
  rintro e w1 ⟨rfl, hb1⟩
  go_wp2
  go_ret2
  exact ⟨rfl, below_box hb1⟩
set_option maxRecDepth 100000 in
set_option maxHeartbeats 4000000 in
theorem implNextBlast_yes (k b p pw t : Int) (h : askZ k b p pw t = 0) (w : World) :
    Calls Try.prog 40 #[.agg #[.int .i64 k, .int .i64 b, .int .i64 p, .int .i64 pw], .int .i64 t] w fun e w' => e = .returned (.tuple #[.int .i64 (nbF (blastZ k) b.toNat (t - t % p) t p), .int .i64 0]) ∧ Below w.heap.size w w' := by
  obtain ⟨hv, t0, t1⟩ := askZ_yes h
  obtain ⟨hk, hb, p0, p1⟩ := okFog_per hv
  obtain ⟨l0, l1⟩ := blastZ_40 hk
  obtain ⟨q1, q2, q3, q4⟩ := quoRem t0 (show 1 ≤ p by omega)
  have q5 : t % p ≤ t := by have := Int.mul_ediv_add_emod t p; have := Int.mul_nonneg (show 0 ≤ p by omega) q1; omega
  have pz : (p == 0) = false := by simp; omega
  have HC := Lib.hid (fun W => soundCode_c k b p pw t W)
  rw [h] at HC
  have HL := Lib.hid (fun W => blasts_c k b p pw hk hb W)
  generalize blastZ k = L at *
  clear h hv
  obtain ⟨n, rfl⟩ : ∃ n : Nat, b = (n : Int) := ⟨b.toNat, by omega⟩
  have hn : n ≤ 6 := by omega
  simp only [Int.toNat_natCast] at *
  have hnb1 := Lib.hid (fun i hi h hj => nb_hit (L := L) (B := t - t % p) (t := t) (p := p) (n := n) (i := i) hi h hj)
  have hnb2 := Lib.hid (fun hj => nb_none (L := L) (B := t - t % p) (t := t) (p := p) (n := n) hj)
  generalize nbF L n (t - t % p) t p = ans at *
  go_enter Try.func40, Try.ntmps40
  go_wp2_with fail
  refine (HC.out _).mono ?_
  rintro e w1 ⟨rfl, hb1⟩
  obtain ⟨hc, hf⟩ := bcell hb1
  have c0 : w1.cell? ⟨w.heap.size, 0, none⟩ = some (.int .i64 k) := (hc _ _ (by simp)).trans (by simp [go_sem])
  have c1 : w1.cell? ⟨w.heap.size, 1, none⟩ = some (.int .i64 n) := (hc _ _ (by simp)).trans (by simp [go_sem])
  have c2 : w1.cell? ⟨w.heap.size, 2, none⟩ = some (.int .i64 p) := (hc _ _ (by simp)).trans (by simp [go_sem])
  have c3 : w1.cell? ⟨w.heap.size, 3, none⟩ = some (.int .i64 pw) := (hc _ _ (by simp)).trans (by simp [go_sem])
  clear hc hf
  go_wp2_with fail
  refine (HL.out _).mono ?_
  rintro e w2 ⟨A, c, rfl, hP, hb2⟩
  obtain ⟨hc, hf⟩ := bcell hb2
  have d2 : w2.cell? ⟨w.heap.size, 2, none⟩ = some (.int .i64 p) := (hc _ _ (cell_lt c2)).trans c2
  clear hc hf c0 c1 c2 c3
  have hbw := held_next (below_box hb1) hb2
  have HP := Lib.hid hP
  clear hP hb1 hb2
  go_wp2
  generalize t % p = r at *
  go_loop [25] (fun i => ∃ (q : Nat), q ≤ n ∧ i = .int .i64 q ∧ Hid (∀ i, i < q → ¬ t ≤ t - r + bP L i)) (fun i => n - (intOf i).toNat)
  case atStart => exact ⟨0, by omega, rfl, Lib.hid (fun i hi => by omega)⟩
  case round =>
    obtain ⟨q, hq, rfl, hh⟩ := hrel
    by_cases hlt : q < n
    · obtain ⟨g, m, rfl, e1, e2, e3, _⟩ := HP.out.at_ hlt
      obtain ⟨b0, b1, b2, b3⟩ := bPQ_bd (L := L) (i := q) l0 l1 (by omega)
      have hq' := Lib.hid (hnb1.out q hlt)
      have hG := Lib.hid (show ∀ i : Nat, i < q + 1 → (¬ t ≤ t - r + bP L q) → ¬ t ≤ t - r + bP L i from fun i hi h => by
        by_cases e : i = q
        · subst e; exact h
        · exact hh.out i (by omega))
      generalize bP L q = P at *
      by_cases s1 : t ≤ t - r + P
      · have HA := Lib.hid (hq'.out s1 (fun j h => by have := hh.out j h; omega))
        clear hq' hG
        go_wp2
        go_ret2
        exact ⟨by rw [HA.out]; rfl, hbw⟩
      · have HG := Lib.hid (fun (i : Nat) (hi : i < q + 1) => hG.out i hi s1)
        clear hq' hG
        go_wp2
        go_roundw
        case rel => exact ⟨q + 1, by omega, by go_num, HG⟩
        case measure => simp [intOf]; omega
    · obtain rfl : q = n := by omega
      have HA := Lib.hid (hnb2.out (fun j h => by have := hh.out j h; omega))
      go_wp2
      go_ret2
      exact ⟨by rw [HA.out]; rfl, hbw⟩
end Go.Proofs.Ytffdipcogkhkmaa
