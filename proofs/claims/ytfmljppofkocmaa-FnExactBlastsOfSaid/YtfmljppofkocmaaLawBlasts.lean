/- The program's BlastsOf answers as the reference's, for all arguments, and keeps nothing of what it hands out. -/
import Derived.Test.YtfmljppofkocmaaBlasts
import Derived.Test.YtfmljppofkocmaaFogLaws
namespace Go.Proofs.Ytfmljppofkocmaa
open Go Go.RowKit
set_option maxHeartbeats 2000000 in
theorem eqInt64SS_same (A B : Option Addr) (n ca cb b1 b2 : Nat) (P Q : Nat → Int) (w : World) (hn : n ≤ 1048576) (hA : Pairs w b1 105 2 (.slice A n ca) n P Q) (hB : Pairs w b2 105 2 (.slice B n cb) n P Q) :
    Calls Try.prog 39 #[.slice A n ca, .slice B n cb] w fun e w' => e = .returned (.bool true) ∧ Below w.heap.size w w' := by
  go_enter Try.func39, Try.ntmps39
  go_wp2
  go_loopw [5] (fun i wr => ∃ (k : Nat) (x : Aft w), k ≤ n ∧ i = .int .i64 k ∧ wr = x.w1) (fun i _ => n - (intOf i).toNat)
  case atStart => exact ⟨0, ⟨w, Below.refl _ _⟩, by omega, rfl, rfl⟩
  case round =>
    obtain ⟨k, x, hk, rfl, rfl⟩ := hrel
    by_cases hlt : k < n
    · obtain ⟨g, r, rfl, hg, _, _, hr⟩ := hA.at_ hlt
      obtain ⟨g2, r2, rfl, hg2, _, _, hr2⟩ := hB.at_ hlt
      have c0 : ∀ y : Aft w, y.w1.cell? ⟨g, k, none⟩ = some (.slice (some ⟨r, 0, none⟩) 2 2) := fun y => y.cell (cell_lt hg) hg
      have c1 : ∀ y : Aft w, y.w1.cell? ⟨g2, k, none⟩ = some (.slice (some ⟨r2, 0, none⟩) 2 2) := fun y => y.cell (cell_lt hg2) hg2
      have HE := Lib.hid (fun y : Aft w => eqInt64S_same (some ⟨r, 0, none⟩) (some ⟨r2, 0, none⟩) 2 2 2 _ y.w1 (by omega) (hr.aft y) (hr2.aft y))
      clear hg hg2
      go_wp2
      refine wp_region_aftx x (by kernel_rfl) (by kernel_rfl) ?_
      repeat (go_big_quiet_step ((go_at_call 80; exact Aft.call (HE.out _))))
      refine wpQuiet_nil ?_
      intro z
      go_wp2
      go_roundw
      case rel => exact ⟨k + 1, z, by omega, by go_num, rfl⟩
      case measure => simp [intOf]; omega
    · obtain rfl : k = n := by omega
      go_wp2
      go_ret
      exact ⟨rfl, x.below⟩
theorem mark_two (k : Int) (q : Nat) : (nuF (fun i => (k + 2 * (q : Int)) + (i : Int))) 0 0 = .int .i64 (k + 2 * (q : Int)) ∧ (nuF (fun i => (k + 2 * (q : Int)) + (i : Int))) 1 0 = .int .i64 (k + 2 * (q : Int) + 1) := by
  constructor <;> simp [nuF]
set_option maxHeartbeats 2000000 in
theorem markInt64SS_c (A : Option Addr) (n c base : Nat) (k : Int) (P Q : Nat → Int) (w : World) (hn : n ≤ 1048576) (k0 : 0 ≤ k) (k1 : k ≤ 1000000) (hbs : base ≤ w.heap.size) (hA : Pairs w base 105 2 (.slice A n c) n P Q) :
    Calls Try.prog 40 #[.slice A n c, .int .i64 k] w fun e w' => e = .returned (.int .i64 (k + 2 * n)) ∧ Below base w w' ∧ Pairs w' base 105 2 (.slice A n c) n (fun i => k + 2 * i) (fun i => k + 2 * i + 1) := by
  go_enter Try.func40, Try.ntmps40
  go_wp2
  go_loopw [1, 5] (fun v i wr => ∃ (q : Nat), q ≤ n ∧ i = .int .i64 q ∧ v = .int .i64 (k + 2 * q) ∧ Below base w wr ∧ base ≤ wr.heap.size ∧ Pairs wr base 105 2 (.slice A n c) n (fun i => if i < q then k + 2 * i else P i) (fun i => if i < q then k + 2 * i + 1 else Q i)) (fun _ i _ => n - (intOf i).toNat)
  case atStart => exact ⟨0, by omega, rfl, by simp, Below.refl _ _, hbs, by simpa using hA⟩
  case round =>
    obtain ⟨q, hq, rfl, rfl, hbel, hsz, hP⟩ := hrel
    by_cases hlt : q < n
    · obtain ⟨g, r0, rfl, hg, _, _, _⟩ := hP.at_ hlt
      obtain ⟨f, xs, h1, h2, h3, h4⟩ := hP
      have hr : r0 = f q := by
        have e := (h1.cellAt q (by omega)).symm.trans hg
        rw [h2 q hlt] at e
        simpa using e.symm
      subst hr
      have HS := Lib.hid (h3 q hlt)
      have H1 := Lib.hid h1
      have H2 := Lib.hid h2
      have H3 := Lib.hid h3
      have H4 := Lib.hid h4
      have HB := Lib.hid hbel
      clear h1 h2 h3 h4 hbel hA
      go_wp2_with fail
      refine (markInt64S_c _ 2 2 (k + 2 * (q : Int)) base _ _ (by omega) (by omega) (by omega) HS.out).mono ?_
      rintro e w2 ⟨rfl, hgr, hS2⟩
      have HG := Lib.hid hgr
      have HS2 := Lib.hid hS2
      clear hgr hS2
      go_wp2
      go_roundw
      case rel =>
        have hge := (HS.out.lt (f q) rfl).1
        refine ⟨q + 1, by omega, by go_num, by congr 1; omega, HB.out.grown HG.out hsz (fun k hk => by cases hk; exact hge), Nat.le_trans hsz HG.out.size, f, xs, ?_, H2.out, fun i hi => ?_, H4.out⟩
        · obtain ⟨ys, hy, _⟩ := HS.out
          refine H1.out.kept HG.out (.inr ?_)
          have := own_type_ne H1.out hy (by decide)
          simpa [Value.ownBlock] using this
        · by_cases e : i = q
          · subst e
            refine HS2.out.congr (fun a ha b hb => ?_)
            rcases (by omega : a = 0 ∨ a = 1) with rfl | rfl
            · simp [nuF, two]
            · simp [nuF, two]
          · have hne := H4.out i q hi hlt e
            have := SO.far (H3.out i hi) HG.out (.inr (by simpa [Value.ownBlock] using hne))
            have e2 : (i < q + 1) ↔ (i < q) := by omega
            simpa only [e2] using this
      case measure => simp [intOf]; omega
    · obtain rfl : q = n := by omega
      have HP := Lib.hid hP
      have HB := Lib.hid hbel
      clear hP hbel hA
      go_wp2
      go_ret
      refine ⟨rfl, HB.out, ?_⟩
      obtain ⟨f, xs, h1, h2, h3, h4⟩ := HP.out
      refine ⟨f, xs, h1, h2, fun i hi => ?_, h4⟩
      have := h3 i hi
      simpa only [if_pos hi] using this
set_option maxHeartbeats 2000000 in
theorem heldInt64SS_c (A : Option Addr) (n c base : Nat) (k : Int) (w : World) (hn : n ≤ 1048576) (k0 : 0 ≤ k) (k1 : k ≤ 1000000) (hA : Pairs w base 105 2 (.slice A n c) n (fun i => k + 2 * i) (fun i => k + 2 * i + 1)) :
    Calls Try.prog 41 #[.slice A n c, .int .i64 k] w fun e w' => e = .returned (.int .i64 (k + 2 * n)) ∧ w = w' := by
  go_enter Try.func41, Try.ntmps41
  go_wp2
  go_loopw [1, 5] (fun v i wr => ∃ (q : Nat), q ≤ n ∧ i = .int .i64 q ∧ v = .int .i64 (k + 2 * q) ∧ wr = w) (fun _ i _ => n - (intOf i).toNat)
  case atStart => exact ⟨0, by omega, rfl, by simp, by first | trivial | rfl⟩
  case round =>
    obtain ⟨q, hq, rfl, rfl, rfl⟩ := hrel
    by_cases hlt : q < n
    · obtain ⟨g, r0, rfl, hg, _, _, hr⟩ := hA.at_ hlt
      have hr2 : Rec 1 wr (some ⟨r0, 0, none⟩) 2 (nuF (fun i => (k + 2 * (q : Int)) + (i : Int))) := hr.congr (fun a ha b hb => by
        rcases (by omega : a = 0 ∨ a = 1) with rfl | rfl
        · simp [nuF, two]
        · simp [nuF, two])
      have HR := Lib.hid hr2
      clear hr hr2
      go_wp2_with fail
      refine (heldInt64S_c _ 2 2 (k + 2 * (q : Int)) _ (by omega) (by omega) (by omega) HR.out).mono ?_
      rintro e w2 ⟨rfl, rfl⟩
      go_wp2
      go_roundw
      case rel => exact ⟨q + 1, by omega, by go_num, by congr 1; omega, by first | trivial | rfl⟩
      case measure => simp [intOf]; omega
    · obtain rfl : q = n := by omega
      go_wp2
      go_ret
      exact ⟨rfl, rfl⟩
theorem okFog_yes {k b p pw : Int} (h : okFog k b p pw = true) : (1 ≤ k ∧ k ≤ 4) ∧ (1 ≤ b ∧ b ≤ 6) := by
  simp only [okFog, Bool.and_eq_true] at h
  exact shapeFog_yes h.1.1
set_option maxHeartbeats 2000000 in
theorem specBlastsOf_c (k b p pw : Int) (v : Bool) (hv : okFog k b p pw = v) (w : World) :
    Calls Try.prog 36 #[.agg #[.int .i64 k, .int .i64 b, .int .i64 p, .int .i64 pw]] w fun e w' => ∃ A c, e = .returned (.tuple #[.slice A (if v then b.toNat else 0) c, .int .i64 (if v then 0 else 1)]) ∧ Pairs w' w.heap.size 105 2 (.slice A (if v then b.toNat else 0) c) (if v then b.toNat else 0) (bP (blastZ k)) (bQ (blastZ k)) ∧ Below w.heap.size w w' := by
  cases v
  · go_enter Try.func36, Try.ntmps36
    go_wp2_with fail
    refine (l10Ok_c _ k b p pw _ (by simp) (by simp [go_sem]) (by simp [go_sem]) (by simp [go_sem]) (by simp [go_sem])).mono ?_
    rintro e w1 ⟨rfl, hb1⟩
    rw [hv]
    go_wp2
    go_ret2
    exact ⟨none, 0, rfl, Pairs.nil, below_box hb1⟩
  · obtain ⟨hk, hb⟩ := okFog_yes hv
    go_enter Try.func36, Try.ntmps36
    go_wp2_with fail
    refine (l10Ok_c _ k b p pw _ (by simp) (by simp [go_sem]) (by simp [go_sem]) (by simp [go_sem]) (by simp [go_sem])).mono ?_
    rintro e w1 ⟨rfl, hb1⟩
    rw [hv]
    obtain ⟨hc, hf⟩ := bcell hb1
    have c0 : w1.cell? ⟨w.heap.size, 0, none⟩ = some (.int .i64 k) := (hc _ _ (by simp)).trans (by simp [go_sem])
    have c1 : w1.cell? ⟨w.heap.size, 1, none⟩ = some (.int .i64 b) := (hc _ _ (by simp)).trans (by simp [go_sem])
    clear hc hf
    go_wp2_with fail
    refine (l10Blasts_c _ k b hk hb _ c0 c1).mono ?_
    rintro e w2 ⟨A, c, rfl, hP, hb2⟩
    have HP := Lib.hid hP
    have hbw := below_box hb1
    clear hP c0 c1 hv
    go_wp2
    go_ret2
    obtain ⟨f, xs, h1, h2, h3, h4⟩ := HP.out
    refine ⟨A, c, rfl, ⟨f, xs, ⟨h1.1, ?_⟩, h2, fun i hi => (h3 i hi).mono hbw.size, h4⟩, held_next hbw hb2⟩
    rcases h1.2 with h0 | ⟨g, cap, cur, q1, q2, q3⟩
    · exact .inl h0
    · exact .inr ⟨g, cap, cur, q1, Nat.le_trans hbw.size q2, q3⟩
set_option maxHeartbeats 2000000 in
theorem implBlastsOf_c (k b p pw : Int) (v : Bool) (hv : okFog k b p pw = v) (w : World) :
    Calls Try.prog 38 #[.agg #[.int .i64 k, .int .i64 b, .int .i64 p, .int .i64 pw]] w fun e w' => ∃ A c, e = .returned (.tuple #[.slice A (if v then b.toNat else 0) c, .int .i64 (if v then 0 else 1)]) ∧ Pairs w' w.heap.size 105 2 (.slice A (if v then b.toNat else 0) c) (if v then b.toNat else 0) (bP (blastZ k)) (bQ (blastZ k)) ∧ Below w.heap.size w w' := by
  cases v
  · go_enter Try.func38, Try.ntmps38
    go_wp2_with fail
    refine (validFog_c k b p pw _).mono ?_
    rintro e w1 ⟨rfl, hb1⟩
    rw [hv]
    go_wp2
    go_ret2
    exact ⟨none, 0, rfl, Pairs.nil, below_box hb1⟩
  · obtain ⟨hk, hb⟩ := okFog_yes hv
    go_enter Try.func38, Try.ntmps38
    go_wp2_with fail
    refine (validFog_c k b p pw _).mono ?_
    rintro e w1 ⟨rfl, hb1⟩
    rw [hv]
    obtain ⟨hc, hf⟩ := bcell hb1
    have c0 : w1.cell? ⟨w.heap.size, 0, none⟩ = some (.int .i64 k) := (hc _ _ (by simp)).trans (by simp [go_sem])
    have c1 : w1.cell? ⟨w.heap.size, 1, none⟩ = some (.int .i64 b) := (hc _ _ (by simp)).trans (by simp [go_sem])
    have c2 : w1.cell? ⟨w.heap.size, 2, none⟩ = some (.int .i64 p) := (hc _ _ (by simp)).trans (by simp [go_sem])
    have c3 : w1.cell? ⟨w.heap.size, 3, none⟩ = some (.int .i64 pw) := (hc _ _ (by simp)).trans (by simp [go_sem])
    clear hc hf
    go_wp2_with fail
    refine (blasts_c k b p pw hk hb _).mono ?_
    rintro e w2 ⟨A, c, rfl, hP, hb2⟩
    have HP := Lib.hid hP
    have hbw := below_box hb1
    clear hP c0 c1 c2 c3 hv
    go_wp2
    go_ret2
    obtain ⟨f, xs, h1, h2, h3, h4⟩ := HP.out
    refine ⟨A, c, rfl, ⟨f, xs, ⟨h1.1, ?_⟩, h2, fun i hi => (h3 i hi).mono hbw.size, h4⟩, held_next hbw hb2⟩
    rcases h1.2 with h0 | ⟨g, cap, cur, q1, q2, q3⟩
    · exact .inl h0
    · exact .inr ⟨g, cap, cur, q1, Nat.le_trans hbw.size q2, q3⟩
set_option maxRecDepth 100000 in
set_option maxHeartbeats 8000000 in
theorem fnExactBlastsOf_walk {w : World} (k : Int) (_wk : (Lit.int .i64 k).wf = true) (b : Int) (_wb : (Lit.int .i64 b).wf = true) (p : Int) (_wp : (Lit.int .i64 p).wf = true) (pw : Int) (_wpw : (Lit.int .i64 pw).wf = true) :
    Calls Try.prog 9 #[.agg #[.int .i64 k, .int .i64 b, .int .i64 p, .int .i64 pw]] w fun e w' => e = .returned (.bool true) ∧ Below w.heap.size w w' := by
  clear _wk _wb _wp _wpw
  have hnn : (if okFog k b p pw = true then b.toNat else 0) ≤ 1048576 := by
    split
    · rename_i h; have := (okFog_yes h).2; omega
    · omega
  have HP := Lib.hid (fun W => specBlastsOf_c k b p pw _ rfl W)
  have HI := Lib.hid (fun W => implBlastsOf_c k b p pw _ rfl W)
  generalize (if okFog k b p pw = true then b.toNat else 0) = n at HP HI hnn
  generalize (if okFog k b p pw = true then (0 : Int) else 1) = code at HP HI
  generalize bP (blastZ k) = P at HP HI
  generalize bQ (blastZ k) = Q at HP HI
  have k0 : ∀ x : Aft (w.alloc (.cells #[.int .i64 k, .int .i64 b, .int .i64 p, .int .i64 pw] 51)), x.w1.cell? ⟨w.heap.size, 0, none⟩ = some (.int .i64 k) := fun x => x.new rfl
  have k1 : ∀ x : Aft (w.alloc (.cells #[.int .i64 k, .int .i64 b, .int .i64 p, .int .i64 pw] 51)), x.w1.cell? ⟨w.heap.size, 1, none⟩ = some (.int .i64 b) := fun x => x.new rfl
  have k2 : ∀ x : Aft (w.alloc (.cells #[.int .i64 k, .int .i64 b, .int .i64 p, .int .i64 pw] 51)), x.w1.cell? ⟨w.heap.size, 2, none⟩ = some (.int .i64 p) := fun x => x.new rfl
  have k3 : ∀ x : Aft (w.alloc (.cells #[.int .i64 k, .int .i64 b, .int .i64 p, .int .i64 pw] 51)), x.w1.cell? ⟨w.heap.size, 3, none⟩ = some (.int .i64 pw) := fun x => x.new rfl
  go_enter Try.func9, Try.ntmps9
  go_wp2_with fail
  generalize hW : w.alloc (.cells #[.int .i64 k, .int .i64 b, .int .i64 p, .int .i64 pw] 51) = W at *
  have hbW : Below w.heap.size w W := hW ▸ (by repeat (first | exact Below.refl _ _ | refine Below.alloc ?_ (by simp; try omega) _ | refine Below.drew ?_))
  clear hW
  refine (toFogSignal_c k b p pw _).mono ?_
  rintro e w1 ⟨rfl, b1⟩
  obtain ⟨x1, rfl⟩ : ∃ x : Aft W, w1 = x.w1 := ⟨⟨w1, b1⟩, rfl⟩
  go_wp2_with fail
  refine (HP.out _).mono ?_
  rintro e w2 ⟨A2, c2, rfl, R2, b2⟩
  obtain ⟨x2, rfl⟩ : ∃ x : Aft W, w2 = x.w1 := ⟨⟨w2, held_next x1.below b2⟩, rfl⟩
  have R2 := Lib.hid R2
  go_wp2_with fail
  refine (toFogSignal_c k b p pw _).mono ?_
  rintro e w3 ⟨rfl, b3⟩
  obtain ⟨x3, rfl⟩ : ∃ x : Aft W, w3 = x.w1 := ⟨⟨w3, held_next x2.below b3⟩, rfl⟩
  have R3 := Lib.hid (R2.out.below b3)
  clear R2
  go_wp2_with fail
  -- the program's call: what lies before it is kept whatever is marked of its answer
  refine (HI.out _).mono ?_
  rintro e w4 ⟨A4, c4, rfl, R4, b4⟩
  obtain ⟨y4, rfl⟩ : ∃ y : Aft x3.w1, w4 = y.w1 := ⟨⟨w4, b4⟩, rfl⟩
  have j0 : ∀ y : Aft x3.w1, y.w1.cell? ⟨w.heap.size, 0, none⟩ = some (.int .i64 k) := fun y => k0 ⟨y.w1, held_next x3.below y.below⟩
  have j1 : ∀ y : Aft x3.w1, y.w1.cell? ⟨w.heap.size, 1, none⟩ = some (.int .i64 b) := fun y => k1 ⟨y.w1, held_next x3.below y.below⟩
  have j2 : ∀ y : Aft x3.w1, y.w1.cell? ⟨w.heap.size, 2, none⟩ = some (.int .i64 p) := fun y => k2 ⟨y.w1, held_next x3.below y.below⟩
  have j3 : ∀ y : Aft x3.w1, y.w1.cell? ⟨w.heap.size, 3, none⟩ = some (.int .i64 pw) := fun y => k3 ⟨y.w1, held_next x3.below y.below⟩
  clear k0 k1 k2 k3
  have R4 := Lib.hid R4
  have RW : Hid (∀ y : Aft x3.w1, Pairs y.w1 _ _ _ _ _ _ _) := Lib.hid (fun y : Aft x3.w1 => R3.out.below y.below)
  go_wp2_with fail
  refine (eqInt64SS_same _ _ n _ _ _ _ P Q _ hnn R4.out (RW.out y4)).mono ?_
  rintro e w5 ⟨rfl, b5⟩
  have R5 := Lib.hid (R4.out.below b5)
  obtain ⟨y5, rfl⟩ : ∃ y : Aft x3.w1, w5 = y.w1 := ⟨⟨w5, held_next y4.below b5⟩, rfl⟩
  clear R4
  go_wp2_with fail
  refine (markInt64SS_c _ n _ _ 1 P Q _ hnn (by omega) (by omega) y5.below.size R5.out).mono ?_
  rintro e w6 ⟨rfl, b6, R6⟩
  obtain ⟨y6, rfl⟩ : ∃ y : Aft x3.w1, w6 = y.w1 := ⟨⟨w6, y5.below.trans b6⟩, rfl⟩
  have R6 := Lib.hid R6
  clear R5
  go_wp2_with fail
  refine (heldInt64SS_c _ n _ _ 1 _ hnn (by omega) (by omega) R6.out).mono ?_
  rintro e _ ⟨rfl, rfl⟩
  go_wp2_with fail
  refine (toFogSignal_c k b p pw _).mono ?_
  rintro e w7 ⟨rfl, b7⟩
  obtain ⟨y7, rfl⟩ : ∃ y : Aft x3.w1, w7 = y.w1 := ⟨⟨w7, held_next y6.below b7⟩, rfl⟩
  have R7 := Lib.hid (R6.out.below b7)
  clear R6
  go_wp2_with fail
  refine (HI.out _).mono ?_
  rintro e w8 ⟨A8, c8, rfl, R8, b8⟩
  have R8 := Lib.hid R8
  have R9 := Lib.hid (R7.out.below b8)
  obtain ⟨y8, rfl⟩ : ∃ y : Aft x3.w1, w8 = y.w1 := ⟨⟨w8, held_next y7.below b8⟩, rfl⟩
  clear R7
  go_wp2_with fail
  refine (eqInt64SS_same _ _ n _ _ _ _ P Q _ hnn R8.out (RW.out y8)).mono ?_
  rintro e w9 ⟨rfl, b9⟩
  have R10 := Lib.hid (R9.out.below b9)
  obtain ⟨y9, rfl⟩ : ∃ y : Aft x3.w1, w9 = y.w1 := ⟨⟨w9, held_next y8.below b9⟩, rfl⟩
  clear R8 R9
  go_wp2_with fail
  refine (heldInt64SS_c _ n _ _ 1 _ hnn (by omega) (by omega) R10.out).mono ?_
  rintro e _ ⟨rfl, rfl⟩
  go_wp2
  go_ret
  exact ⟨rfl, held_next hbW (held_next x3.below y9.below)⟩
namespace fnExactBlastsOfDone
open Go.ChangeShapes Go.WideShapes Go.ChangeAt Go.RowKit Go.Joins
open Go.ChangeMaps (open_string shut_string)
set_option maxRecDepth 100000 in
theorem lifted (os : Os) (started : os.Started) (H : Type) (enc : TypeId × Value → H) :
    ReturnsInHanded {} Try.checked os 9 .any (Rows.fnExactBlastsOfSpec.pre6 enc Try.prog Try.f9 Rows.fnExactBlastsOfRow.domain false) (Rows.fnExactBlastsOfSpec.post enc Try.prog Try.f9 false true false false) := by
  refine returnsInHanded_of_change (C := Try.checked) lawOwn started (by kernel_rfl) Try.func9
    (ChangeSpec.witness6 (enc := enc) (C := Try.checked) false ⟨#[], #[.agg #[.int .i64 0, .int .i64 0, .int .i64 0, .int .i64 0]], []⟩ 8 (by kernel_rfl) (by kernel_rfl) (by kernel_rfl) (by kernel_rfl)) ?_
  intro W base args ds gs before hval0 hW hcnd _
  have hval : ∀ (j : Nat) t v, Try.f9.params[j]? = some t → args[j]? = some v → Value.okWide Try.prog W .any base t v := hval0
  have hW' := hW
  obtain ⟨p, q, hA0, hV, rfl, hfz, hnd⟩ := hW
  have hA : DataW.TrodAll enc Try.prog W 0 (fun _ => true) true Try.f9.params.toList args.toList ds p := hA0
  rw [Try.params9] at hA hval
  obtain ⟨v0, vs0, d0, ds0, p0, q0, hargs, rfl, rfl, h0, r0⟩ := trodAll_cons hA
  obtain ⟨rfl, rfl, rfl⟩ := trodAll_nil r0
  obtain rfl : args = #[v0] := by cases args; simp_all
  obtain ⟨rfl, rfl⟩ := trodVars_none hV
  have k0 := h0
  have lt0 : ∀ x ∈ p0, x.block < W.heap.size := by obtain ⟨m, hm⟩ := k0; exact DataW.trod_lt m _ _ _ hm
  suffices hwalk : Calls Try.prog 9 #[v0] W fun e w' => e = .returned (.bool true) ∧ Below W.heap.size W w' by
    refine hwalk.mono fun e W' ⟨he, bel⟩ => ?_
    subst he
    exact ⟨_, rfl, _, _, _, [], _, [], hW', trodAll_mk1 (shut_bool Try.underlying4 _), (trodAll_cons_mk (Below.trod lawLaid (by kernel_rfl) (of_decide_eq_true (by kernel_rfl)) k0 bel lt0) trodAll_mk0), rfl, bel.frame _, fun h => by cases h⟩
  clear hA0 hval0
  obtain ⟨c0_0, c0_1, c0_2, c0_3, y0_0, y0_1, y0_2, y0_3, n0, rfl, hd0, hp0, e0_0, e0_1, e0_2, e0_3⟩ := open_agg4 Try.underlying51 (by kernel_rfl) (by kernel_rfl) (hval 0 51 v0 rfl rfl) h0
  obtain ⟨a0_0, g0_0, x0_0, w0_0⟩ := DataW.trod_int Try.underlying2 e0_0
  simp only [List.cons.injEq, and_true] at g0_0; subst g0_0
  obtain ⟨a0_1, g0_1, x0_1, w0_1⟩ := DataW.trod_int Try.underlying2 e0_1
  simp only [List.cons.injEq, and_true] at g0_1; subst g0_1
  obtain ⟨a0_2, g0_2, x0_2, w0_2⟩ := DataW.trod_int Try.underlying2 e0_2
  simp only [List.cons.injEq, and_true] at g0_2; subst g0_2
  obtain ⟨a0_3, g0_3, x0_3, w0_3⟩ := DataW.trod_int Try.underlying2 e0_3
  simp only [List.cons.injEq, and_true] at g0_3; subst g0_3
  exact fnExactBlastsOf_walk (w := W) a0_0 w0_0 a0_1 w0_1 a0_2 w0_2 a0_3 w0_3

theorem over : Rows.fnExactBlastsOfRow.holds Try.pinned (OpenSpec.ofChange Rows.fnExactBlastsOfSpec) :=
  OpenClaim.holds_of_wide 9 Try.f9 rfl rfl rfl rfl rfl rfl rfl ⟨rfl, rfl, rfl, rfl, rfl⟩ rfl rfl rfl rfl rfl (by kernel_rfl) Try.func9 (by kernel_rfl)
    (of_decide_eq_true (by kernel_rfl)) (by unfold Func.isWrapper; first | (rw [if_pos (by decide +kernel)]; kernel_rfl) | (rw [if_neg (by decide +kernel)]; exact ⟨rfl, rfl⟩))
    (fun os started H enc _ => lifted os started H enc)

theorem proved : Rows.FnExactBlastsOfSaid := over
#print axioms proved
end fnExactBlastsOfDone
end Go.Proofs.Ytfmljppofkocmaa
