/- The text of a fog signal, on both sides. -/
import Derived.Test.YtimfpnmcdicldaaDoorSecT
import Derived.Test.YtimfpnmcdicldaaDoorSide
namespace Go.Proofs.YtimfpnmcdicldaaDoor
open Go Go.RowKit Go.Shelf
/-- The name, and how many blasts. -/
def fogHead (k b : Int) : ByteArray := if 1 < b then pickS fogNames k ++ (⟨#[40]⟩ ++ dec b ++ ⟨#[41]⟩) else pickS fogNames k
def fogTxt (k b p pw : Int) : ByteArray := fogHead k b ++ (⟨#[32]⟩ : ByteArray) ++ (secT p ++ (⟨#[115]⟩ : ByteArray)) ++ (⟨#[32]⟩ : ByteArray) ++ dec pw
theorem fogNames_size {k : Int} (hk : 1 ≤ k ∧ k ≤ 4) : (pickS fogNames k).size ≤ 5 := by
  rcases four_cases hk with rfl | rfl | rfl | rfl <;> decide
theorem secT_size {p : Int} (h0 : 0 ≤ p) (h1 : p ≤ 1000000) : (secT p).size ≤ 50 := by
  have s1 := dec_small (n := p / 10) (by omega) (by omega)
  have s2 := dec_small (n := p % 10) (by omega) (by omega)
  unfold secT
  split
  · omega
  · simp only [ByteArray.size_append]
    have : ((⟨#[46]⟩ : ByteArray)).size = 1 := rfl
    omega
def fogRow : List ByteArray := [(⟨#[72, 111, 114, 110]⟩ : ByteArray), (⟨#[83, 105, 114, 101, 110]⟩ : ByteArray), (⟨#[66, 101, 108, 108]⟩ : ByteArray), (⟨#[87, 104, 105, 115]⟩ : ByteArray)]
set_option maxHeartbeats 1000000 in
theorem l10Names_c (w : World) :
    Calls Tryd.prog 55 #[] w fun e w' => e = .returned (.slice (some ⟨w.heap.size, 0, none⟩) 4 4) ∧ w' = w.alloc (.cells (fogRow.map Value.string).toArray 9) := by
  go_enter Tryd.func55, Tryd.ntmps55
  go_wp2
  go_ret
  exact ⟨rfl, rfl⟩
set_option maxHeartbeats 4000000 in
theorem l10Text_c (g : Nat) (k b p pw : Int) (hk : 1 ≤ k ∧ k ≤ 4) (hb : 1 ≤ b ∧ b ≤ 6) (hp : 0 ≤ p ∧ p ≤ 1200) (hpw : 60 ≤ pw ∧ pw ≤ 140) (w : World) (hg : g < w.heap.size)
    (c0 : w.cell? ⟨g, 0, none⟩ = some (.int .i64 k)) (c1 : w.cell? ⟨g, 1, none⟩ = some (.int .i64 b)) (c2 : w.cell? ⟨g, 2, none⟩ = some (.int .i64 p)) (c3 : w.cell? ⟨g, 3, none⟩ = some (.int .i64 pw)) :
    Calls Tryd.prog 37 #[.pointer (some ⟨g, 0, none⟩)] w fun e w' => e = .returned (.string (fogTxt k b p pw)) ∧ Below w.heap.size w w' := by
  have k0 : ∀ x : Aft w, x.w1.cell? ⟨g, 0, none⟩ = some (.int .i64 k) := fun x => x.cell hg c0
  have k1 : ∀ x : Aft w, x.w1.cell? ⟨g, 1, none⟩ = some (.int .i64 b) := fun x => x.cell hg c1
  have k2 : ∀ x : Aft w, x.w1.cell? ⟨g, 2, none⟩ = some (.int .i64 p) := fun x => x.cell hg c2
  have k3 : ∀ x : Aft w, x.w1.cell? ⟨g, 3, none⟩ = some (.int .i64 pw) := fun x => x.cell hg c3
  have s1 := fogNames_size hk
  have s2 := dec_small (n := b) (by omega) (by omega)
  have s3 := secT_size hp.1 (by omega)
  have s4 := dec_small (n := pw) (by omega) (by omega)
  have hk0 : 0 ≤ k - 1 := by omega
  have hk1 : k - 1 < 4 := by omega
  have hw1 : IntKind.i64.wrap (k - 1) = k - 1 := IntWalk.i64_in _ (by omega)
  have hkn : (k - 1).toNat < fogRow.length := by show (k - 1).toNat < 4; omega
  have HNM := Lib.hid (show fogRow.getD (k - 1).toNat ⟨#[]⟩ = pickS fogNames k by
    rcases four_cases hk with rfl | rfl | rfl | rfl <;> rfl)
  have HN := Lib.hid (fun W => l10Names_c W)
  have H1 := Lib.hid (fun W => l01Dec_nn b (by omega) (by omega) W)
  have H2 := Lib.hid (fun W => l05Seconds_c p hp.1 (by omega) W)
  have H3 := Lib.hid (fun W => l01Dec_nn pw (by omega) (by omega) W)
  have hX := Lib.hid (show fogTxt k b p pw = (if 1 < b then pickS fogNames k ++ (⟨#[40]⟩ ++ dec b ++ ⟨#[41]⟩) else pickS fogNames k) ++ (⟨#[32]⟩ : ByteArray) ++ (secT p ++ (⟨#[115]⟩ : ByteArray)) ++ (⟨#[32]⟩ : ByteArray) ++ dec pw from rfl)
  generalize fogTxt k b p pw = X at *
  generalize pickS fogNames k = nm at *
  generalize dec b = db at *
  generalize secT p = sp at *
  generalize dec pw = dp at *
  by_cases h1b : 1 < b
  · rw [if_pos h1b] at hX
    have hd : decide (1 < b) = true := by simp [h1b]
    go_enter Tryd.func37, Tryd.ntmps37
    go_wp2_with fail
    have hb0 : Below w.heap.size w w.drew := (Below.refl _ _).drew
    refine wp_region_plan (C := fun w' => ∃ x : Aft w, w' = x.w1) [(1, true), (2, true), (3, true), (4, true), (5, true), (0, false), (6, true), (7, true)] (by kernel_rfl) (by kernel_rfl) (fun _ _ d _ _ h => by cases d <;> exact h) ⟨⟨_, hb0⟩, rfl⟩ ?_
    iterate 4 (refine plan_look rfl rfl (by rintro _ ⟨x, rfl⟩; go_simp; rfl) ?_; go_simp)
    refine plan_look rfl rfl (by rintro _ ⟨x, rfl⟩; go_simp; rfl) ?_; go_simp
    refine plan_turn rfl rfl ?_
    go_simp
    refine (HN.out _).mono ?_
    rintro e _ ⟨rfl, rfl⟩
    have hb5 : Below w.heap.size w (w.drew.alloc (.cells (fogRow.map Value.string).toArray 9)) := hb0.alloc hb0.size _
    have r0 : ∀ y : Aft (w.drew.alloc (.cells (fogRow.map Value.string).toArray 9)), y.w1.cell? ⟨w.drew.heap.size, k.toNat - 1, none⟩ = some (.string nm) := fun y => by
      rw [← HNM.out, show k.toNat - 1 = (k - 1).toNat by omega]
      exact rowS_aft (rowS_new w.drew fogRow 9) (by simp) y _ hkn
    refine ⟨fun w' => ∃ x : Aft (w.drew.alloc (.cells (fogRow.map Value.string).toArray 9)), w' = x.w1, aft_within hb5, aft_self _, ?_⟩
    generalize w.drew.alloc (.cells (fogRow.map Value.string).toArray 9) = w5 at *
    generalize w.drew.heap.size = g5 at *
    iterate 2 (refine plan_look rfl rfl (by rintro _ ⟨x, rfl⟩; go_simp; first | rfl | rw [if_neg (by first | omega | (simp only [ByteArray.size_append]; omega))]) ?_; go_simp)
    refine plan_end ?_
    obtain ⟨x5, rfl⟩ : ∃ x : Aft w, w5 = x.w1 := ⟨⟨w5, hb5⟩, rfl⟩
    clear r0 hb0 hb5 HN HNM
    have c0 := k0 x5
    have c1 := k1 x5
    have c2 := k2 x5
    have c3 := k3 x5
    go_wp2_with fail
    refine (Aft.call (H1.out x5.w1)).mono ?_
    rintro e _ ⟨rfl, x6, rfl⟩
    clear c0 c1 c2 c3
    have q2 : ∀ y : Aft x6.w1, y.w1.cell? ⟨g, 2, none⟩ = some (.int .i64 p) := fun y => y.cell (cell_lt (k2 x6)) (k2 x6)
    have q3 : ∀ y : Aft x6.w1, y.w1.cell? ⟨g, 3, none⟩ = some (.int .i64 pw) := fun y => y.cell (cell_lt (k3 x6)) (k3 x6)
    clear k0 k1 k2 k3
    have hx6 := Lib.hid x6.below
    generalize x6.w1 = w6 at *
    go_wp2_with fail
    refine wp_region_aft (by kernel_rfl) (by kernel_rfl) ?_
    repeat (go_big_quiet_step (first
      | (go_at_call 58; exact Aft.call (H2.out _))
      | (go_at_call 56; exact Aft.call (H3.out _))))
    refine wpQuiet_nil ?_
    intro w7 hb7
    go_wp2
    go_ret
    exact ⟨by rw [hX.out]; rfl, held_next hx6.out hb7⟩
  · rw [if_neg h1b] at hX
    have hd : decide (1 < b) = false := by simp [h1b]
    go_enter Tryd.func37, Tryd.ntmps37
    go_wp2_with fail
    have hb0 : Below w.heap.size w w.drew := (Below.refl _ _).drew
    refine wp_region_plan (C := fun w' => ∃ x : Aft w, w' = x.w1) [(1, true), (2, true), (3, true), (4, true), (5, true), (0, false), (6, true), (7, true)] (by kernel_rfl) (by kernel_rfl) (fun _ _ d _ _ h => by cases d <;> exact h) ⟨⟨_, hb0⟩, rfl⟩ ?_
    iterate 4 (refine plan_look rfl rfl (by rintro _ ⟨x, rfl⟩; go_simp; rfl) ?_; go_simp)
    refine plan_look rfl rfl (by rintro _ ⟨x, rfl⟩; go_simp; rfl) ?_; go_simp
    refine plan_turn rfl rfl ?_
    go_simp
    refine (HN.out _).mono ?_
    rintro e _ ⟨rfl, rfl⟩
    have hb5 : Below w.heap.size w (w.drew.alloc (.cells (fogRow.map Value.string).toArray 9)) := hb0.alloc hb0.size _
    have r0 : ∀ y : Aft (w.drew.alloc (.cells (fogRow.map Value.string).toArray 9)), y.w1.cell? ⟨w.drew.heap.size, k.toNat - 1, none⟩ = some (.string nm) := fun y => by
      rw [← HNM.out, show k.toNat - 1 = (k - 1).toNat by omega]
      exact rowS_aft (rowS_new w.drew fogRow 9) (by simp) y _ hkn
    refine ⟨fun w' => ∃ x : Aft (w.drew.alloc (.cells (fogRow.map Value.string).toArray 9)), w' = x.w1, aft_within hb5, aft_self _, ?_⟩
    generalize w.drew.alloc (.cells (fogRow.map Value.string).toArray 9) = w5 at *
    generalize w.drew.heap.size = g5 at *
    iterate 2 (refine plan_look rfl rfl (by rintro _ ⟨x, rfl⟩; go_simp; first | rfl | rw [if_neg (by first | omega | (simp only [ByteArray.size_append]; omega))]) ?_; go_simp)
    refine plan_end ?_
    obtain ⟨x5, rfl⟩ : ∃ x : Aft w, w5 = x.w1 := ⟨⟨w5, hb5⟩, rfl⟩
    clear r0 hb0 hb5 HN HNM
    have c0 := k0 x5
    have c1 := k1 x5
    have c2 := k2 x5
    have c3 := k3 x5
    go_wp2_with fail
    clear c0 c1 c2 c3
    have q2 : ∀ y : Aft x5.w1, y.w1.cell? ⟨g, 2, none⟩ = some (.int .i64 p) := fun y => y.cell (cell_lt (k2 x5)) (k2 x5)
    have q3 : ∀ y : Aft x5.w1, y.w1.cell? ⟨g, 3, none⟩ = some (.int .i64 pw) := fun y => y.cell (cell_lt (k3 x5)) (k3 x5)
    clear k0 k1 k2 k3
    have hx5 := Lib.hid x5.below
    generalize x5.w1 = w6 at *
    refine wp_region_aft (by kernel_rfl) (by kernel_rfl) ?_
    repeat (go_big_quiet_step (first
      | (go_at_call 58; exact Aft.call (H2.out _))
      | (go_at_call 56; exact Aft.call (H3.out _))))
    refine wpQuiet_nil ?_
    intro w7 hb7
    go_wp2
    go_ret
    exact ⟨by rw [hX.out]; rfl, held_next hx5.out hb7⟩
/-- The text of a fog signal, or the empty one. -/
def fogTextS (k b p pw : Int) : ByteArray := if okFog k b p pw = true then fogTxt k b p pw else ⟨#[]⟩
theorem okFog_yes {k b p pw : Int} (h : okFog k b p pw = true) : (1 ≤ k ∧ k ≤ 4) ∧ (1 ≤ b ∧ b ≤ 6) ∧ (0 ≤ p ∧ p ≤ 1200) ∧ (60 ≤ pw ∧ pw ≤ 140) := by
  unfold okFog at h
  rw [Bool.and_eq_true, Bool.and_eq_true] at h
  obtain ⟨⟨h1, h2⟩, h3⟩ := h
  obtain ⟨hk, hb⟩ := shapeFog_yes h1
  have h4 := inR_iff.1 h2
  have h5 := inR_iff.1 h3
  have h6 := (least_bd hk hb).1
  exact ⟨hk, hb, ⟨by omega, h4.2⟩, h5⟩
set_option maxHeartbeats 4000000 in
theorem specFogText_c (k b p pw : Int) (w : World) :
    Calls Tryd.prog 13 #[.agg #[.int .i64 k, .int .i64 b, .int .i64 p, .int .i64 pw]] w fun e w' => e = .returned (.string (fogTextS k b p pw)) ∧ Below w.heap.size w w' := by
  generalize hW : w.alloc (.cells #[.int .i64 k, .int .i64 b, .int .i64 p, .int .i64 pw] 36) = W
  have hbW : Below w.heap.size w W := hW ▸ (by repeat (first | exact Below.refl _ _ | refine Below.alloc ?_ (by simp; try omega) _ | refine Below.drew ?_))
  have hg : w.heap.size < W.heap.size := by subst hW; simp
  have k0 : ∀ x : Aft W, x.w1.cell? ⟨w.heap.size, 0, none⟩ = some (.int .i64 k) := by subst hW; exact fun x => x.new rfl
  have k1 : ∀ x : Aft W, x.w1.cell? ⟨w.heap.size, 1, none⟩ = some (.int .i64 b) := by subst hW; exact fun x => x.new rfl
  have k2 : ∀ x : Aft W, x.w1.cell? ⟨w.heap.size, 2, none⟩ = some (.int .i64 p) := by subst hW; exact fun x => x.new rfl
  have k3 : ∀ x : Aft W, x.w1.cell? ⟨w.heap.size, 3, none⟩ = some (.int .i64 pw) := by subst hW; exact fun x => x.new rfl
  have HOk := Lib.hid (fun x : Aft W => l10Ok_c w.heap.size k b p pw x.w1 (Aft.lt x hg) (k0 x) (k1 x) (k2 x) (k3 x))
  cases hv : okFog k b p pw
  · rw [hv] at HOk
    have hX : fogTextS k b p pw = ⟨#[]⟩ := if_neg (by rw [hv]; simp)
    rw [hX]
    clear hX hv
    go_enter Tryd.func13, Tryd.ntmps13
    go_wp2_with fail
    refine (Aft.first (w := W) (HOk.out ⟨W, Below.refl _ _⟩)).mono ?_
    rintro e _ ⟨rfl, x1, rfl⟩
    go_wp2
    go_ret
    exact ⟨rfl, held_next hbW x1.below⟩
  · rw [hv] at HOk
    obtain ⟨hk, hb, hp, hpw⟩ := okFog_yes hv
    have HT := Lib.hid (fun x : Aft W => l10Text_c w.heap.size k b p pw hk hb hp hpw x.w1 (Aft.lt x hg) (k0 x) (k1 x) (k2 x) (k3 x))
    have hX : fogTextS k b p pw = fogTxt k b p pw := if_pos hv
    rw [hX]
    generalize fogTxt k b p pw = X at *
    clear hX hv
    go_enter Tryd.func13, Tryd.ntmps13
    go_wp2_with fail
    refine (Aft.first (w := W) (HOk.out ⟨W, Below.refl _ _⟩)).mono ?_
    rintro e _ ⟨rfl, x1, rfl⟩
    go_wp2_with fail
    refine (Aft.call (HT.out x1)).mono ?_
    rintro e _ ⟨rfl, x2, rfl⟩
    go_wp2
    go_ret
    exact ⟨rfl, held_next hbW x2.below⟩
end Go.Proofs.YtimfpnmcdicldaaDoor
