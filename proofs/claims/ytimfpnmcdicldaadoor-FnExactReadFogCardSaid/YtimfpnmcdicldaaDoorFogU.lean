/- The text of a fog signal: the program's. -/
import Derived.Test.YtimfpnmcdicldaaDoorFogT
namespace Go.Proofs.YtimfpnmcdicldaaDoor
open Go Go.RowKit Go.Shelf
theorem fog_assoc (h s d : ByteArray) : h ++ (⟨#[32]⟩ : ByteArray) ++ s ++ ⟨#[115, 32]⟩ ++ d = h ++ (⟨#[32]⟩ : ByteArray) ++ (s ++ (⟨#[115]⟩ : ByteArray)) ++ (⟨#[32]⟩ : ByteArray) ++ d := by
  have e : (⟨#[115, 32]⟩ : ByteArray) = (⟨#[115]⟩ : ByteArray) ++ (⟨#[32]⟩ : ByteArray) := by decide +kernel
  rw [e]
  simp only [ByteArray.append_assoc]
set_option maxHeartbeats 4000000 in
theorem implFogText_c (k b p pw : Int) (w : World) (hT : Pows w) :
    Calls Tryd.prog 15 #[.agg #[.int .i64 k, .int .i64 b, .int .i64 p, .int .i64 pw]] w fun e w' => e = .returned (.string (fogTextS k b p pw)) ∧ Below w.heap.size w w' := by
  generalize hW : w.alloc (.cells #[.int .i64 k, .int .i64 b, .int .i64 p, .int .i64 pw] 36) = W
  have hbW : Below w.heap.size w W := hW ▸ (by repeat (first | exact Below.refl _ _ | refine Below.alloc ?_ (by simp; try omega) _ | refine Below.drew ?_))
  have HT := Lib.hid (hT.below hbW)
  have k0 : ∀ x : Aft W, x.w1.cell? ⟨w.heap.size, 0, none⟩ = some (.int .i64 k) := by subst hW; exact fun x => x.new rfl
  have k1 : ∀ x : Aft W, x.w1.cell? ⟨w.heap.size, 1, none⟩ = some (.int .i64 b) := by subst hW; exact fun x => x.new rfl
  have k2 : ∀ x : Aft W, x.w1.cell? ⟨w.heap.size, 2, none⟩ = some (.int .i64 p) := by subst hW; exact fun x => x.new rfl
  have k3 : ∀ x : Aft W, x.w1.cell? ⟨w.heap.size, 3, none⟩ = some (.int .i64 pw) := by subst hW; exact fun x => x.new rfl
  have z0 := k0 ⟨W, Below.refl _ _⟩
  have z1 := k1 ⟨W, Below.refl _ _⟩
  have z2 := k2 ⟨W, Below.refl _ _⟩
  have z3 := k3 ⟨W, Below.refl _ _⟩
  simp only at z0 z1 z2 z3
  have HOk := Lib.hid (fun W => validFog_c k b p pw W)
  clear hT
  cases hv : okFog k b p pw
  · rw [hv] at HOk
    have hX : fogTextS k b p pw = ⟨#[]⟩ := if_neg (by rw [hv]; simp)
    rw [hX]
    clear hX hv
    go_enter Tryd.func15, Tryd.ntmps15
    go_wp2_with fail
    refine (Aft.first (w := W) (HOk.out W)).mono ?_
    rintro e _ ⟨rfl, x1, rfl⟩
    go_wp2
    go_ret
    exact ⟨rfl, held_next hbW x1.below⟩
  · rw [hv] at HOk
    obtain ⟨hk, hb, hp, hpw⟩ := okFog_yes hv
    have s1 := fogNames_size hk
    have s2 := dec_small (n := b) (by omega) (by omega)
    have s3 := secT_size hp.1 (by omega)
    have s4 := dec_small (n := pw) (by omega) (by omega)
    have HN := Lib.hid (fun W => implFogName_c k W)
    have H1 := Lib.hid (fun W h => decimal_c b (by omega) (by omega) W h)
    have H2 := Lib.hid (fun W h => secondsText_c p hp.1 (by omega) W h)
    have H3 := Lib.hid (fun W h => decimal_c pw (by omega) (by omega) W h)
    have hX : Hid (fogTextS k b p pw = (if 1 < b then pickS fogNames k ++ (⟨#[40]⟩ ++ dec b ++ ⟨#[41]⟩) else pickS fogNames k) ++ (⟨#[32]⟩ : ByteArray) ++ secT p ++ ⟨#[115, 32]⟩ ++ dec pw) := Lib.hid (by
      rw [fog_assoc]
      exact if_pos hv)
    generalize fogTextS k b p pw = X at *
    generalize pickS fogNames k = nm at *
    generalize dec b = db at *
    generalize secT p = sp at *
    generalize dec pw = dp at *
    clear hv
    by_cases h1b : 1 < b
    · rw [if_pos h1b] at hX
      have hd : decide (1 < b) = true := by simp [h1b]
      go_enter Tryd.func15, Tryd.ntmps15
      go_wp2_with fail
      refine (Aft.first (w := W) (HOk.out W)).mono ?_
      rintro e _ ⟨rfl, x1, rfl⟩
      clear z0 z1 z2 z3
      have z0 := k0 x1
      go_wp2_with fail
      refine (Aft.call (HN.out x1.w1)).mono ?_
      rintro e _ ⟨rfl, x2, rfl⟩
      clear z0
      have z1 := k1 x2
      go_wp2_with fail
      refine (Aft.call (H1.out x2.w1 (HT.out.below x2.below))).mono ?_
      rintro e _ ⟨rfl, x3, rfl⟩
      clear z1
      have q2 : ∀ y : Aft x3.w1, y.w1.cell? ⟨w.heap.size, 2, none⟩ = some (.int .i64 p) := fun y => y.cell (cell_lt (k2 x3)) (k2 x3)
      have q3 : ∀ y : Aft x3.w1, y.w1.cell? ⟨w.heap.size, 3, none⟩ = some (.int .i64 pw) := fun y => y.cell (cell_lt (k3 x3)) (k3 x3)
      clear k0 k1 k2 k3
      have hX6 := Lib.hid x3.below
      have hT6 := HT.out.below x3.below
      generalize x3.w1 = w6 at *
      go_wp2_with fail
      refine wp_region_aft (by kernel_rfl) (by kernel_rfl) ?_
      repeat (go_big_quiet_step (first
        | (go_at_call 40; exact Aft.call (H2.out _ (hT6.below (Aft.below _))))
        | (go_at_call 33; exact Aft.call (H3.out _ (hT6.below (Aft.below _))))))
      refine wpQuiet_nil ?_
      intro w7 hb7
      go_wp2
      go_ret
      exact ⟨by rw [hX.out]; rfl, held_next hbW (held_next hX6.out hb7)⟩
    · rw [if_neg h1b] at hX
      have hd : decide (1 < b) = false := by simp [h1b]
      go_enter Tryd.func15, Tryd.ntmps15
      go_wp2_with fail
      refine (Aft.first (w := W) (HOk.out W)).mono ?_
      rintro e _ ⟨rfl, x1, rfl⟩
      clear z0 z1 z2 z3
      have z0 := k0 x1
      go_wp2_with fail
      refine (Aft.call (HN.out x1.w1)).mono ?_
      rintro e _ ⟨rfl, x2, rfl⟩
      clear z0
      have z1 := k1 x2
      go_wp2_with fail
      clear z1
      have q2 : ∀ y : Aft x2.w1, y.w1.cell? ⟨w.heap.size, 2, none⟩ = some (.int .i64 p) := fun y => y.cell (cell_lt (k2 x2)) (k2 x2)
      have q3 : ∀ y : Aft x2.w1, y.w1.cell? ⟨w.heap.size, 3, none⟩ = some (.int .i64 pw) := fun y => y.cell (cell_lt (k3 x2)) (k3 x2)
      clear k0 k1 k2 k3
      have hX6 := Lib.hid x2.below
      have hT6 := HT.out.below x2.below
      generalize x2.w1 = w6 at *
      refine wp_region_aft (by kernel_rfl) (by kernel_rfl) ?_
      repeat (go_big_quiet_step (first
        | (go_at_call 40; exact Aft.call (H2.out _ (hT6.below (Aft.below _))))
        | (go_at_call 33; exact Aft.call (H3.out _ (hT6.below (Aft.below _))))))
      refine wpQuiet_nil ?_
      intro w7 hb7
      go_wp2
      go_ret
      exact ⟨by rw [hX.out]; rfl, held_next hbW (held_next hX6.out hb7)⟩
end Go.Proofs.YtimfpnmcdicldaaDoor
