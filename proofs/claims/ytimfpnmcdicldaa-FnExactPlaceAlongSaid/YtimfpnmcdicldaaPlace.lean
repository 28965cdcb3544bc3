/- PlaceAlong: the program and the reference. -/
import Derived.Test.YtimfpnmcdicldaaAlong
namespace Go.Proofs.Ytimfpnmcdicldaa
open Go Go.RowKit
theorem lenI_18 {X Y : Nat → Int} {n : Nat} (hn : 2 ≤ n) (hn2 : n ≤ 12) (hok : ∀ i, i < n → okP (X i) (Y i) = true) : 0 ≤ lenI X Y (n - 1) ∧ lenI X Y (n - 1) ≤ 18000000 := by
  have := lenI_bd (X := X) (Y := Y) (n - 1) (fun i hi => hok i (by omega))
  omega
set_option maxRecDepth 100000 in
set_option maxHeartbeats 4000000 in
theorem specPlace_c (nm : ByteArray) (A : Option Addr) (n cap : Nat) (wd : Int) (X Y : Nat → Int) (d : Int) (J : Nat) (w : World) (hs : nm.size ≤ maxLen) (hn : n ≤ 1048576) (v1 v2 : Bool) (hv1 : okChan nm n X Y wd = v1) (hv2 : inR d 0 (lenI X Y (n - 1)) = v2) (hJ : v1 = true → v2 = true → FirstSeg X Y n d J) (hR : Rec 2 w A n (vPoint X Y)) :
    Calls Try.prog 11 #[.agg #[.string nm, .slice A n cap, .int .i64 wd], .int .i64 d] w fun e w' => e = .returned (.tuple #[.agg #[.int .i64 (if v1 && v2 then plX X Y J d else 0), .int .i64 (if v1 && v2 then plY X Y J d else 0)], .int .i64 (if v1 then (if v2 then 0 else 2) else 1)]) ∧ Below w.heap.size w w' := by
  have HO := Lib.hid (fun g W h c0 c1 c2 => l13Ok_c g nm A n cap wd X Y W hs hn h c0 c1 c2)
  cases v1
  · go_enter Try.func11, Try.ntmps11
    go_wp2_with fail
    generalize hW : (w.alloc (.cells #[.string nm, .slice A n cap, .int .i64 wd] 32)).alloc (.cells #[.int .i64 0, .int .i64 0] 27) = W
    have hbW : Below w.heap.size w W := hW ▸ (by repeat (first | exact Below.refl _ _ | refine Below.alloc ?_ (by simp; try omega) _ | refine Below.drew ?_))
    have hB : Blk W (w.heap.size + 1) 27 #[.int .i64 0, .int .i64 0] := by subst hW; simpa [World.size_alloc] using Blk.new (w.alloc (.cells #[.string nm, .slice A n cap, .int .i64 wd] 32)) 27 #[.int .i64 0, .int .i64 0]
    have k0 : W.cell? ⟨w.heap.size, 0, none⟩ = some (.string nm) := by subst hW; simp [go_sem]
    have k1 : W.cell? ⟨w.heap.size, 1, none⟩ = some (.slice A n cap) := by subst hW; simp [go_sem]
    have k2 : W.cell? ⟨w.heap.size, 2, none⟩ = some (.int .i64 wd) := by subst hW; simp [go_sem]
    clear hW
    refine (HO.out _ _ (hR.below hbW) k0 k1 k2).mono ?_
    rintro e w1 ⟨rfl, hb1⟩
    rw [hv1]
    have hz := hB.below hb1
    have z0 : w1.cell? ⟨w.heap.size + 1, 0, none⟩ = some (.int .i64 0) := hz.cell 0
    have z1 : w1.cell? ⟨w.heap.size + 1, 1, none⟩ = some (.int .i64 0) := hz.cell 1
    have g0 := hz.frozen 0
    have g1 := hz.frozen 1
    have hbz := held_next hbW hb1
    clear k0 k1 k2 hz hB
    go_wp2
    refine bodyPost_ret (v := .tuple #[.agg #[.int .i64 0, .int .i64 0], .int .i64 1]) (by simp [results, Try.results11, go_sem, z0, z1]) rfl ⟨rfl, ?_⟩
    first
      | with_reducible exact hbz
      | exact (hbz.setCell (by simp) _).setCell (by simp) _
  · obtain ⟨hok, n2, n12, _, _⟩ := okChan_yes hv1
    obtain ⟨l0, l1⟩ := lenI_18 n2 n12 hok
    have HS := okChan_segs hv1
    have HV2 := Lib.hid hv2
    have HL := Lib.hid (fun W h => l13Length_c A n cap X Y W (by omega) n12 hok h)
    cases v2
    · clear hJ HS
      generalize lenI X Y (n - 1) = len at *
      clear hv2
      go_enter Try.func11, Try.ntmps11
      go_wp2_with fail
      generalize hW : (w.alloc (.cells #[.string nm, .slice A n cap, .int .i64 wd] 32)).alloc (.cells #[.int .i64 0, .int .i64 0] 27) = W
      have hbW : Below w.heap.size w W := hW ▸ (by repeat (first | exact Below.refl _ _ | refine Below.alloc ?_ (by simp; try omega) _ | refine Below.drew ?_))
      have hB : Blk W (w.heap.size + 1) 27 #[.int .i64 0, .int .i64 0] := by subst hW; simpa [World.size_alloc] using Blk.new (w.alloc (.cells #[.string nm, .slice A n cap, .int .i64 wd] 32)) 27 #[.int .i64 0, .int .i64 0]
      have k0 : W.cell? ⟨w.heap.size, 0, none⟩ = some (.string nm) := by subst hW; simp [go_sem]
      have k1 : W.cell? ⟨w.heap.size, 1, none⟩ = some (.slice A n cap) := by subst hW; simp [go_sem]
      have k2 : W.cell? ⟨w.heap.size, 2, none⟩ = some (.int .i64 wd) := by subst hW; simp [go_sem]
      clear hW
      refine (HO.out _ _ (hR.below hbW) k0 k1 k2).mono ?_
      rintro e w1 ⟨rfl, hb1⟩
      rw [hv1]
      have j1 : w1.cell? ⟨w.heap.size, 1, none⟩ = some (.slice A n cap) := (hb1.cell (p := ⟨w.heap.size, 1, none⟩) (cell_lt k1)).trans k1
      clear k0 k1 k2
      go_wp2_with fail
      refine (HL.out _ ((hR.below hbW).below hb1)).mono ?_
      rintro e w2 ⟨rfl, hb2⟩
      have hz := (hB.below hb1).below hb2
      have z0 : w2.cell? ⟨w.heap.size + 1, 0, none⟩ = some (.int .i64 0) := hz.cell 0
      have z1 : w2.cell? ⟨w.heap.size + 1, 1, none⟩ = some (.int .i64 0) := hz.cell 1
      have g0 := hz.frozen 0
      have g1 := hz.frozen 1
      have hbz := held_next (held_next hbW hb1) hb2
      clear hz hB j1
      go_wp2_with (go_at_call 43; refine (l00In_v HV2.out _).mono ?_; rintro e _ ⟨rfl, rfl⟩)
      refine bodyPost_ret (v := .tuple #[.agg #[.int .i64 0, .int .i64 0], .int .i64 2]) (by simp [results, Try.results11, go_sem, z0, z1]) rfl ⟨rfl, ?_⟩
      first
        | with_reducible exact hbz
        | exact (hbz.setCell (by simp) _).setCell (by simp) _
    · have hF := hJ rfl rfl
      obtain ⟨d0, d1⟩ := inR_iff.1 hv2
      have HP := Lib.hid (fun W h => l13Place_c A n cap X Y d J W n12 HS hF d0 (by omega) h)
      clear hJ HS hF
      generalize lenI X Y (n - 1) = len at *
      clear hv2
      generalize plX X Y J d = rx at *
      generalize plY X Y J d = ry at *
      go_enter Try.func11, Try.ntmps11
      go_wp2_with fail
      generalize hW : (w.alloc (.cells #[.string nm, .slice A n cap, .int .i64 wd] 32)).alloc (.cells #[.int .i64 0, .int .i64 0] 27) = W
      have hbW : Below w.heap.size w W := hW ▸ (by repeat (first | exact Below.refl _ _ | refine Below.alloc ?_ (by simp; try omega) _ | refine Below.drew ?_))
      have hB : Blk W (w.heap.size + 1) 27 #[.int .i64 0, .int .i64 0] := by subst hW; simpa [World.size_alloc] using Blk.new (w.alloc (.cells #[.string nm, .slice A n cap, .int .i64 wd] 32)) 27 #[.int .i64 0, .int .i64 0]
      have k0 : W.cell? ⟨w.heap.size, 0, none⟩ = some (.string nm) := by subst hW; simp [go_sem]
      have k1 : W.cell? ⟨w.heap.size, 1, none⟩ = some (.slice A n cap) := by subst hW; simp [go_sem]
      have k2 : W.cell? ⟨w.heap.size, 2, none⟩ = some (.int .i64 wd) := by subst hW; simp [go_sem]
      clear hW
      refine (HO.out _ _ (hR.below hbW) k0 k1 k2).mono ?_
      rintro e w1 ⟨rfl, hb1⟩
      rw [hv1]
      have j1 : w1.cell? ⟨w.heap.size, 1, none⟩ = some (.slice A n cap) := (hb1.cell (p := ⟨w.heap.size, 1, none⟩) (cell_lt k1)).trans k1
      clear k0 k1 k2
      go_wp2_with fail
      refine (HL.out _ ((hR.below hbW).below hb1)).mono ?_
      rintro e w2 ⟨rfl, hb2⟩
      have j2 : w2.cell? ⟨w.heap.size, 1, none⟩ = some (.slice A n cap) := (hb2.cell (p := ⟨w.heap.size, 1, none⟩) (cell_lt j1)).trans j1
      clear j1
      go_wp2_with (go_at_call 43; refine (l00In_v HV2.out _).mono ?_; rintro e _ ⟨rfl, rfl⟩)
      go_wp2_with fail
      refine (HP.out _ (((hR.below hbW).below hb1).below hb2)).mono ?_
      rintro e w3 ⟨rfl, hb3⟩
      have hz := ((hB.below hb1).below hb2).below hb3
      have z0 : w3.cell? ⟨w.heap.size + 1, 0, none⟩ = some (.int .i64 0) := hz.cell 0
      have z1 : w3.cell? ⟨w.heap.size + 1, 1, none⟩ = some (.int .i64 0) := hz.cell 1
      have g0 := hz.frozen 0
      have g1 := hz.frozen 1
      have hbz := held_next (held_next (held_next hbW hb1) hb2) hb3
      clear hz hB j2
      go_wp2
      refine bodyPost_ret (v := .tuple #[.agg #[.int .i64 rx, .int .i64 ry], .int .i64 0]) (by simp [results, Try.results11, go_sem, z0, z1]) rfl ⟨rfl, ?_⟩
      first
        | with_reducible exact hbz
        | exact (hbz.setCell (by simp) _).setCell (by simp) _
set_option maxRecDepth 100000 in
set_option maxHeartbeats 4000000 in
theorem implPlace_c (nm : ByteArray) (A : Option Addr) (n cap : Nat) (wd : Int) (X Y : Nat → Int) (d : Int) (J : Nat) (w : World) (hs : nm.size ≤ maxLen) (hn : n ≤ 1048576) (v1 v2 : Bool) (hv1 : okChan nm n X Y wd = v1) (hv2 : inR d 0 (lenI X Y (n - 1)) = v2) (hJ : v1 = true → v2 = true → FirstSeg X Y n d J) (hR : Rec 2 w A n (vPoint X Y)) :
    Calls Try.prog 13 #[.agg #[.string nm, .slice A n cap, .int .i64 wd], .int .i64 d] w fun e w' => e = .returned (.tuple #[.agg #[.int .i64 (if v1 && v2 then plX X Y J d else 0), .int .i64 (if v1 && v2 then plY X Y J d else 0)], .int .i64 (if v1 then (if v2 then 0 else 2) else 1)]) ∧ Below w.heap.size w w' := by
  have HO := Lib.hid (fun W h => validChannel_c nm A n cap wd X Y W hs hn h)
  cases v1
  · go_enter Try.func13, Try.ntmps13
    go_wp2_with fail
    generalize hW : (w.alloc (.cells #[.string nm, .slice A n cap, .int .i64 wd] 32)).alloc (.cells #[.int .i64 0, .int .i64 0] 27) = W
    have hbW : Below w.heap.size w W := hW ▸ (by repeat (first | exact Below.refl _ _ | refine Below.alloc ?_ (by simp; try omega) _ | refine Below.drew ?_))
    have hB : Blk W (w.heap.size + 1) 27 #[.int .i64 0, .int .i64 0] := by subst hW; simpa [World.size_alloc] using Blk.new (w.alloc (.cells #[.string nm, .slice A n cap, .int .i64 wd] 32)) 27 #[.int .i64 0, .int .i64 0]
    have k0 : W.cell? ⟨w.heap.size, 0, none⟩ = some (.string nm) := by subst hW; simp [go_sem]
    have k1 : W.cell? ⟨w.heap.size, 1, none⟩ = some (.slice A n cap) := by subst hW; simp [go_sem]
    have k2 : W.cell? ⟨w.heap.size, 2, none⟩ = some (.int .i64 wd) := by subst hW; simp [go_sem]
    clear hW
    refine (HO.out _ (hR.below hbW)).mono ?_
    rintro e w1 ⟨rfl, hb1⟩
    rw [hv1]
    have hz := hB.below hb1
    have z0 : w1.cell? ⟨w.heap.size + 1, 0, none⟩ = some (.int .i64 0) := hz.cell 0
    have z1 : w1.cell? ⟨w.heap.size + 1, 1, none⟩ = some (.int .i64 0) := hz.cell 1
    have g0 := hz.frozen 0
    have g1 := hz.frozen 1
    have hbz := held_next hbW hb1
    clear k0 k1 k2 hz hB
    go_wp2
    refine bodyPost_ret (v := .tuple #[.agg #[.int .i64 0, .int .i64 0], .int .i64 1]) (by simp [results, Try.results13, go_sem, z0, z1]) rfl ⟨rfl, ?_⟩
    first
      | with_reducible exact hbz
      | exact (hbz.setCell (by simp) _).setCell (by simp) _
  · obtain ⟨hok, n2, n12, _, _⟩ := okChan_yes hv1
    obtain ⟨l0, l1⟩ := lenI_18 n2 n12 hok
    have HS := okChan_segs hv1
    have HV2 := Lib.hid hv2
    have HL := Lib.hid (fun W h => length_c nm wd A n cap X Y W (by omega) n12 hok h)
    cases v2
    · clear hJ HS
      generalize lenI X Y (n - 1) = len at *
      clear hv2
      go_enter Try.func13, Try.ntmps13
      go_wp2_with fail
      generalize hW : (w.alloc (.cells #[.string nm, .slice A n cap, .int .i64 wd] 32)).alloc (.cells #[.int .i64 0, .int .i64 0] 27) = W
      have hbW : Below w.heap.size w W := hW ▸ (by repeat (first | exact Below.refl _ _ | refine Below.alloc ?_ (by simp; try omega) _ | refine Below.drew ?_))
      have hB : Blk W (w.heap.size + 1) 27 #[.int .i64 0, .int .i64 0] := by subst hW; simpa [World.size_alloc] using Blk.new (w.alloc (.cells #[.string nm, .slice A n cap, .int .i64 wd] 32)) 27 #[.int .i64 0, .int .i64 0]
      have k0 : W.cell? ⟨w.heap.size, 0, none⟩ = some (.string nm) := by subst hW; simp [go_sem]
      have k1 : W.cell? ⟨w.heap.size, 1, none⟩ = some (.slice A n cap) := by subst hW; simp [go_sem]
      have k2 : W.cell? ⟨w.heap.size, 2, none⟩ = some (.int .i64 wd) := by subst hW; simp [go_sem]
      clear hW
      refine (HO.out _ (hR.below hbW)).mono ?_
      rintro e w1 ⟨rfl, hb1⟩
      rw [hv1]
      have j0 : w1.cell? ⟨w.heap.size, 0, none⟩ = some (.string nm) := (hb1.cell (p := ⟨w.heap.size, 0, none⟩) (cell_lt k0)).trans k0
      have j3 : w1.cell? ⟨w.heap.size, 2, none⟩ = some (.int .i64 wd) := (hb1.cell (p := ⟨w.heap.size, 2, none⟩) (cell_lt k2)).trans k2
      have j1 : w1.cell? ⟨w.heap.size, 1, none⟩ = some (.slice A n cap) := (hb1.cell (p := ⟨w.heap.size, 1, none⟩) (cell_lt k1)).trans k1
      clear k0 k1 k2
      go_wp2_with fail
      refine (HL.out _ ((hR.below hbW).below hb1)).mono ?_
      rintro e w2 ⟨rfl, hb2⟩
      have hz := (hB.below hb1).below hb2
      have z0 : w2.cell? ⟨w.heap.size + 1, 0, none⟩ = some (.int .i64 0) := hz.cell 0
      have z1 : w2.cell? ⟨w.heap.size + 1, 1, none⟩ = some (.int .i64 0) := hz.cell 1
      have g0 := hz.frozen 0
      have g1 := hz.frozen 1
      have hbz := held_next (held_next hbW hb1) hb2
      clear hz hB j1 j0 j3
      go_wp2_with (go_at_call 48; refine (within_v HV2.out _).mono ?_; rintro e _ ⟨rfl, rfl⟩)
      refine bodyPost_ret (v := .tuple #[.agg #[.int .i64 0, .int .i64 0], .int .i64 2]) (by simp [results, Try.results13, go_sem, z0, z1]) rfl ⟨rfl, ?_⟩
      first
        | with_reducible exact hbz
        | exact (hbz.setCell (by simp) _).setCell (by simp) _
    · have hF := hJ rfl rfl
      obtain ⟨d0, d1⟩ := inR_iff.1 hv2
      have HP := Lib.hid (fun W h => along_c nm wd A n cap X Y d J W n12 HS hF d0 (by omega) h)
      clear hJ HS hF
      generalize lenI X Y (n - 1) = len at *
      clear hv2
      generalize plX X Y J d = rx at *
      generalize plY X Y J d = ry at *
      go_enter Try.func13, Try.ntmps13
      go_wp2_with fail
      generalize hW : (w.alloc (.cells #[.string nm, .slice A n cap, .int .i64 wd] 32)).alloc (.cells #[.int .i64 0, .int .i64 0] 27) = W
      have hbW : Below w.heap.size w W := hW ▸ (by repeat (first | exact Below.refl _ _ | refine Below.alloc ?_ (by simp; try omega) _ | refine Below.drew ?_))
      have hB : Blk W (w.heap.size + 1) 27 #[.int .i64 0, .int .i64 0] := by subst hW; simpa [World.size_alloc] using Blk.new (w.alloc (.cells #[.string nm, .slice A n cap, .int .i64 wd] 32)) 27 #[.int .i64 0, .int .i64 0]
      have k0 : W.cell? ⟨w.heap.size, 0, none⟩ = some (.string nm) := by subst hW; simp [go_sem]
      have k1 : W.cell? ⟨w.heap.size, 1, none⟩ = some (.slice A n cap) := by subst hW; simp [go_sem]
      have k2 : W.cell? ⟨w.heap.size, 2, none⟩ = some (.int .i64 wd) := by subst hW; simp [go_sem]
      clear hW
      refine (HO.out _ (hR.below hbW)).mono ?_
      rintro e w1 ⟨rfl, hb1⟩
      rw [hv1]
      have j0 : w1.cell? ⟨w.heap.size, 0, none⟩ = some (.string nm) := (hb1.cell (p := ⟨w.heap.size, 0, none⟩) (cell_lt k0)).trans k0
      have j3 : w1.cell? ⟨w.heap.size, 2, none⟩ = some (.int .i64 wd) := (hb1.cell (p := ⟨w.heap.size, 2, none⟩) (cell_lt k2)).trans k2
      have j1 : w1.cell? ⟨w.heap.size, 1, none⟩ = some (.slice A n cap) := (hb1.cell (p := ⟨w.heap.size, 1, none⟩) (cell_lt k1)).trans k1
      clear k0 k1 k2
      go_wp2_with fail
      refine (HL.out _ ((hR.below hbW).below hb1)).mono ?_
      rintro e w2 ⟨rfl, hb2⟩
      have j02 : w2.cell? ⟨w.heap.size, 0, none⟩ = some (.string nm) := (hb2.cell (p := ⟨w.heap.size, 0, none⟩) (cell_lt j0)).trans j0
      have j32 : w2.cell? ⟨w.heap.size, 2, none⟩ = some (.int .i64 wd) := (hb2.cell (p := ⟨w.heap.size, 2, none⟩) (cell_lt j3)).trans j3
      have j2 : w2.cell? ⟨w.heap.size, 1, none⟩ = some (.slice A n cap) := (hb2.cell (p := ⟨w.heap.size, 1, none⟩) (cell_lt j1)).trans j1
      clear j1 j0 j3
      go_wp2_with (go_at_call 48; refine (within_v HV2.out _).mono ?_; rintro e _ ⟨rfl, rfl⟩)
      go_wp2_with fail
      refine (HP.out _ (((hR.below hbW).below hb1).below hb2)).mono ?_
      rintro e w3 ⟨rfl, hb3⟩
      have hz := ((hB.below hb1).below hb2).below hb3
      have z0 : w3.cell? ⟨w.heap.size + 1, 0, none⟩ = some (.int .i64 0) := hz.cell 0
      have z1 : w3.cell? ⟨w.heap.size + 1, 1, none⟩ = some (.int .i64 0) := hz.cell 1
      have g0 := hz.frozen 0
      have g1 := hz.frozen 1
      have hbz := held_next (held_next (held_next hbW hb1) hb2) hb3
      have y0 : ∀ o1 o2 o3, (((w3.alloc o1).alloc o2).alloc o3).cell? ⟨w.heap.size + 1, 0, none⟩ = some (.int .i64 0) := fun o1 o2 o3 => (hz.below (w' := ((w3.alloc o1).alloc o2).alloc o3) (by repeat (first | exact Below.refl _ _ | refine Below.alloc ?_ (by simp; try omega) _ | refine Below.drew ?_))).cell 0
      have y1 : ∀ o1 o2 o3, (((w3.alloc o1).alloc o2).alloc o3).cell? ⟨w.heap.size + 1, 1, none⟩ = some (.int .i64 0) := fun o1 o2 o3 => (hz.below (w' := ((w3.alloc o1).alloc o2).alloc o3) (by repeat (first | exact Below.refl _ _ | refine Below.alloc ?_ (by simp; try omega) _ | refine Below.drew ?_))).cell 1
      have y2 : ∀ o1 o2 o3, (((w3.alloc o1).alloc o2).alloc o3).frozen? ⟨w.heap.size + 1, 0, none⟩ = false := fun o1 o2 o3 => (hz.below (w' := ((w3.alloc o1).alloc o2).alloc o3) (by repeat (first | exact Below.refl _ _ | refine Below.alloc ?_ (by simp; try omega) _ | refine Below.drew ?_))).frozen 0
      have y3 : ∀ o1 o2 o3, (((w3.alloc o1).alloc o2).alloc o3).frozen? ⟨w.heap.size + 1, 1, none⟩ = false := fun o1 o2 o3 => (hz.below (w' := ((w3.alloc o1).alloc o2).alloc o3) (by repeat (first | exact Below.refl _ _ | refine Below.alloc ?_ (by simp; try omega) _ | refine Below.drew ?_))).frozen 1
      have hbq : ∀ o1 o2 o3, Below w.heap.size w (((w3.alloc o1).alloc o2).alloc o3) := fun o1 o2 o3 => held_next hbz (by repeat (first | exact Below.refl _ _ | refine Below.alloc ?_ (by simp; try omega) _ | refine Below.drew ?_))
      clear hz hB j2 j02 j32
      go_wp2
      refine bodyPost_ret (v := .tuple #[.agg #[.int .i64 rx, .int .i64 ry], .int .i64 0]) (by simp [results, Try.results13, go_sem, y0, y1]) rfl ⟨rfl, ?_⟩
      exact ((hbq _ _ _).setCell (by simp) _).setCell (by simp) _
end Go.Proofs.Ytimfpnmcdicldaa
