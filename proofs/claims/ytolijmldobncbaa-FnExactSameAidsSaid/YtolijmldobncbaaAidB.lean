/- Two aids held against each other: the program and the reference. -/
import Derived.Test.YtolijmldobncbaaAidA
import Derived.Test.YtolijmldobncbaaQMix
namespace Go.Proofs.Ytolijmldobncbaa
open Go Go.RowKit
set_option maxHeartbeats 4000000 in
theorem l05Same_c (g o g' o' : Nat) (d d' : ChrD) (G : Option Addr) (gc : Nat) (G' : Option Addr) (gc' : Nat) (w : World) (hn : d.n ≤ 1048576) (hn' : d'.n ≤ 1048576) (hR : Rec 1 w G d.n (vNum d.f)) (hR' : Rec 1 w G' d'.n (vNum d'.f))
    (c0 : w.cell? ⟨g, o, none⟩ = some (.int .i64 d.k)) (c1 : w.cell? ⟨g, o + 1, none⟩ = some (.slice G d.n gc)) (c2 : w.cell? ⟨g, o + 2, none⟩ = some (.string d.lt)) (c3 : w.cell? ⟨g, o + 3, none⟩ = some (.string d.cl)) (c4 : w.cell? ⟨g, o + 4, none⟩ = some (.int .i64 d.pd))
    (d0 : w.cell? ⟨g', o', none⟩ = some (.int .i64 d'.k)) (d1 : w.cell? ⟨g', o' + 1, none⟩ = some (.slice G' d'.n gc')) (d2 : w.cell? ⟨g', o' + 2, none⟩ = some (.string d'.lt)) (d3 : w.cell? ⟨g', o' + 3, none⟩ = some (.string d'.cl)) (d4 : w.cell? ⟨g', o' + 4, none⟩ = some (.int .i64 d'.pd)) :
    Calls Try.prog 32 #[.pointer (some ⟨g, o, none⟩), .pointer (some ⟨g', o', none⟩)] w fun e w' => e = .returned (.bool (d.same d')) ∧ Below w.heap.size w w' := by
  have k0 : ∀ y : Aft w, y.w1.cell? ⟨g, o, none⟩ = some (.int .i64 d.k) := fun y => y.cell (cell_lt c0) c0
  have k1 : ∀ y : Aft w, y.w1.cell? ⟨g, o + 1, none⟩ = some (.slice G d.n gc) := fun y => y.cell (cell_lt c1) c1
  have k2 : ∀ y : Aft w, y.w1.cell? ⟨g, o + 2, none⟩ = some (.string d.lt) := fun y => y.cell (cell_lt c2) c2
  have k3 : ∀ y : Aft w, y.w1.cell? ⟨g, o + 3, none⟩ = some (.string d.cl) := fun y => y.cell (cell_lt c3) c3
  have k4 : ∀ y : Aft w, y.w1.cell? ⟨g, o + 4, none⟩ = some (.int .i64 d.pd) := fun y => y.cell (cell_lt c4) c4
  have l0 : ∀ y : Aft w, y.w1.cell? ⟨g', o', none⟩ = some (.int .i64 d'.k) := fun y => y.cell (cell_lt d0) d0
  have l1 : ∀ y : Aft w, y.w1.cell? ⟨g', o' + 1, none⟩ = some (.slice G' d'.n gc') := fun y => y.cell (cell_lt d1) d1
  have l2 : ∀ y : Aft w, y.w1.cell? ⟨g', o' + 2, none⟩ = some (.string d'.lt) := fun y => y.cell (cell_lt d2) d2
  have l3 : ∀ y : Aft w, y.w1.cell? ⟨g', o' + 3, none⟩ = some (.string d'.cl) := fun y => y.cell (cell_lt d3) d3
  have l4 : ∀ y : Aft w, y.w1.cell? ⟨g', o' + 4, none⟩ = some (.int .i64 d'.pd) := fun y => y.cell (cell_lt d4) d4
  have HP := Lib.hid (fun x : Aft w => specSameNum_c G G' d.n d'.n gc gc' d.f d'.f x.w1 hn hn' (hR.aft x) (hR'.aft x))
  unfold ChrD.same
  generalize sameNum d.n d'.n d.f d'.f = vN at *
  clear c0 c1 c2 c3 c4 d0 d1 d2 d3 d4
  cases v0 : (d.k == d'.k)
  · skip
    go_enter Try.func32, Try.ntmps32
    go_wp2
    refine wp_region_aft (by kernel_rfl) (by kernel_rfl) ?_
    repeat (go_big_quiet_step ((go_at_call 39; exact Aft.call (HP.out _))))
    refine wpQuiet_nil ?_
    intro w1 hb1
    go_wp2
    go_ret
    exact ⟨ret_bool (by simp), hb1⟩
  · skip
    cases v1 : vN
    · skip
      go_enter Try.func32, Try.ntmps32
      go_wp2
      refine wp_region_aft (by kernel_rfl) (by kernel_rfl) ?_
      repeat (go_big_quiet_step ((go_at_call 39; exact Aft.call (HP.out _))))
      refine wpQuiet_nil ?_
      intro w1 hb1
      go_wp2
      go_ret
      exact ⟨ret_bool (by simp), hb1⟩
    · skip
      cases v2 : (d.lt.toList == d'.lt.toList)
      · skip
        go_enter Try.func32, Try.ntmps32
        go_wp2
        refine wp_region_aft (by kernel_rfl) (by kernel_rfl) ?_
        repeat (go_big_quiet_step ((go_at_call 39; exact Aft.call (HP.out _))))
        refine wpQuiet_nil ?_
        intro w1 hb1
        go_wp2
        go_ret
        exact ⟨ret_bool (by simp), hb1⟩
      · skip
        cases v3 : (d.cl.toList == d'.cl.toList)
        · skip
          go_enter Try.func32, Try.ntmps32
          go_wp2
          refine wp_region_aft (by kernel_rfl) (by kernel_rfl) ?_
          repeat (go_big_quiet_step ((go_at_call 39; exact Aft.call (HP.out _))))
          refine wpQuiet_nil ?_
          intro w1 hb1
          go_wp2
          go_ret
          exact ⟨ret_bool (by simp), hb1⟩
        · skip
          cases v4 : (d.pd == d'.pd)
          · skip
            go_enter Try.func32, Try.ntmps32
            go_wp2
            refine wp_region_aft (by kernel_rfl) (by kernel_rfl) ?_
            repeat (go_big_quiet_step ((go_at_call 39; exact Aft.call (HP.out _))))
            refine wpQuiet_nil ?_
            intro w1 hb1
            go_wp2
            go_ret
            exact ⟨ret_bool (by simp), hb1⟩
          · skip
            go_enter Try.func32, Try.ntmps32
            go_wp2
            refine wp_region_aft (by kernel_rfl) (by kernel_rfl) ?_
            repeat (go_big_quiet_step ((go_at_call 39; exact Aft.call (HP.out _))))
            refine wpQuiet_nil ?_
            intro w1 hb1
            go_wp2
            go_ret
            exact ⟨ret_bool (by simp), hb1⟩
set_option maxHeartbeats 4000000 in
theorem implSameCh_c (d d' : ChrD) (G : Option Addr) (gc : Nat) (G' : Option Addr) (gc' : Nat) (w : World) (hn : d.n ≤ 1048576) (hn' : d'.n ≤ 1048576) (hR : Rec 1 w G d.n (vNum d.f)) (hR' : Rec 1 w G' d'.n (vNum d'.f)) :
    Calls Try.prog 23 #[d.v G gc, d'.v G' gc'] w fun e w' => e = .returned (.bool (d.same d')) ∧ Below w.heap.size w w' := by
  have HP := Lib.hid (fun W h h' => implSameNum_c G G' d.n d'.n gc gc' d.f d'.f W hn hn' h h')
  unfold ChrD.same ChrD.v
  generalize sameNum d.n d'.n d.f d'.f = vN at *
  cases v0 : (d.k == d'.k)
  · skip
    go_enter Try.func23, Try.ntmps23
    go_wp2_with fail
    first
      | (refine (HP.out _ (hR.below (by repeat (first | exact Below.refl _ _ | refine Below.alloc ?_ (by simp; try omega) _ | refine Below.drew ?_))) (hR'.below (by repeat (first | exact Below.refl _ _ | refine Below.alloc ?_ (by simp; try omega) _ | refine Below.drew ?_)))).mono ?_
         rintro e w1 ⟨rfl, hb1⟩
         obtain ⟨hc, hf⟩ := bcell hb1
         have hz := hb1.size
         simp at hz
         clear hf
         go_wp2
         go_ret
         exact ⟨ret_bool (by simp), below_box (below_box hb1)⟩)
      | (go_ret
         exact ⟨ret_bool (by simp), (by repeat (first | exact Below.refl _ _ | refine Below.alloc ?_ (by simp; try omega) _ | refine Below.drew ?_))⟩)
  · skip
    cases v1 : vN
    · skip
      go_enter Try.func23, Try.ntmps23
      go_wp2_with fail
      first
        | (refine (HP.out _ (hR.below (by repeat (first | exact Below.refl _ _ | refine Below.alloc ?_ (by simp; try omega) _ | refine Below.drew ?_))) (hR'.below (by repeat (first | exact Below.refl _ _ | refine Below.alloc ?_ (by simp; try omega) _ | refine Below.drew ?_)))).mono ?_
           rintro e w1 ⟨rfl, hb1⟩
           obtain ⟨hc, hf⟩ := bcell hb1
           have hz := hb1.size
           simp at hz
           clear hf
           go_wp2
           go_ret
           exact ⟨ret_bool (by simp), below_box (below_box hb1)⟩)
        | (go_ret
           exact ⟨ret_bool (by simp), (by repeat (first | exact Below.refl _ _ | refine Below.alloc ?_ (by simp; try omega) _ | refine Below.drew ?_))⟩)
    · skip
      cases v2 : (d.lt.toList == d'.lt.toList)
      · skip
        go_enter Try.func23, Try.ntmps23
        go_wp2_with fail
        first
          | (refine (HP.out _ (hR.below (by repeat (first | exact Below.refl _ _ | refine Below.alloc ?_ (by simp; try omega) _ | refine Below.drew ?_))) (hR'.below (by repeat (first | exact Below.refl _ _ | refine Below.alloc ?_ (by simp; try omega) _ | refine Below.drew ?_)))).mono ?_
             rintro e w1 ⟨rfl, hb1⟩
             obtain ⟨hc, hf⟩ := bcell hb1
             have hz := hb1.size
             simp at hz
             clear hf
             go_wp2
             go_ret
             exact ⟨ret_bool (by simp), below_box (below_box hb1)⟩)
          | (go_ret
             exact ⟨ret_bool (by simp), (by repeat (first | exact Below.refl _ _ | refine Below.alloc ?_ (by simp; try omega) _ | refine Below.drew ?_))⟩)
      · skip
        cases v3 : (d.cl.toList == d'.cl.toList)
        · skip
          go_enter Try.func23, Try.ntmps23
          go_wp2_with fail
          first
            | (refine (HP.out _ (hR.below (by repeat (first | exact Below.refl _ _ | refine Below.alloc ?_ (by simp; try omega) _ | refine Below.drew ?_))) (hR'.below (by repeat (first | exact Below.refl _ _ | refine Below.alloc ?_ (by simp; try omega) _ | refine Below.drew ?_)))).mono ?_
               rintro e w1 ⟨rfl, hb1⟩
               obtain ⟨hc, hf⟩ := bcell hb1
               have hz := hb1.size
               simp at hz
               clear hf
               go_wp2
               go_ret
               exact ⟨ret_bool (by simp), below_box (below_box hb1)⟩)
            | (go_ret
               exact ⟨ret_bool (by simp), (by repeat (first | exact Below.refl _ _ | refine Below.alloc ?_ (by simp; try omega) _ | refine Below.drew ?_))⟩)
        · skip
          cases v4 : (d.pd == d'.pd)
          · skip
            go_enter Try.func23, Try.ntmps23
            go_wp2_with fail
            first
              | (refine (HP.out _ (hR.below (by repeat (first | exact Below.refl _ _ | refine Below.alloc ?_ (by simp; try omega) _ | refine Below.drew ?_))) (hR'.below (by repeat (first | exact Below.refl _ _ | refine Below.alloc ?_ (by simp; try omega) _ | refine Below.drew ?_)))).mono ?_
                 rintro e w1 ⟨rfl, hb1⟩
                 obtain ⟨hc, hf⟩ := bcell hb1
                 have hz := hb1.size
                 simp at hz
                 clear hf
                 go_wp2
                 go_ret
                 exact ⟨ret_bool (by simp), below_box (below_box hb1)⟩)
              | (go_ret
                 exact ⟨ret_bool (by simp), (by repeat (first | exact Below.refl _ _ | refine Below.alloc ?_ (by simp; try omega) _ | refine Below.drew ?_))⟩)
          · skip
            go_enter Try.func23, Try.ntmps23
            go_wp2_with fail
            first
              | (refine (HP.out _ (hR.below (by repeat (first | exact Below.refl _ _ | refine Below.alloc ?_ (by simp; try omega) _ | refine Below.drew ?_))) (hR'.below (by repeat (first | exact Below.refl _ _ | refine Below.alloc ?_ (by simp; try omega) _ | refine Below.drew ?_)))).mono ?_
                 rintro e w1 ⟨rfl, hb1⟩
                 obtain ⟨hc, hf⟩ := bcell hb1
                 have hz := hb1.size
                 simp at hz
                 clear hf
                 go_wp2
                 go_ret
                 exact ⟨ret_bool (by simp), below_box (below_box hb1)⟩)
              | (go_ret
                 exact ⟨ret_bool (by simp), (by repeat (first | exact Below.refl _ _ | refine Below.alloc ?_ (by simp; try omega) _ | refine Below.drew ?_))⟩)
def AidD.same (d d' : AidD) : Bool := (d.num == d'.num) && ((d.name.toList == d'.name.toList) && (dPoint d.ax d.ay d'.ax d'.ay && ((d.ht == d'.ht) && (dMark d.kd d.mc d.ms d.mt d'.kd d'.mc d'.ms d'.mt && (d.ch.same d'.ch && (sameSector d.sn d'.sn d.s0 d.s1 d.s2 d'.s0 d'.s1 d'.s2 && (d.it == d'.it)))))))
set_option maxHeartbeats 1000000 in
theorem specSameSecs_c (A B : Option Addr) (n n' ca cb : Nat) (f0 f1 : Nat → Int) (f2 : Nat → ByteArray) (f0' f1' : Nat → Int) (f2' : Nat → ByteArray) (w : World) (hn : n ≤ 1048576) (hn' : n' ≤ 1048576) (hA : Rec 3 w A n (vSector f0 f1 f2)) (hB : Rec 3 w B n' (vSector f0' f1' f2')) :
    Calls Try.prog 33 #[.slice A n ca, .slice B n' cb] w fun e w' => e = .returned (.bool (sameSector n n' f0 f1 f2 f0' f1' f2')) ∧ Below w.heap.size w w' := specSameSector_c A B n n' ca cb f0 f1 f2 f0' f1' f2' w hn hn' hA hB
set_option maxRecDepth 100000 in
set_option maxHeartbeats 8000000 in
theorem l12Same_c (g o g' o' : Nat) (d d' : AidD) (G : Option Addr) (gc : Nat) (S : Option Addr) (sc : Nat) (G' : Option Addr) (gc' : Nat) (S' : Option Addr) (sc' : Nat) (w : World) (hgn : d.ch.n ≤ 1048576) (hsn : d.sn ≤ 1048576) (hgn' : d'.ch.n ≤ 1048576) (hsn' : d'.sn ≤ 1048576) (hR : d.Has w G S) (hR' : d'.Has w G' S')
    (c0 : w.cell? ⟨g, o, none⟩ = some (.int .i64 d.num)) (c1 : w.cell? ⟨g, o + 1, none⟩ = some (.string d.name)) (c2 : w.cell? ⟨g, o + 2, none⟩ = some (.int .i64 d.ax)) (c3 : w.cell? ⟨g, o + 3, none⟩ = some (.int .i64 d.ay)) (c4 : w.cell? ⟨g, o + 4, none⟩ = some (.int .i64 d.ht)) (c5 : w.cell? ⟨g, o + 5, none⟩ = some (.int .i64 d.kd)) (c6 : w.cell? ⟨g, o + 6, none⟩ = some (.string d.mc)) (c7 : w.cell? ⟨g, o + 7, none⟩ = some (.string d.ms)) (c8 : w.cell? ⟨g, o + 8, none⟩ = some (.string d.mt)) (c9 : w.cell? ⟨g, o + 9, none⟩ = some (.int .i64 d.ch.k)) (c10 : w.cell? ⟨g, o + 10, none⟩ = some (.slice G d.ch.n gc)) (c11 : w.cell? ⟨g, o + 11, none⟩ = some (.string d.ch.lt)) (c12 : w.cell? ⟨g, o + 12, none⟩ = some (.string d.ch.cl)) (c13 : w.cell? ⟨g, o + 13, none⟩ = some (.int .i64 d.ch.pd)) (c14 : w.cell? ⟨g, o + 14, none⟩ = some (.slice S d.sn sc)) (c15 : w.cell? ⟨g, o + 15, none⟩ = some (.int .i64 d.it))
    (d0 : w.cell? ⟨g', o', none⟩ = some (.int .i64 d'.num)) (d1 : w.cell? ⟨g', o' + 1, none⟩ = some (.string d'.name)) (d2 : w.cell? ⟨g', o' + 2, none⟩ = some (.int .i64 d'.ax)) (d3 : w.cell? ⟨g', o' + 3, none⟩ = some (.int .i64 d'.ay)) (d4 : w.cell? ⟨g', o' + 4, none⟩ = some (.int .i64 d'.ht)) (d5 : w.cell? ⟨g', o' + 5, none⟩ = some (.int .i64 d'.kd)) (d6 : w.cell? ⟨g', o' + 6, none⟩ = some (.string d'.mc)) (d7 : w.cell? ⟨g', o' + 7, none⟩ = some (.string d'.ms)) (d8 : w.cell? ⟨g', o' + 8, none⟩ = some (.string d'.mt)) (d9 : w.cell? ⟨g', o' + 9, none⟩ = some (.int .i64 d'.ch.k)) (d10 : w.cell? ⟨g', o' + 10, none⟩ = some (.slice G' d'.ch.n gc')) (d11 : w.cell? ⟨g', o' + 11, none⟩ = some (.string d'.ch.lt)) (d12 : w.cell? ⟨g', o' + 12, none⟩ = some (.string d'.ch.cl)) (d13 : w.cell? ⟨g', o' + 13, none⟩ = some (.int .i64 d'.ch.pd)) (d14 : w.cell? ⟨g', o' + 14, none⟩ = some (.slice S' d'.sn sc')) (d15 : w.cell? ⟨g', o' + 15, none⟩ = some (.int .i64 d'.it)) :
    Calls Try.prog 18 #[.pointer (some ⟨g, o, none⟩), .pointer (some ⟨g', o', none⟩)] w fun e w' => e = .returned (.bool (d.same d')) ∧ Below w.heap.size w w' := by
  have k0 : ∀ y : Aft w, y.w1.cell? ⟨g, o, none⟩ = some (.int .i64 d.num) := fun y => y.cell (cell_lt c0) c0
  have k1 : ∀ y : Aft w, y.w1.cell? ⟨g, o + 1, none⟩ = some (.string d.name) := fun y => y.cell (cell_lt c1) c1
  have k2 : ∀ y : Aft w, y.w1.cell? ⟨g, o + 2, none⟩ = some (.int .i64 d.ax) := fun y => y.cell (cell_lt c2) c2
  have k3 : ∀ y : Aft w, y.w1.cell? ⟨g, o + 3, none⟩ = some (.int .i64 d.ay) := fun y => y.cell (cell_lt c3) c3
  have k4 : ∀ y : Aft w, y.w1.cell? ⟨g, o + 4, none⟩ = some (.int .i64 d.ht) := fun y => y.cell (cell_lt c4) c4
  have k5 : ∀ y : Aft w, y.w1.cell? ⟨g, o + 5, none⟩ = some (.int .i64 d.kd) := fun y => y.cell (cell_lt c5) c5
  have k6 : ∀ y : Aft w, y.w1.cell? ⟨g, o + 6, none⟩ = some (.string d.mc) := fun y => y.cell (cell_lt c6) c6
  have k7 : ∀ y : Aft w, y.w1.cell? ⟨g, o + 7, none⟩ = some (.string d.ms) := fun y => y.cell (cell_lt c7) c7
  have k8 : ∀ y : Aft w, y.w1.cell? ⟨g, o + 8, none⟩ = some (.string d.mt) := fun y => y.cell (cell_lt c8) c8
  have k9 : ∀ y : Aft w, y.w1.cell? ⟨g, o + 9, none⟩ = some (.int .i64 d.ch.k) := fun y => y.cell (cell_lt c9) c9
  have k10 : ∀ y : Aft w, y.w1.cell? ⟨g, o + 10, none⟩ = some (.slice G d.ch.n gc) := fun y => y.cell (cell_lt c10) c10
  have k11 : ∀ y : Aft w, y.w1.cell? ⟨g, o + 11, none⟩ = some (.string d.ch.lt) := fun y => y.cell (cell_lt c11) c11
  have k12 : ∀ y : Aft w, y.w1.cell? ⟨g, o + 12, none⟩ = some (.string d.ch.cl) := fun y => y.cell (cell_lt c12) c12
  have k13 : ∀ y : Aft w, y.w1.cell? ⟨g, o + 13, none⟩ = some (.int .i64 d.ch.pd) := fun y => y.cell (cell_lt c13) c13
  have k14 : ∀ y : Aft w, y.w1.cell? ⟨g, o + 14, none⟩ = some (.slice S d.sn sc) := fun y => y.cell (cell_lt c14) c14
  have k15 : ∀ y : Aft w, y.w1.cell? ⟨g, o + 15, none⟩ = some (.int .i64 d.it) := fun y => y.cell (cell_lt c15) c15
  have l0 : ∀ y : Aft w, y.w1.cell? ⟨g', o', none⟩ = some (.int .i64 d'.num) := fun y => y.cell (cell_lt d0) d0
  have l1 : ∀ y : Aft w, y.w1.cell? ⟨g', o' + 1, none⟩ = some (.string d'.name) := fun y => y.cell (cell_lt d1) d1
  have l2 : ∀ y : Aft w, y.w1.cell? ⟨g', o' + 2, none⟩ = some (.int .i64 d'.ax) := fun y => y.cell (cell_lt d2) d2
  have l3 : ∀ y : Aft w, y.w1.cell? ⟨g', o' + 3, none⟩ = some (.int .i64 d'.ay) := fun y => y.cell (cell_lt d3) d3
  have l4 : ∀ y : Aft w, y.w1.cell? ⟨g', o' + 4, none⟩ = some (.int .i64 d'.ht) := fun y => y.cell (cell_lt d4) d4
  have l5 : ∀ y : Aft w, y.w1.cell? ⟨g', o' + 5, none⟩ = some (.int .i64 d'.kd) := fun y => y.cell (cell_lt d5) d5
  have l6 : ∀ y : Aft w, y.w1.cell? ⟨g', o' + 6, none⟩ = some (.string d'.mc) := fun y => y.cell (cell_lt d6) d6
  have l7 : ∀ y : Aft w, y.w1.cell? ⟨g', o' + 7, none⟩ = some (.string d'.ms) := fun y => y.cell (cell_lt d7) d7
  have l8 : ∀ y : Aft w, y.w1.cell? ⟨g', o' + 8, none⟩ = some (.string d'.mt) := fun y => y.cell (cell_lt d8) d8
  have l9 : ∀ y : Aft w, y.w1.cell? ⟨g', o' + 9, none⟩ = some (.int .i64 d'.ch.k) := fun y => y.cell (cell_lt d9) d9
  have l10 : ∀ y : Aft w, y.w1.cell? ⟨g', o' + 10, none⟩ = some (.slice G' d'.ch.n gc') := fun y => y.cell (cell_lt d10) d10
  have l11 : ∀ y : Aft w, y.w1.cell? ⟨g', o' + 11, none⟩ = some (.string d'.ch.lt) := fun y => y.cell (cell_lt d11) d11
  have l12 : ∀ y : Aft w, y.w1.cell? ⟨g', o' + 12, none⟩ = some (.string d'.ch.cl) := fun y => y.cell (cell_lt d12) d12
  have l13 : ∀ y : Aft w, y.w1.cell? ⟨g', o' + 13, none⟩ = some (.int .i64 d'.ch.pd) := fun y => y.cell (cell_lt d13) d13
  have l14 : ∀ y : Aft w, y.w1.cell? ⟨g', o' + 14, none⟩ = some (.slice S' d'.sn sc') := fun y => y.cell (cell_lt d14) d14
  have l15 : ∀ y : Aft w, y.w1.cell? ⟨g', o' + 15, none⟩ = some (.int .i64 d'.it) := fun y => y.cell (cell_lt d15) d15
  have HC := Lib.hid (fun x : Aft w => l05Same_c g (o + 9) g' (o' + 9) d.ch d'.ch G gc G' gc' x.w1 hgn hgn' (hR.1.aft x) (hR'.1.aft x) (k9 x) (k10 x) (k11 x) (k12 x) (k13 x) (l9 x) (l10 x) (l11 x) (l12 x) (l13 x))
  have HS := Lib.hid (fun x : Aft w => specSameSecs_c S S' d.sn d'.sn sc sc' d.s0 d.s1 d.s2 d'.s0 d'.s1 d'.s2 x.w1 hsn hsn' (hR.2.aft x) (hR'.2.aft x))
  have HEP := eqlPoint_run d.ax d.ay d'.ax d'.ay
  have HEM := eqlMark_run d.kd d.mc d.ms d.mt d'.kd d'.mc d'.ms d'.mt
  unfold AidD.same
  generalize dPoint d.ax d.ay d'.ax d'.ay = vP at *
  generalize dMark d.kd d.mc d.ms d.mt d'.kd d'.mc d'.ms d'.mt = vM at *
  generalize d.ch.same d'.ch = vC at *
  generalize sameSector d.sn d'.sn d.s0 d.s1 d.s2 d'.s0 d'.s1 d'.s2 = vS at *
  clear c0 d0 c1 d1 c2 d2 c3 d3 c4 d4 c5 d5 c6 d6 c7 d7 c8 d8 c9 d9 c10 d10 c11 d11 c12 d12 c13 d13 c14 d14 c15 d15
  cases v0 : (d.num == d'.num)
  · skip
    go_enter Try.func18, Try.ntmps18
    go_wp2
    refine wp_region_aft (by kernel_rfl) (by kernel_rfl) ?_
    simp only [List.append_eq, List.cons_append, List.nil_append]
    repeat (go_big_quiet_step (first | (go_at_call 32; exact Aft.call (HC.out _)) | (go_at_call 33; exact Aft.call (HS.out _))))
    refine wpQuiet_nil ?_
    intro w1 hb1
    go_wp2
    go_ret
    exact ⟨ret_bool (by simp), hb1⟩
  · skip
    cases v1 : (d.name.toList == d'.name.toList)
    · skip
      go_enter Try.func18, Try.ntmps18
      go_wp2
      refine wp_region_aft (by kernel_rfl) (by kernel_rfl) ?_
      simp only [List.append_eq, List.cons_append, List.nil_append]
      repeat (go_big_quiet_step (first | (go_at_call 32; exact Aft.call (HC.out _)) | (go_at_call 33; exact Aft.call (HS.out _))))
      refine wpQuiet_nil ?_
      intro w1 hb1
      go_wp2
      go_ret
      exact ⟨ret_bool (by simp), hb1⟩
    · skip
      cases v2 : vP
      · skip
        go_enter Try.func18, Try.ntmps18
        go_wp2
        refine wp_region_aft (by kernel_rfl) (by kernel_rfl) ?_
        simp only [List.append_eq, List.cons_append, List.nil_append]
        repeat (go_big_quiet_step (first | (go_at_call 32; exact Aft.call (HC.out _)) | (go_at_call 33; exact Aft.call (HS.out _))))
        refine wpQuiet_nil ?_
        intro w1 hb1
        go_wp2
        go_ret
        exact ⟨ret_bool (by simp), hb1⟩
      · skip
        cases v3 : (d.ht == d'.ht)
        · skip
          go_enter Try.func18, Try.ntmps18
          go_wp2
          refine wp_region_aft (by kernel_rfl) (by kernel_rfl) ?_
          simp only [List.append_eq, List.cons_append, List.nil_append]
          repeat (go_big_quiet_step (first | (go_at_call 32; exact Aft.call (HC.out _)) | (go_at_call 33; exact Aft.call (HS.out _))))
          refine wpQuiet_nil ?_
          intro w1 hb1
          go_wp2
          go_ret
          exact ⟨ret_bool (by simp), hb1⟩
        · skip
          cases v4 : vM
          · skip
            go_enter Try.func18, Try.ntmps18
            go_wp2
            refine wp_region_aft (by kernel_rfl) (by kernel_rfl) ?_
            simp only [List.append_eq, List.cons_append, List.nil_append]
            repeat (go_big_quiet_step (first | (go_at_call 32; exact Aft.call (HC.out _)) | (go_at_call 33; exact Aft.call (HS.out _))))
            refine wpQuiet_nil ?_
            intro w1 hb1
            go_wp2
            go_ret
            exact ⟨ret_bool (by simp), hb1⟩
          · skip
            cases v5 : vC
            · skip
              go_enter Try.func18, Try.ntmps18
              go_wp2
              refine wp_region_aft (by kernel_rfl) (by kernel_rfl) ?_
              simp only [List.append_eq, List.cons_append, List.nil_append]
              repeat (go_big_quiet_step (first | (go_at_call 32; exact Aft.call (HC.out _)) | (go_at_call 33; exact Aft.call (HS.out _))))
              refine wpQuiet_nil ?_
              intro w1 hb1
              go_wp2
              go_ret
              exact ⟨ret_bool (by simp), hb1⟩
            · skip
              cases v6 : vS
              · skip
                go_enter Try.func18, Try.ntmps18
                go_wp2
                refine wp_region_aft (by kernel_rfl) (by kernel_rfl) ?_
                simp only [List.append_eq, List.cons_append, List.nil_append]
                repeat (go_big_quiet_step (first | (go_at_call 32; exact Aft.call (HC.out _)) | (go_at_call 33; exact Aft.call (HS.out _))))
                refine wpQuiet_nil ?_
                intro w1 hb1
                go_wp2
                go_ret
                exact ⟨ret_bool (by simp), hb1⟩
              · skip
                cases v7 : (d.it == d'.it)
                · skip
                  go_enter Try.func18, Try.ntmps18
                  go_wp2
                  refine wp_region_aft (by kernel_rfl) (by kernel_rfl) ?_
                  simp only [List.append_eq, List.cons_append, List.nil_append]
                  repeat (go_big_quiet_step (first | (go_at_call 32; exact Aft.call (HC.out _)) | (go_at_call 33; exact Aft.call (HS.out _))))
                  refine wpQuiet_nil ?_
                  intro w1 hb1
                  go_wp2
                  go_ret
                  exact ⟨ret_bool (by simp), hb1⟩
                · skip
                  go_enter Try.func18, Try.ntmps18
                  go_wp2
                  refine wp_region_aft (by kernel_rfl) (by kernel_rfl) ?_
                  simp only [List.append_eq, List.cons_append, List.nil_append]
                  repeat (go_big_quiet_step (first | (go_at_call 32; exact Aft.call (HC.out _)) | (go_at_call 33; exact Aft.call (HS.out _))))
                  refine wpQuiet_nil ?_
                  intro w1 hb1
                  go_wp2
                  go_ret
                  exact ⟨ret_bool (by simp), hb1⟩
end Go.Proofs.Ytolijmldobncbaa
