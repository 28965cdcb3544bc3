/- Two channels held against each other: the program and the reference. -/
import Derived.Test.YtfmljppofkocmaaChan
namespace Go.Proofs.Ytfmljppofkocmaa
open Go Go.RowKit
def sameChan (nm : ByteArray) (n : Nat) (wd : Int) (X Y : Nat → Int) (nm' : ByteArray) (n' : Nat) (wd' : Int) (X' Y' : Nat → Int) : Bool := (nm.toList == nm'.toList) && ((wd == wd') && samePoint n n' X Y X' Y')
set_option maxHeartbeats 4000000 in
theorem l13Same_c (g g' : Nat) (nm : ByteArray) (A : Option Addr) (n cap : Nat) (wd : Int) (X Y : Nat → Int) (nm' : ByteArray) (A' : Option Addr) (n' cap' : Nat) (wd' : Int) (X' Y' : Nat → Int) (w : World) (hn : n ≤ 1048576) (hn' : n' ≤ 1048576) (hR : Rec 2 w A n (vPoint X Y)) (hR' : Rec 2 w A' n' (vPoint X' Y'))
    (c0 : w.cell? ⟨g, 0, none⟩ = some (.string nm)) (c1 : w.cell? ⟨g, 1, none⟩ = some (.slice A n cap)) (c2 : w.cell? ⟨g, 2, none⟩ = some (.int .i64 wd))
    (d0 : w.cell? ⟨g', 0, none⟩ = some (.string nm')) (d1 : w.cell? ⟨g', 1, none⟩ = some (.slice A' n' cap')) (d2 : w.cell? ⟨g', 2, none⟩ = some (.int .i64 wd')) :
    Calls Try.prog 72 #[.pointer (some ⟨g, 0, none⟩), .pointer (some ⟨g', 0, none⟩)] w fun e w' => e = .returned (.bool (sameChan nm n wd X Y nm' n' wd' X' Y')) ∧ Below w.heap.size w w' := by
  have hg : g < w.heap.size := cell_lt c0
  have hg' : g' < w.heap.size := cell_lt d0
  have k0 : ∀ y : Aft w, y.w1.cell? ⟨g, 0, none⟩ = some (.string nm) := fun y => y.cell hg c0
  have k1 : ∀ y : Aft w, y.w1.cell? ⟨g, 1, none⟩ = some (.slice A n cap) := fun y => y.cell hg c1
  have k2 : ∀ y : Aft w, y.w1.cell? ⟨g, 2, none⟩ = some (.int .i64 wd) := fun y => y.cell hg c2
  have l0 : ∀ y : Aft w, y.w1.cell? ⟨g', 0, none⟩ = some (.string nm') := fun y => y.cell hg' d0
  have l1 : ∀ y : Aft w, y.w1.cell? ⟨g', 1, none⟩ = some (.slice A' n' cap') := fun y => y.cell hg' d1
  have l2 : ∀ y : Aft w, y.w1.cell? ⟨g', 2, none⟩ = some (.int .i64 wd') := fun y => y.cell hg' d2
  have HP := Lib.hid (fun x : Aft w => specSamePoint_c A A' n n' cap cap' X Y X' Y' x.w1 hn hn' (hR.aft x) (hR'.aft x))
  unfold sameChan
  generalize samePoint n n' X Y X' Y' = v3 at *
  clear c0 c1 c2 d0 d1 d2 hg hg'
  cases v1 : (nm.toList == nm'.toList) <;> cases v2 : (wd == wd')
  all_goals
    go_enter Try.func72, Try.ntmps72
    go_wp2
    refine wp_region_aft (by kernel_rfl) (by kernel_rfl) ?_
    repeat (go_big_quiet_step ((go_at_call 106; exact Aft.call (HP.out _))))
    refine wpQuiet_nil ?_
    intro w1 hb1
    go_wp2
    go_ret
    exact ⟨ret_bool (by simp), hb1⟩
set_option maxHeartbeats 1000000 in
theorem specSameChannel_c (nm : ByteArray) (A : Option Addr) (n cap : Nat) (wd : Int) (X Y : Nat → Int) (nm' : ByteArray) (A' : Option Addr) (n' cap' : Nat) (wd' : Int) (X' Y' : Nat → Int) (w : World) (hn : n ≤ 1048576) (hn' : n' ≤ 1048576) (hR : Rec 2 w A n (vPoint X Y)) (hR' : Rec 2 w A' n' (vPoint X' Y')) :
    Calls Try.prog 32 #[.agg #[.string nm, .slice A n cap, .int .i64 wd], .agg #[.string nm', .slice A' n' cap', .int .i64 wd']] w fun e w' => e = .returned (.bool (sameChan nm n wd X Y nm' n' wd' X' Y')) ∧ Below w.heap.size w w' := by
  go_enter Try.func32, Try.ntmps32
  go_wp2_with fail
  refine (l13Same_c _ _ nm A n cap wd X Y nm' A' n' cap' wd' X' Y' _ hn hn' (hR.below (by repeat (first | exact Below.refl _ _ | refine Below.alloc ?_ (by simp; try omega) _ | refine Below.drew ?_))) (hR'.below (by repeat (first | exact Below.refl _ _ | refine Below.alloc ?_ (by simp; try omega) _ | refine Below.drew ?_))) (by simp [go_sem]) (by simp [go_sem]) (by simp [go_sem]) (by simp [go_sem]) (by simp [go_sem]) (by simp [go_sem])).mono ?_
  rintro e w1 ⟨rfl, hb1⟩
  go_wp2
  go_ret
  exact ⟨rfl, below_box (below_box hb1)⟩
set_option maxHeartbeats 4000000 in
theorem implSameChannel_c (nm : ByteArray) (A : Option Addr) (n cap : Nat) (wd : Int) (X Y : Nat → Int) (nm' : ByteArray) (A' : Option Addr) (n' cap' : Nat) (wd' : Int) (X' Y' : Nat → Int) (w : World) (hn : n ≤ 1048576) (hn' : n' ≤ 1048576) (hR : Rec 2 w A n (vPoint X Y)) (hR' : Rec 2 w A' n' (vPoint X' Y')) :
    Calls Try.prog 34 #[.agg #[.string nm, .slice A n cap, .int .i64 wd], .agg #[.string nm', .slice A' n' cap', .int .i64 wd']] w fun e w' => e = .returned (.bool (sameChan nm n wd X Y nm' n' wd' X' Y')) ∧ Below w.heap.size w w' := by
  have HP := Lib.hid (fun W h h' => implSamePoint_c A A' n n' cap cap' X Y X' Y' W hn hn' h h')
  unfold sameChan
  generalize samePoint n n' X Y X' Y' = v3 at *
  cases v1 : (nm.toList == nm'.toList) <;> cases v2 : (wd == wd') <;> cases v3
  all_goals
    go_enter Try.func34, Try.ntmps34
    go_wp2_with fail
    first
      | (refine (HP.out _ (hR.below (by repeat (first | exact Below.refl _ _ | refine Below.alloc ?_ (by simp; try omega) _ | refine Below.drew ?_))) (hR'.below (by repeat (first | exact Below.refl _ _ | refine Below.alloc ?_ (by simp; try omega) _ | refine Below.drew ?_)))).mono ?_
         rintro e w1 ⟨rfl, hb1⟩
         obtain ⟨hc, hf⟩ := bcell hb1
         have hz := hb1.size
         simp at hz
         clear hf
         go_wp2
         go_ret
         exact ⟨ret_bool (by simp), below_box (below_box hb1)⟩)
      | (go_ret
         exact ⟨ret_bool (by simp), (by repeat (first | exact Below.refl _ _ | refine Below.alloc ?_ (by simp; try omega) _ | refine Below.drew ?_))⟩)
end Go.Proofs.Ytfmljppofkocmaa
