/- The gates of a channel: the reference whole; the program's. -/
import Derived.Test.YtimfpnmcdicldaaGateG
namespace Go.Proofs.Ytimfpnmcdicldaa
open Go Go.RowKit
set_option maxRecDepth 100000 in
set_option maxHeartbeats 4000000 in
theorem l13Gates_c (g : Nat) (nm : ByteArray) (A : Option Addr) (n cap : Nat) (wd sp : Int) (X Y : Nat → Int) (w : World) (hs : nm.size ≤ maxLen) (hn : n ≤ 1048576) (hR : Rec 2 w A n (vPoint X Y))
    (c0 : w.cell? ⟨g, 0, none⟩ = some (.string nm)) (c1 : w.cell? ⟨g, 1, none⟩ = some (.slice A n cap)) (c2 : w.cell? ⟨g, 2, none⟩ = some (.int .i64 wd)) :
    Calls Try.prog 58 #[.pointer (some ⟨g, 0, none⟩), .int .i64 sp] w (GPost (gf0 X Y n sp) (gf1 X Y n wd sp) (gf2 X Y n wd sp) (gf3 X Y n wd sp) (gf4 X Y n wd sp) (gaM X Y n wd sp nm) (gaCode X Y n wd sp nm) w) := by
  cases v1 : okChan nm n X Y wd
  · have hcode : gaCode X Y n wd sp nm = 1 := by unfold gaCode; rw [if_neg (by simp [v1])]
    have hm : gaM X Y n wd sp nm = 0 := by unfold gaM; rw [if_neg (by omega)]
    rw [hcode, hm]
    have HOk := Lib.hid (l13Ok_c g nm A n cap wd X Y w hs hn hR c0 c1 c2)
    rw [v1] at HOk
    clear hcode hm v1
    go_enter Try.func58, Try.ntmps58
    go_wp2_with fail
    refine (Aft.first HOk.out).mono ?_
    rintro e _ ⟨rfl, x1, rfl⟩
    go_wp2
    go_ret2
    exact ⟨none, 0, rfl, SO.nil, x1.below⟩
  · cases v2 : inR sp 50 200000
    · have hcode : gaCode X Y n wd sp nm = 2 := by unfold gaCode; rw [if_pos v1, if_neg (by simp [v2])]
      have hm : gaM X Y n wd sp nm = 0 := by unfold gaM; rw [if_neg (by omega)]
      rw [hcode, hm]
      have HOk := Lib.hid (l13Ok_c g nm A n cap wd X Y w hs hn hR c0 c1 c2)
      rw [v1] at HOk
      have HV := Lib.hid v2
      clear hcode hm v1 v2
      go_enter Try.func58, Try.ntmps58
      go_wp2_with fail
      refine (Aft.first HOk.out).mono ?_
      rintro e _ ⟨rfl, x1, rfl⟩
      go_wp2_with (go_at_call 43; refine (l00In_v HV.out _).mono ?_; rintro e _ ⟨rfl, rfl⟩)
      go_ret2
      exact ⟨none, 0, rfl, SO.nil, x1.below⟩
    · exact specGates_in g nm A n cap wd sp X Y w hs hn hR v1 v2 c0 c1 c2
set_option maxHeartbeats 4000000 in
theorem specGatesFor_c (nm : ByteArray) (A : Option Addr) (n cap : Nat) (wd sp : Int) (X Y : Nat → Int) (w : World) (hs : nm.size ≤ maxLen) (hn : n ≤ 1048576) (hR : Rec 2 w A n (vPoint X Y)) :
    Calls Try.prog 21 #[.agg #[.string nm, .slice A n cap, .int .i64 wd], .int .i64 sp] w (GPost (gf0 X Y n sp) (gf1 X Y n wd sp) (gf2 X Y n wd sp) (gf3 X Y n wd sp) (gf4 X Y n wd sp) (gaM X Y n wd sp nm) (gaCode X Y n wd sp nm) w) := by
  have HL := Lib.hid (fun W h c0 c1 c2 => l13Gates_c w.heap.size nm A n cap wd sp X Y W hs hn h c0 c1 c2)
  generalize gaCode X Y n wd sp nm = code at *
  generalize gaM X Y n wd sp nm = m at *
  generalize gf0 X Y n sp = f0 at *
  generalize gf1 X Y n wd sp = f1 at *
  generalize gf2 X Y n wd sp = f2 at *
  generalize gf3 X Y n wd sp = f3 at *
  generalize gf4 X Y n wd sp = f4 at *
  go_enter Try.func21, Try.ntmps21
  go_wp2_with fail
  refine (HL.out _ (hR.below (by repeat (first | exact Below.refl _ _ | refine Below.alloc ?_ (by simp; try omega) _ | refine Below.drew ?_))) (by simp [go_sem]) (by simp [go_sem]) (by simp [go_sem])).mono ?_
  rintro e w1 ⟨B, c, rfl, hso, hb1⟩
  have HSO := Lib.hid (hso.mono (Nat.le_of_lt (by simp : w.heap.size < (w.alloc (.cells #[.string nm, .slice A n cap, .int .i64 wd] 32)).heap.size)))
  clear hso
  go_wp2
  go_ret2
  exact ⟨B, c, rfl, HSO.out, below_box hb1⟩
set_option maxRecDepth 100000 in
set_option maxHeartbeats 4000000 in
theorem badGate_c (d a b c e' : Int) (v : Bool) (hv : (okP a b && okP c e') = v) (w : World) :
    Calls Try.prog 61 #[.agg #[.int .i64 d, .int .i64 a, .int .i64 b, .int .i64 c, .int .i64 e']] w fun e w' => e = .returned (.bool (!v)) ∧ Below w.heap.size w w' := by
  go_enter Try.func61, Try.ntmps61
  go_wp2_with fail
  refine (arePoints_c _ _ a b c e' v hv _ (by simp [go_sem]) (by simp [go_sem]) (by simp [go_sem]) (by simp [go_sem])).mono ?_
  rintro e _ ⟨rfl, hb1⟩
  go_wp2
  go_ret
  exact ⟨rfl, below_box (below_box hb1)⟩
set_option maxRecDepth 100000 in
set_option maxHeartbeats 4000000 in
theorem indexBad_c (A : Option Addr) (n cap : Nat) (f0 f1 f2 f3 f4 : Nat → Int) (w : World) (hn : n ≤ 1048576) (hR : Rec 5 w A n (vGate f0 f1 f2 f3 f4)) :
    Calls Try.prog 91 #[.slice A n cap, .func (.func 61) #[] #[]] w fun e w' => (∃ r : Int, e = .returned (.int .i64 r) ∧ decide (0 ≤ r) = !allB n (fun i => okP (f1 i) (f2 i) && okP (f3 i) (f4 i))) ∧ Below w.heap.size w w' := by
  go_enter Try.func91, Try.ntmps91
  go_wp2
  go_loopw [8] (fun i wr => ∃ (k : Nat) (x : Aft w), k ≤ n ∧ i = .int .i64 k ∧ wr = x.w1 ∧ Hid (∀ i, i < k → (okP (f1 i) (f2 i) && okP (f3 i) (f4 i)) = true)) (fun i _ => n - (intOf i).toNat)
  case atStart => exact ⟨0, ⟨w, Below.refl _ _⟩, by omega, rfl, rfl, Lib.hid (fun i hi => by omega)⟩
  case round =>
    obtain ⟨k, x, hk, rfl, rfl, hall⟩ := hrel
    by_cases hlt : k < n
    · obtain ⟨b, o, hi⟩ := hR
      obtain ⟨rfl, hc⟩ := hi k hlt
      have q0 : w.cell? ⟨b, o + k * 5, none⟩ = some (.int .i64 (f0 k)) := by simpa [vGate, Nat.add_assoc] using hc 0 (by omega)
      have c0 : ∀ y : Aft w, y.w1.cell? ⟨b, o + k * 5, none⟩ = some (.int .i64 (f0 k)) := fun y => y.cell (cell_lt q0) q0
      have q1 : w.cell? ⟨b, o + k * 5 + 1, none⟩ = some (.int .i64 (f1 k)) := by simpa [vGate, Nat.add_assoc] using hc 1 (by omega)
      have c1 : ∀ y : Aft w, y.w1.cell? ⟨b, o + k * 5 + 1, none⟩ = some (.int .i64 (f1 k)) := fun y => y.cell (cell_lt q1) q1
      have q2 : w.cell? ⟨b, o + k * 5 + 2, none⟩ = some (.int .i64 (f2 k)) := by simpa [vGate, Nat.add_assoc] using hc 2 (by omega)
      have c2 : ∀ y : Aft w, y.w1.cell? ⟨b, o + k * 5 + 2, none⟩ = some (.int .i64 (f2 k)) := fun y => y.cell (cell_lt q2) q2
      have q3 : w.cell? ⟨b, o + k * 5 + 3, none⟩ = some (.int .i64 (f3 k)) := by simpa [vGate, Nat.add_assoc] using hc 3 (by omega)
      have c3 : ∀ y : Aft w, y.w1.cell? ⟨b, o + k * 5 + 3, none⟩ = some (.int .i64 (f3 k)) := fun y => y.cell (cell_lt q3) q3
      have q4 : w.cell? ⟨b, o + k * 5 + 4, none⟩ = some (.int .i64 (f4 k)) := by simpa [vGate, Nat.add_assoc] using hc 4 (by omega)
      have c4 : ∀ y : Aft w, y.w1.cell? ⟨b, o + k * 5 + 4, none⟩ = some (.int .i64 (f4 k)) := fun y => y.cell (cell_lt q4) q4
      clear hc hi q0 q1 q2 q3 q4
      cases hv : (okP (f1 k) (f2 k) && okP (f3 k) (f4 k))
      all_goals
        have HV := Lib.hid hv
        have HBd := Lib.hid (fun W => badGate_c (f0 k) (f1 k) (f2 k) (f3 k) (f4 k) _ hv W)
        clear hv
        go_wp2_with fail
        refine (HBd.out _).mono ?_
        rintro e w2 ⟨rfl, hb2⟩
        go_wp2
        first
          | (go_ret
             exact ⟨⟨_, rfl, by rw [allB_no hlt HV.out]; simp⟩, held_next x.below hb2⟩)
          | (go_roundw
             case rel => exact ⟨k + 1, ⟨w2, held_next x.below hb2⟩, by omega, by go_num, rfl, Lib.hid (fun i hi => by
               by_cases e : i = k
               · rw [e]; exact HV.out
               · exact hall.out i (by omega))⟩
             case measure => simp [intOf]; omega)
    · obtain rfl : k = n := by omega
      go_wp2
      go_ret
      exact ⟨⟨_, rfl, by rw [allB_yes hall.out]; rfl⟩, x.below⟩
end Go.Proofs.Ytimfpnmcdicldaa
