/- Reading fog signals: the reference's. -/
import Derived.Test.YtimfpnmcdicldaaDoorFgS
import Derived.Test.YtimfpnmcdicldaaDoorNumW
import Derived.Test.YtimfpnmcdicldaaDoorBlk
namespace Go.Proofs.YtimfpnmcdicldaaDoor
open Go Go.RowKit Go.Shelf
theorem pieces_pos (s : ByteArray) : 1 ≤ (pieces 32 s).length := by
  have : spl 32 s.data.toList ≠ [] := spl_ne 32 _
  have h2 : (pieces 32 s).length = (spl 32 s.data.toList).length := by unfold pieces; simp
  have h3 : 0 < (spl 32 s.data.toList).length := List.length_pos_iff.2 this
  omega
theorem str_beq {a b : ByteArray} : (a.toList == b.toList) = true ↔ a = b := by
  rw [beq_iff_eq, ByteArray.toList_eq, ByteArray.toList_eq]
  constructor
  · intro h
    exact ByteArray.ext (Array.toList_inj.1 h)
  · rintro rfl; rfl
theorem str_bne {a b : ByteArray} (h : ¬ a = b) : (a.toList == b.toList) = false := by
  cases he : (a.toList == b.toList)
  · rfl
  · exact (h (str_beq.1 he)).elim
/-- How much of the periods is left. -/
def leftP (g : Nat) (w : World) : Nat := match w.cell? ⟨g, 2, none⟩ with
  | some (.int _ n) => (1300 - n).toNat
  | _ => 0
set_option maxRecDepth 100000 in
set_option maxHeartbeats 8000000 in
theorem specReadFog_c (s : ByteArray) (hs : s.size ≤ 1048576) (w : World) :
    Calls Tryd.prog 25 #[.string s] w (FogPost s w) := by
  generalize hW0 : w.alloc (.cells #[.int .i64 0, .int .i64 0, .int .i64 0, .int .i64 0] 36) = W0
  have hbW0 : Below w.heap.size w W0 := hW0 ▸ (by repeat (first | exact Below.refl _ _ | refine Below.alloc ?_ (by simp; try omega) _ | refine Below.drew ?_))
  have HB0 : Hid (Blk W0 w.heap.size 36 #[.int .i64 0, .int .i64 0, .int .i64 0, .int .i64 0]) := Lib.hid (hW0 ▸ Blk.new _ _ _)
  have HSp := Lib.hid (l01Split_c 32 s hs W0)
  have hps := pieces_pos s
  by_cases h3 : (pieces 32 s).length = 3
  · obtain ⟨q0, q1, q2, hq⟩ : ∃ q0 q1 q2, pieces 32 s = [q0, q1, q2] := by
      match hm : pieces 32 s, h3 with
      | [a, b, c], _ => exact ⟨a, b, c, rfl⟩
    have hz2 : q2.size ≤ 1048576 := Nat.le_trans (pieces_le (c := 32) (s := s) (by rw [hq]; simp)) hs
    have HF := Lib.hid (fun k b p pw (h : FogOf s k b p pw) => (show q0 = fogHead k b ∧ q1 = secT p ++ (⟨#[115]⟩ : ByteArray) ∧ q2 = dec pw by
      have := (fogOf_pieces h).symm.trans hq
      simp only [List.cons.injEq, and_true] at this
      exact ⟨this.1.symm, this.2.1.symm, this.2.2.symm⟩))
    have HY := Lib.hid (fun k b p pw (h : okFog k b p pw = true) (h0 : q0 = fogHead k b) (h1 : q1 = secT p ++ (⟨#[115]⟩ : ByteArray)) (h2 : q2 = dec pw) => fogOf_of (s := s) h (by rw [hq, h0, h1, h2]))
    rw [hq] at HSp
    have hlen : [q0, q1, q2].length = 3 := rfl
    rw [hlen] at HSp
    have HNum := Lib.hid (fun W => l01Number_c q2 hz2 W)
    clear hps h3 hlen
    go_enter Tryd.func25, Tryd.ntmps25
    go_wp2_with fail
    refine HSp.out.mono ?_
    rintro e w1 ⟨v, rfl, hown, hb1⟩
    obtain ⟨gp, cp, rfl⟩ := Go.Joins.ownsRow_form hown (by omega)
    have hbW1 := held_next hbW0 hb1
    have HP0 : Hid (∀ y : Aft w1, y.w1.cell? ⟨gp, 0, none⟩ = some (.string q0)) := Lib.hid (fun y => by
      have h0 : w1.cell? ⟨gp, 0, none⟩ = some (.string q0) := (hown.cellAt 0 (by omega)).trans rfl
      exact y.cell (cell_lt h0) h0)
    have HP1 : Hid (∀ y : Aft w1, y.w1.cell? ⟨gp, 1, none⟩ = some (.string q1)) := Lib.hid (fun y => by
      have h0 : w1.cell? ⟨gp, 1, none⟩ = some (.string q1) := (hown.cellAt 1 (by omega)).trans rfl
      exact y.cell (cell_lt h0) h0)
    have p2 : w1.cell? ⟨gp, 2, none⟩ = some (.string q2) := (hown.cellAt 2 (by omega)).trans rfl
    have HB1 := Lib.hid (fun (y : Aft w1) => (HB0.out.below hb1).below y.below)
    clear hown HB0
    cases hnum : num q2 with
    | none =>
      have hno : Hid (∀ k b p pw, ¬ FogOf s k b p pw) := Lib.hid (fun k b p pw h => by
        have h2 := (HF.out k b p pw h).2.2
        have hpw := (okFog_yes h.1).2.2.2
        rw [h2, num_dec (by omega) (by omega)] at hnum
        cases hnum)
      rw [hnum] at HNum
      have hB := HB1.out ⟨w1, Below.refl _ _⟩
      simp only at hB
      have e0 : w1.cell? ⟨w.heap.size, 0, none⟩ = some (.int .i64 0) := hB.cell 0
      have e1 : w1.cell? ⟨w.heap.size, 1, none⟩ = some (.int .i64 0) := hB.cell 1
      have e2 : w1.cell? ⟨w.heap.size, 2, none⟩ = some (.int .i64 0) := hB.cell 2
      have e3 : w1.cell? ⟨w.heap.size, 3, none⟩ = some (.int .i64 0) := hB.cell 3
      have f0 := hB.frozen 0
      have f1 := hB.frozen 1
      have f2 := hB.frozen 2
      have f3 := hB.frozen 3
      clear hB
      have hbz := hbW1
      clear hnum HF HY
      go_wp2_with (go_at_call 49; refine (HNum.out _).mono ?_; rintro e _ ⟨rfl, rfl⟩)
      refine bodyPost_ret (v := .tuple #[.agg #[.int .i64 0, .int .i64 0, .int .i64 0, .int .i64 0], .bool false]) (by simp [results, Tryd.results25, go_sem, e0, e1, e2, e3]) rfl ⟨?_, .inr ⟨hno.out, rfl⟩⟩
      exact (((hbz.setCell (by simp) _).setCell (by simp) _).setCell (by simp) _).setCell (by simp) _
    | some nn =>
      have hq2 := Lib.hid (num_of_dec hnum)
      rw [hnum] at HNum
      have HFn := Lib.hid (fun k b p pw (h : FogOf s k b p pw) => (show pw = nn by
        have h2 := (HF.out k b p pw h).2.2
        have hpw := (okFog_yes h.1).2.2.2
        rw [h2, num_dec (by omega) (by omega)] at hnum
        exact Option.some.inj hnum))
      have HYn := Lib.hid (fun k b p h h0 h1 => HY.out k b p nn h h0 h1 hq2.out)
      clear hnum HY
      go_wp2_with (go_at_call 49; refine (HNum.out _).mono ?_; rintro e _ ⟨rfl, rfl⟩)
      go_loopw [7] (fun kv wr => ∃ (k : Nat) (x : Aft w1), 1 ≤ k ∧ k ≤ 5 ∧ kv = .int .i64 k ∧ wr = x.w1 ∧ Hid (∀ (k' : Int) b p pw, k' < k → ¬ FogOf s k' b p pw)) (fun kv _ => 5 - (intOf kv).toNat)
      case atStart => exact ⟨1, ⟨w1, Below.refl _ _⟩, by omega, by omega, rfl, rfl, Lib.hid (fun k' b p pw hk' h => by have := (okFog_yes h.1).1.1; omega)⟩
      case round =>
        obtain ⟨k, x, hk1, hk5, rfl, rfl, hmin⟩ := hrel
        by_cases hk4 : k ≤ 4
        · have hki : (k : Int) ≤ 4 := by omega
          go_wp2
          go_loopw [8] (fun bv wr => ∃ (b : Nat) (y : Aft w1), 1 ≤ b ∧ b ≤ 7 ∧ bv = .int .i64 b ∧ wr = y.w1 ∧ Hid (∀ (b' : Int) p pw, b' < b → ¬ FogOf s k b' p pw)) (fun bv _ => 7 - (intOf bv).toNat)
          case atStart => exact ⟨1, x, by omega, by omega, rfl, rfl, Lib.hid (fun b' p pw hb' h => by have := (okFog_yes h.1).2.1.1; omega)⟩
          case round =>
            obtain ⟨b, y, hb1', hb7, rfl, rfl, hminb⟩ := hrel
            by_cases hb6 : b ≤ 6
            · have hkI : 1 ≤ (k : Int) ∧ (k : Int) ≤ 4 := by omega
              have hbI : 1 ≤ (b : Int) ∧ (b : Int) ≤ 6 := by omega
              have hbi6 : (b : Int) ≤ 6 := by omega
              obtain ⟨L, hL⟩ := Int.eq_ofNat_of_zero_le (least_bd hkI hbI).1
              have hL2 : L ≤ 480 := by have := (least_bd hkI hbI).2; omega
              have okFog_per : ∀ (p pw : Int), okFog k b p pw = true → inR p (2 * (b : Int) * blastZ k) 1200 = true := fun p pw h => by
                unfold okFog at h
                rw [Bool.and_eq_true, Bool.and_eq_true] at h
                exact h.1.2
              rw [hL] at okFog_per
              have okFog_per := Lib.hid okFog_per
              have s1 := fogNames_size hkI
              have s2 := dec_small (n := (b : Int)) (by omega) (by omega)
              have hkn : (k - 1) < fogRow.length := by show (k - 1) < 4; omega
              have HNM := Lib.hid (show fogRow.getD (k - 1) ⟨#[]⟩ = pickS fogNames k by
                have : k = 1 ∨ k = 2 ∨ k = 3 ∨ k = 4 := by omega
                rcases this with rfl | rfl | rfl | rfl <;> rfl)
              have HD := Lib.hid (fun W => l01Dec_nn (b : Int) (by omega) (by omega) W)
              have hB20 := Blk.new y.w1 36 #[.int .i64 (k : Int), .int .i64 (b : Int), .int .i64 0, .int .i64 nn]
              have hb2 : Below y.w1.heap.size y.w1 (y.w1.alloc (.cells #[.int .i64 (k : Int), .int .i64 (b : Int), .int .i64 0, .int .i64 nn] 36)) := (by repeat (first | exact Below.refl _ _ | refine Below.alloc ?_ (by simp; try omega) _ | refine Below.drew ?_))
              have hg9 : w1.heap.size ≤ y.w1.heap.size := y.below.size
              go_wp2_with fail
              generalize hW2 : y.w1.alloc (.cells #[.int .i64 (k : Int), .int .i64 (b : Int), .int .i64 0, .int .i64 nn] 36) = w2 at *
              generalize hgg : y.w1.heap.size = g9 at *
              have HB2 := Lib.hid hB20
              refine (l10Names_c w2).mono ?_
              rintro e _ ⟨rfl, rfl⟩
              have r0 : (w2.alloc (.cells (fogRow.map Value.string).toArray 9)).cell? ⟨w2.heap.size, k - 1, none⟩ = some (.string (pickS fogNames k)) := by
                rw [← HNM.out]
                exact rowS_new w2 fogRow 9 (k - 1) hkn
              have hb3 : Below w2.heap.size w2 (w2.alloc (.cells (fogRow.map Value.string).toArray 9)) := (by repeat (first | exact Below.refl _ _ | refine Below.alloc ?_ (by simp; try omega) _ | refine Below.drew ?_))
              have hy2 : Below w1.heap.size w1 w2 := y.below.trans (hb2.mono hg9)
              generalize w2.alloc (.cells (fogRow.map Value.string).toArray 9) = w3 at *
              generalize w2.heap.size = g3 at r0 ⊢
              have HX0 : Hid (fogHead k b = if 1 < (b : Int) then pickS fogNames k ++ (⟨#[40]⟩ ++ dec b ++ ⟨#[41]⟩) else pickS fogNames k) := Lib.hid rfl
              by_cases h1b : 1 < (b : Int)
              · have HX : Hid (fogHead k b = pickS fogNames k ++ (⟨#[40]⟩ ++ dec b ++ ⟨#[41]⟩)) := Lib.hid (HX0.out.trans (if_pos h1b))
                clear HX0 HNM
                generalize pickS fogNames k = nm at *
                generalize dec (b : Int) = db at *
                go_wp2_with fail
                refine (HD.out _).mono ?_
                rintro e w4 ⟨rfl, hb4'⟩
                have hb4 := held_next hb3 hb4'
                have hy4 := hy2.trans (hb4.mono hy2.size)
                have pq0 := HP0.out ⟨w4, hy4⟩
                simp only at pq0
                clear r0
                cases hc : (q0.toList == (nm ++ (⟨#[40]⟩ ++ db ++ ⟨#[41]⟩)).toList)
                · have hnext : Hid (∀ (b' : Int) p pw, b' < ((b + 1 : Nat) : Int) → ¬ FogOf s k b' p pw) := Lib.hid (fun b' p pw hb' h => by
                    by_cases e : b' = b
                    · subst e
                      have h0 := (HF.out k b p pw h).1
                      rw [HX.out] at h0
                      rw [str_beq.2 h0] at hc
                      cases hc
                    · exact hminb.out b' p pw (by omega) h)
                  go_wp2
                  go_roundw
                  case rel => exact ⟨b + 1, ⟨w4, hy4⟩, by omega, by omega, by go_num, rfl, hnext⟩
                  case measure => simp [intOf]; omega
                · have hq0 : Hid (q0 = fogHead k b) := Lib.hid (by rw [HX.out]; exact str_beq.1 hc)
                  have HB4 := Lib.hid (HB2.out.below hb4)
                  have c0 : w4.cell? ⟨g9, 0, none⟩ = some (.int .i64 (k : Int)) := HB4.out.cell 0
                  have c1 : w4.cell? ⟨g9, 1, none⟩ = some (.int .i64 (b : Int)) := HB4.out.cell 1
                  have HLe := Lib.hid (l10Least_c g9 k b hkI hbI w4 HB4.out.lt c0 c1)
                  rw [hL] at HLe
                  go_wp2_with fail
                  refine HLe.out.mono ?_
                  rintro e w5 ⟨rfl, hb5⟩
                  have HB5 := Lib.hid (HB4.out.below hb5)
                  have d2 : w5.cell? ⟨g9, 2, none⟩ = some (.int .i64 0) := HB5.out.cell 2
                  have fd2 := HB5.out.frozen 2
                  have hy5 := held_next hy4 hb5
                  clear hc c0 c1 HLe HX
                  go_wp2
                  go_loopw [60] (fun _ wr => ∃ (p : Nat) (z : Aft w1), L ≤ p ∧ p ≤ 1201 ∧ wr = z.w1 ∧ Blk wr g9 36 #[.int .i64 (k : Int), .int .i64 (b : Int), .int .i64 (p : Int), .int .i64 nn] ∧ Hid (∀ (p' : Int) pw, p' < p → ¬ FogOf s k b p' pw)) (fun _ wr => leftP g9 wr)
                  case atStart => exact ⟨L, ⟨_, hy5.setCell hg9 _⟩, by omega, by omega, rfl, HB5.out.set_ 2 (.int .i64 (L : Int)), Lib.hid (fun p' pw hp' h => by
                    have := (inR_iff.1 (okFog_per.out _ _ h.1)).1
                    omega)⟩
                  case round =>
                    obtain ⟨p, z, hpL, hp, rfl, hblk, hminp⟩ := hrel
                    have HBp := Lib.hid hblk
                    clear hblk
                    have c0 : z.w1.cell? ⟨g9, 0, none⟩ = some (.int .i64 (k : Int)) := HBp.out.cell 0
                    have c1 : z.w1.cell? ⟨g9, 1, none⟩ = some (.int .i64 (b : Int)) := HBp.out.cell 1
                    have c2 : z.w1.cell? ⟨g9, 2, none⟩ = some (.int .i64 (p : Int)) := HBp.out.cell 2
                    have c3 : z.w1.cell? ⟨g9, 3, none⟩ = some (.int .i64 nn) := HBp.out.cell 3
                    by_cases hp12 : p ≤ 1200
                    · have hpi : (p : Int) ≤ 1200 := by omega
                      have HSec := Lib.hid (fun W => l05Seconds_c (p : Int) (by omega) (by omega) W)
                      have k2 : ∀ v : Aft z.w1, v.w1.cell? ⟨g9, 2, none⟩ = some (.int .i64 (p : Int)) := fun v => v.cell (cell_lt c2) c2
                      have kq : ∀ v : Aft z.w1, v.w1.cell? ⟨gp, 1, none⟩ = some (.string q1) := fun v => HP1.out ⟨v.w1, held_next z.below v.below⟩
                      have HOk := Lib.hid (fun v : Aft z.w1 => l10Ok_c g9 k b p nn v.w1 (v.lt (cell_lt c0)) (v.cell (cell_lt c0) c0) (v.cell (cell_lt c0) c1) (v.cell (cell_lt c0) c2) (v.cell (cell_lt c0) c3))
                      have hss := Lib.hid (secT_size (p := (p : Int)) (by omega) (by omega))
                      cases hcs : ((secT (p : Int) ++ (⟨#[115]⟩ : ByteArray)).toList == q1.toList)
                      · have hnp : Hid (∀ (p' : Int) pw, p' < ((p + 1 : Nat) : Int) → ¬ FogOf s k b p' pw) := Lib.hid (fun p' pw hp' h => by
                          by_cases e : p' = p
                          · subst e
                            have h1 := (HF.out k b _ pw h).2.1
                            rw [str_beq.2 h1.symm] at hcs
                            cases hcs
                          · exact hminp.out p' pw (by omega) h)
                        generalize secT (p : Int) ++ (⟨#[115]⟩ : ByteArray) = sp at *
                        go_wp2
                        refine wp_region_aft (by kernel_rfl) (by kernel_rfl) ?_
                        repeat (go_big_quiet_step (first
                          | (go_at_call 58; exact Aft.call (HSec.out _))
                          | (go_at_call 36; exact Aft.call (HOk.out _))))
                        refine wpQuiet_nil ?_
                        intro w7 hb7
                        have HB7 := Lib.hid (HBp.out.below hb7)
                        have d2 : w7.cell? ⟨g9, 2, none⟩ = some (.int .i64 (p : Int)) := HB7.out.cell 2
                        have fd2 := HB7.out.frozen 2
                        go_wp2
                        go_roundw
                        case rel =>
                          have hset := HB7.out.set_ 2 (.int .i64 ((p : Int) + 1))
                          exact ⟨p + 1, ⟨_, (held_next z.below hb7).setCell hg9 _⟩, by omega, by omega, rfl, hset, hnp⟩
                        case measure =>
                          have hset := HB7.out.set_ 2 (.int .i64 ((p : Int) + 1))
                          unfold leftP
                          rw [hset.cell, HBp.out.cell]
                          show (1300 - ((p : Int) + 1)).toNat < (1300 - (p : Int)).toNat
                          omega
                      · have hq1 : Hid (q1 = secT p ++ (⟨#[115]⟩ : ByteArray)) := Lib.hid (str_beq.1 hcs).symm
                        cases hok : okFog k b p nn
                        · have hnp : Hid (∀ (p' : Int) pw, p' < ((p + 1 : Nat) : Int) → ¬ FogOf s k b p' pw) := Lib.hid (fun p' pw hp' h => by
                            by_cases e : p' = p
                            · subst e
                              have h1 := HFn.out k b _ pw h
                              subst h1
                              rw [h.1] at hok
                              cases hok
                            · exact hminp.out p' pw (by omega) h)
                          rw [hok] at HOk
                          clear hok
                          generalize secT (p : Int) ++ (⟨#[115]⟩ : ByteArray) = sp at *
                          go_wp2
                          refine wp_region_aft (by kernel_rfl) (by kernel_rfl) ?_
                          repeat (go_big_quiet_step (first
                            | (go_at_call 58; exact Aft.call (HSec.out _))
                            | (go_at_call 36; exact Aft.call (HOk.out _))))
                          refine wpQuiet_nil ?_
                          intro w7 hb7
                          have HB7 := Lib.hid (HBp.out.below hb7)
                          have d2 : w7.cell? ⟨g9, 2, none⟩ = some (.int .i64 (p : Int)) := HB7.out.cell 2
                          have fd2 := HB7.out.frozen 2
                          go_wp2
                          go_roundw
                          case rel =>
                            have hset := HB7.out.set_ 2 (.int .i64 ((p : Int) + 1))
                            exact ⟨p + 1, ⟨_, (held_next z.below hb7).setCell hg9 _⟩, by omega, by omega, rfl, hset, hnp⟩
                          case measure =>
                            have hset := HB7.out.set_ 2 (.int .i64 ((p : Int) + 1))
                            unfold leftP
                            rw [hset.cell, HBp.out.cell]
                            show (1300 - ((p : Int) + 1)).toNat < (1300 - (p : Int)).toNat
                            omega
                        · have hfo : Hid (FogOf s k b p nn) := Lib.hid (HYn.out k b p hok hq0.out hq1.out)
                          rw [hok] at HOk
                          clear hok
                          generalize secT (p : Int) ++ (⟨#[115]⟩ : ByteArray) = sp at *
                          go_wp2
                          refine wp_region_aft (by kernel_rfl) (by kernel_rfl) ?_
                          repeat (go_big_quiet_step (first
                            | (go_at_call 58; exact Aft.call (HSec.out _))
                            | (go_at_call 36; exact Aft.call (HOk.out _))))
                          refine wpQuiet_nil ?_
                          intro w7 hb7
                          have HB7 := Lib.hid (HBp.out.below hb7)
                          have d0 : w7.cell? ⟨g9, 0, none⟩ = some (.int .i64 (k : Int)) := HB7.out.cell 0
                          have d1 : w7.cell? ⟨g9, 1, none⟩ = some (.int .i64 (b : Int)) := HB7.out.cell 1
                          have d2 : w7.cell? ⟨g9, 2, none⟩ = some (.int .i64 (p : Int)) := HB7.out.cell 2
                          have d3 : w7.cell? ⟨g9, 3, none⟩ = some (.int .i64 nn) := HB7.out.cell 3
                          have hB := HB1.out ⟨w7, held_next z.below hb7⟩
                          simp only at hB
                          have e0 : w7.cell? ⟨w.heap.size, 0, none⟩ = some (.int .i64 0) := hB.cell 0
                          have e1 : w7.cell? ⟨w.heap.size, 1, none⟩ = some (.int .i64 0) := hB.cell 1
                          have e2 : w7.cell? ⟨w.heap.size, 2, none⟩ = some (.int .i64 0) := hB.cell 2
                          have e3 : w7.cell? ⟨w.heap.size, 3, none⟩ = some (.int .i64 0) := hB.cell 3
                          have f0 := hB.frozen 0
                          have f1 := hB.frozen 1
                          have f2 := hB.frozen 2
                          have f3 := hB.frozen 3
                          clear hB
                          have hbz := held_next hbW1 (held_next z.below hb7)
                          clear HF
                          go_wp2
                          refine bodyPost_ret (v := .tuple #[.agg #[.int .i64 (k : Int), .int .i64 (b : Int), .int .i64 (p : Int), .int .i64 nn], .bool true]) (by simp [results, Tryd.results25, go_sem, e0, e1, e2, e3]) rfl ⟨?_, .inl ⟨_, _, _, _, hfo.out, rfl⟩⟩
                          exact (((hbz.setCell (by simp) _).setCell (by simp) _).setCell (by simp) _).setCell (by simp) _
                    · obtain rfl : p = 1201 := by omega
                      have hnext : Hid (∀ (b' : Int) p pw, b' < ((b + 1 : Nat) : Int) → ¬ FogOf s k b' p pw) := Lib.hid (fun b' p pw hb' h => by
                        by_cases e : b' = b
                        · subst e
                          have := (okFog_yes h.1).2.2.1.2
                          exact hminp.out p pw (by omega) h
                        · exact hminb.out b' p pw (by omega) h)
                      go_wp2
                      go_roundw
                      case rel => exact ⟨b + 1, z, by omega, by omega, by go_num, rfl, hnext⟩
                      case measure => simp [intOf]; omega
              · have HX : Hid (fogHead k b = pickS fogNames k) := Lib.hid (HX0.out.trans (if_neg h1b))
                clear HX0 HNM
                generalize pickS fogNames k = nm at *
                have hb4 := hb3
                have hy4 := hy2.trans (hb4.mono hy2.size)
                have pq0 := HP0.out ⟨w3, hy4⟩
                simp only at pq0
                generalize w3 = w4 at *
                cases hc : (q0.toList == (nm).toList)
                · have hnext : Hid (∀ (b' : Int) p pw, b' < ((b + 1 : Nat) : Int) → ¬ FogOf s k b' p pw) := Lib.hid (fun b' p pw hb' h => by
                    by_cases e : b' = b
                    · subst e
                      have h0 := (HF.out k b p pw h).1
                      rw [HX.out] at h0
                      rw [str_beq.2 h0] at hc
                      cases hc
                    · exact hminb.out b' p pw (by omega) h)
                  go_wp2
                  go_roundw
                  case rel => exact ⟨b + 1, ⟨w4, hy4⟩, by omega, by omega, by go_num, rfl, hnext⟩
                  case measure => simp [intOf]; omega
                · have hq0 : Hid (q0 = fogHead k b) := Lib.hid (by rw [HX.out]; exact str_beq.1 hc)
                  have HB4 := Lib.hid (HB2.out.below hb4)
                  have c0 : w4.cell? ⟨g9, 0, none⟩ = some (.int .i64 (k : Int)) := HB4.out.cell 0
                  have c1 : w4.cell? ⟨g9, 1, none⟩ = some (.int .i64 (b : Int)) := HB4.out.cell 1
                  have HLe := Lib.hid (l10Least_c g9 k b hkI hbI w4 HB4.out.lt c0 c1)
                  rw [hL] at HLe
                  go_wp2_with fail
                  refine HLe.out.mono ?_
                  rintro e w5 ⟨rfl, hb5⟩
                  have HB5 := Lib.hid (HB4.out.below hb5)
                  have d2 : w5.cell? ⟨g9, 2, none⟩ = some (.int .i64 0) := HB5.out.cell 2
                  have fd2 := HB5.out.frozen 2
                  have hy5 := held_next hy4 hb5
                  clear hc c0 c1 HLe HX
                  go_wp2
                  go_loopw [60] (fun _ wr => ∃ (p : Nat) (z : Aft w1), L ≤ p ∧ p ≤ 1201 ∧ wr = z.w1 ∧ Blk wr g9 36 #[.int .i64 (k : Int), .int .i64 (b : Int), .int .i64 (p : Int), .int .i64 nn] ∧ Hid (∀ (p' : Int) pw, p' < p → ¬ FogOf s k b p' pw)) (fun _ wr => leftP g9 wr)
                  case atStart => exact ⟨L, ⟨_, hy5.setCell hg9 _⟩, by omega, by omega, rfl, HB5.out.set_ 2 (.int .i64 (L : Int)), Lib.hid (fun p' pw hp' h => by
                    have := (inR_iff.1 (okFog_per.out _ _ h.1)).1
                    omega)⟩
                  case round =>
                    obtain ⟨p, z, hpL, hp, rfl, hblk, hminp⟩ := hrel
                    have HBp := Lib.hid hblk
                    clear hblk
                    have c0 : z.w1.cell? ⟨g9, 0, none⟩ = some (.int .i64 (k : Int)) := HBp.out.cell 0
                    have c1 : z.w1.cell? ⟨g9, 1, none⟩ = some (.int .i64 (b : Int)) := HBp.out.cell 1
                    have c2 : z.w1.cell? ⟨g9, 2, none⟩ = some (.int .i64 (p : Int)) := HBp.out.cell 2
                    have c3 : z.w1.cell? ⟨g9, 3, none⟩ = some (.int .i64 nn) := HBp.out.cell 3
                    by_cases hp12 : p ≤ 1200
                    · have hpi : (p : Int) ≤ 1200 := by omega
                      have HSec := Lib.hid (fun W => l05Seconds_c (p : Int) (by omega) (by omega) W)
                      have k2 : ∀ v : Aft z.w1, v.w1.cell? ⟨g9, 2, none⟩ = some (.int .i64 (p : Int)) := fun v => v.cell (cell_lt c2) c2
                      have kq : ∀ v : Aft z.w1, v.w1.cell? ⟨gp, 1, none⟩ = some (.string q1) := fun v => HP1.out ⟨v.w1, held_next z.below v.below⟩
                      have HOk := Lib.hid (fun v : Aft z.w1 => l10Ok_c g9 k b p nn v.w1 (v.lt (cell_lt c0)) (v.cell (cell_lt c0) c0) (v.cell (cell_lt c0) c1) (v.cell (cell_lt c0) c2) (v.cell (cell_lt c0) c3))
                      have hss := Lib.hid (secT_size (p := (p : Int)) (by omega) (by omega))
                      cases hcs : ((secT (p : Int) ++ (⟨#[115]⟩ : ByteArray)).toList == q1.toList)
                      · have hnp : Hid (∀ (p' : Int) pw, p' < ((p + 1 : Nat) : Int) → ¬ FogOf s k b p' pw) := Lib.hid (fun p' pw hp' h => by
                          by_cases e : p' = p
                          · subst e
                            have h1 := (HF.out k b _ pw h).2.1
                            rw [str_beq.2 h1.symm] at hcs
                            cases hcs
                          · exact hminp.out p' pw (by omega) h)
                        generalize secT (p : Int) ++ (⟨#[115]⟩ : ByteArray) = sp at *
                        go_wp2
                        refine wp_region_aft (by kernel_rfl) (by kernel_rfl) ?_
                        repeat (go_big_quiet_step (first
                          | (go_at_call 58; exact Aft.call (HSec.out _))
                          | (go_at_call 36; exact Aft.call (HOk.out _))))
                        refine wpQuiet_nil ?_
                        intro w7 hb7
                        have HB7 := Lib.hid (HBp.out.below hb7)
                        have d2 : w7.cell? ⟨g9, 2, none⟩ = some (.int .i64 (p : Int)) := HB7.out.cell 2
                        have fd2 := HB7.out.frozen 2
                        go_wp2
                        go_roundw
                        case rel =>
                          have hset := HB7.out.set_ 2 (.int .i64 ((p : Int) + 1))
                          exact ⟨p + 1, ⟨_, (held_next z.below hb7).setCell hg9 _⟩, by omega, by omega, rfl, hset, hnp⟩
                        case measure =>
                          have hset := HB7.out.set_ 2 (.int .i64 ((p : Int) + 1))
                          unfold leftP
                          rw [hset.cell, HBp.out.cell]
                          show (1300 - ((p : Int) + 1)).toNat < (1300 - (p : Int)).toNat
                          omega
                      · have hq1 : Hid (q1 = secT p ++ (⟨#[115]⟩ : ByteArray)) := Lib.hid (str_beq.1 hcs).symm
                        cases hok : okFog k b p nn
                        · have hnp : Hid (∀ (p' : Int) pw, p' < ((p + 1 : Nat) : Int) → ¬ FogOf s k b p' pw) := Lib.hid (fun p' pw hp' h => by
                            by_cases e : p' = p
                            · subst e
                              have h1 := HFn.out k b _ pw h
                              subst h1
                              rw [h.1] at hok
                              cases hok
                            · exact hminp.out p' pw (by omega) h)
                          rw [hok] at HOk
                          clear hok
                          generalize secT (p : Int) ++ (⟨#[115]⟩ : ByteArray) = sp at *
                          go_wp2
                          refine wp_region_aft (by kernel_rfl) (by kernel_rfl) ?_
                          repeat (go_big_quiet_step (first
                            | (go_at_call 58; exact Aft.call (HSec.out _))
                            | (go_at_call 36; exact Aft.call (HOk.out _))))
                          refine wpQuiet_nil ?_
                          intro w7 hb7
                          have HB7 := Lib.hid (HBp.out.below hb7)
                          have d2 : w7.cell? ⟨g9, 2, none⟩ = some (.int .i64 (p : Int)) := HB7.out.cell 2
                          have fd2 := HB7.out.frozen 2
                          go_wp2
                          go_roundw
                          case rel =>
                            have hset := HB7.out.set_ 2 (.int .i64 ((p : Int) + 1))
                            exact ⟨p + 1, ⟨_, (held_next z.below hb7).setCell hg9 _⟩, by omega, by omega, rfl, hset, hnp⟩
                          case measure =>
                            have hset := HB7.out.set_ 2 (.int .i64 ((p : Int) + 1))
                            unfold leftP
                            rw [hset.cell, HBp.out.cell]
                            show (1300 - ((p : Int) + 1)).toNat < (1300 - (p : Int)).toNat
                            omega
                        · have hfo : Hid (FogOf s k b p nn) := Lib.hid (HYn.out k b p hok hq0.out hq1.out)
                          rw [hok] at HOk
                          clear hok
                          generalize secT (p : Int) ++ (⟨#[115]⟩ : ByteArray) = sp at *
                          go_wp2
                          refine wp_region_aft (by kernel_rfl) (by kernel_rfl) ?_
                          repeat (go_big_quiet_step (first
                            | (go_at_call 58; exact Aft.call (HSec.out _))
                            | (go_at_call 36; exact Aft.call (HOk.out _))))
                          refine wpQuiet_nil ?_
                          intro w7 hb7
                          have HB7 := Lib.hid (HBp.out.below hb7)
                          have d0 : w7.cell? ⟨g9, 0, none⟩ = some (.int .i64 (k : Int)) := HB7.out.cell 0
                          have d1 : w7.cell? ⟨g9, 1, none⟩ = some (.int .i64 (b : Int)) := HB7.out.cell 1
                          have d2 : w7.cell? ⟨g9, 2, none⟩ = some (.int .i64 (p : Int)) := HB7.out.cell 2
                          have d3 : w7.cell? ⟨g9, 3, none⟩ = some (.int .i64 nn) := HB7.out.cell 3
                          have hB := HB1.out ⟨w7, held_next z.below hb7⟩
                          simp only at hB
                          have e0 : w7.cell? ⟨w.heap.size, 0, none⟩ = some (.int .i64 0) := hB.cell 0
                          have e1 : w7.cell? ⟨w.heap.size, 1, none⟩ = some (.int .i64 0) := hB.cell 1
                          have e2 : w7.cell? ⟨w.heap.size, 2, none⟩ = some (.int .i64 0) := hB.cell 2
                          have e3 : w7.cell? ⟨w.heap.size, 3, none⟩ = some (.int .i64 0) := hB.cell 3
                          have f0 := hB.frozen 0
                          have f1 := hB.frozen 1
                          have f2 := hB.frozen 2
                          have f3 := hB.frozen 3
                          clear hB
                          have hbz := held_next hbW1 (held_next z.below hb7)
                          clear HF
                          go_wp2
                          refine bodyPost_ret (v := .tuple #[.agg #[.int .i64 (k : Int), .int .i64 (b : Int), .int .i64 (p : Int), .int .i64 nn], .bool true]) (by simp [results, Tryd.results25, go_sem, e0, e1, e2, e3]) rfl ⟨?_, .inl ⟨_, _, _, _, hfo.out, rfl⟩⟩
                          exact (((hbz.setCell (by simp) _).setCell (by simp) _).setCell (by simp) _).setCell (by simp) _
                    · obtain rfl : p = 1201 := by omega
                      have hnext : Hid (∀ (b' : Int) p pw, b' < ((b + 1 : Nat) : Int) → ¬ FogOf s k b' p pw) := Lib.hid (fun b' p pw hb' h => by
                        by_cases e : b' = b
                        · subst e
                          have := (okFog_yes h.1).2.2.1.2
                          exact hminp.out p pw (by omega) h
                        · exact hminb.out b' p pw (by omega) h)
                      go_wp2
                      go_roundw
                      case rel => exact ⟨b + 1, z, by omega, by omega, by go_num, rfl, hnext⟩
                      case measure => simp [intOf]; omega
            · obtain rfl : b = 7 := by omega
              have hnext : Hid (∀ (k' : Int) b p pw, k' < ((k + 1 : Nat) : Int) → ¬ FogOf s k' b p pw) := Lib.hid (fun k' b p pw hk' h => by
                by_cases e : k' = k
                · subst e
                  have := (okFog_yes h.1).2.1.2
                  exact hminb.out b p pw (by omega) h
                · exact hmin.out k' b p pw (by omega) h)
              go_wp2
              go_roundw
              case rel => exact ⟨k + 1, y, by omega, by omega, by go_num, rfl, hnext⟩
              case measure => simp [intOf]; omega
        · obtain rfl : k = 5 := by omega
          have hno : Hid (∀ k b p pw, ¬ FogOf s k b p pw) := Lib.hid (fun k b p pw h => by
            have := (okFog_yes h.1).1.2
            exact hmin.out k b p pw (by omega) h)
          have hB := HB1.out x
          have e0 : x.w1.cell? ⟨w.heap.size, 0, none⟩ = some (.int .i64 0) := hB.cell 0
          have e1 : x.w1.cell? ⟨w.heap.size, 1, none⟩ = some (.int .i64 0) := hB.cell 1
          have e2 : x.w1.cell? ⟨w.heap.size, 2, none⟩ = some (.int .i64 0) := hB.cell 2
          have e3 : x.w1.cell? ⟨w.heap.size, 3, none⟩ = some (.int .i64 0) := hB.cell 3
          have f0 := hB.frozen 0
          have f1 := hB.frozen 1
          have f2 := hB.frozen 2
          have f3 := hB.frozen 3
          clear hB
          have hbz := held_next hbW1 x.below
          clear HF
          go_wp2
          refine bodyPost_ret (v := .tuple #[.agg #[.int .i64 0, .int .i64 0, .int .i64 0, .int .i64 0], .bool false]) (by simp [results, Tryd.results25, go_sem, e0, e1, e2, e3]) rfl ⟨?_, .inr ⟨hno.out, rfl⟩⟩
          exact (((hbz.setCell (by simp) _).setCell (by simp) _).setCell (by simp) _).setCell (by simp) _
  · have hno : Hid (∀ k b p pw, ¬ FogOf s k b p pw) := Lib.hid (fun k b p pw h => h3 (by rw [fogOf_pieces h]; rfl))
    have hl3 : (((pieces 32 s).length : Int) == 3) = false := by rw [beq_eq_false_iff_ne]; omega
    generalize pieces 32 s = ps at *
    go_enter Tryd.func25, Tryd.ntmps25
    go_wp2_with fail
    refine HSp.out.mono ?_
    rintro e w1 ⟨v, rfl, hown, hb1⟩
    obtain ⟨gp, cp, rfl⟩ := Go.Joins.ownsRow_form hown hps
    have hB := HB0.out.below hb1
    have e0 : w1.cell? ⟨w.heap.size, 0, none⟩ = some (.int .i64 0) := hB.cell 0
    have e1 : w1.cell? ⟨w.heap.size, 1, none⟩ = some (.int .i64 0) := hB.cell 1
    have e2 : w1.cell? ⟨w.heap.size, 2, none⟩ = some (.int .i64 0) := hB.cell 2
    have e3 : w1.cell? ⟨w.heap.size, 3, none⟩ = some (.int .i64 0) := hB.cell 3
    have f0 := hB.frozen 0
    have f1 := hB.frozen 1
    have f2 := hB.frozen 2
    have f3 := hB.frozen 3
    have hbz := held_next hbW0 hb1
    clear hown hB
    go_wp2
    refine bodyPost_ret (v := .tuple #[.agg #[.int .i64 0, .int .i64 0, .int .i64 0, .int .i64 0], .bool false]) (by simp [results, Tryd.results25, go_sem, e0, e1, e2, e3]) rfl ⟨?_, .inr ⟨hno.out, rfl⟩⟩
    exact (((hbz.setCell (by simp) _).setCell (by simp) _).setCell (by simp) _).setCell (by simp) _
end Go.Proofs.YtimfpnmcdicldaaDoor
