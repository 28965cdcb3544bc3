/- The gates of a channel: the program's. -/
import Derived.Test.YtimfpnmcdicldaaGateH
namespace Go.Proofs.Ytimfpnmcdicldaa
open Go Go.RowKit
set_option maxHeartbeats 4000000 in
theorem containsBad_c (A : Option Addr) (n cap : Nat) (f0 f1 f2 f3 f4 : Nat → Int) (w : World) (hn : n ≤ 1048576) (hR : Rec 5 w A n (vGate f0 f1 f2 f3 f4)) :
    Calls Try.prog 60 #[.slice A n cap, .func (.func 61) #[] #[]] w fun e w' => e = .returned (.bool (!allB n (fun i => okP (f1 i) (f2 i) && okP (f3 i) (f4 i)))) ∧ Below w.heap.size w w' := by
  have H := Lib.hid (indexBad_c A n cap f0 f1 f2 f3 f4 w hn hR)
  clear hR
  go_enter Try.func60, Try.ntmps60
  go_wp2_with fail
  refine H.out.mono ?_
  rintro e w1 ⟨⟨r, rfl, hr⟩, hb1⟩
  have HR := Lib.hid hr
  clear hr H
  go_wp2
  go_ret
  exact ⟨ret_bool HR.out, hb1⟩
set_option maxRecDepth 100000 in
set_option maxHeartbeats 8000000 in
theorem implGates_in (nm : ByteArray) (A : Option Addr) (n cap : Nat) (wd sp : Int) (X Y : Nat → Int) (w : World) (hs : nm.size ≤ maxLen) (hn : n ≤ 1048576) (hR : Rec 2 w A n (vPoint X Y)) (hv1 : okChan nm n X Y wd = true) (hv2 : inR sp 50 200000 = true) :
    Calls Try.prog 22 #[.agg #[.string nm, .slice A n cap, .int .i64 wd], .int .i64 sp] w (GPost (gf0 X Y n sp) (gf1 X Y n wd sp) (gf2 X Y n wd sp) (gf3 X Y n wd sp) (gf4 X Y n wd sp) (gaM X Y n wd sp nm) (gaCode X Y n wd sp nm) w) := by
  obtain ⟨ig, hig, hig0, hig1, hig2⟩ := info_parts (show (Try.prog.info? 84).map (fun i => (i.zero, i.size, i.bytes)) = some (some (.agg #[.int .i64 0, .int .i64 0, .int .i64 0, .int .i64 0, .int .i64 0]), 5, 40) by kernel_rfl)
  obtain ⟨hok, n2, n12, hw0, hw1⟩ := okChan_yes hv1
  obtain ⟨sp0, sp1⟩ := inR_iff.1 hv2
  obtain ⟨l0, l1⟩ := lenI_bd (n - 1) (fun i hi => hok i (by omega))
  have hl18 : lenI X Y (n - 1) ≤ 18000000 := by omega
  have hS := okChan_segs hv1
  generalize hW : w.alloc (.cells #[.string nm, .slice A n cap, .int .i64 wd] 32) = W
  have hbW : Below w.heap.size w W := hW ▸ (by repeat (first | exact Below.refl _ _ | refine Below.alloc ?_ (by simp; try omega) _ | refine Below.drew ?_))
  have hR1 := hR.below hbW
  have k0 : ∀ y : Aft W, y.w1.cell? ⟨w.heap.size, 0, none⟩ = some (.string nm) := by subst hW; exact fun y => y.new rfl
  have k1 : ∀ y : Aft W, y.w1.cell? ⟨w.heap.size, 1, none⟩ = some (.slice A n cap) := by subst hW; exact fun y => y.new rfl
  have k2 : ∀ y : Aft W, y.w1.cell? ⟨w.heap.size, 2, none⟩ = some (.int .i64 wd) := by subst hW; exact fun y => y.new rfl
  have HOk := Lib.hid (fun y : Aft W => validChannel_c nm A n cap wd X Y y.w1 hs hn (hR1.aft y))
  rw [hv1] at HOk
  have HLn := Lib.hid (fun y : Aft W => length_c nm wd A n cap X Y y.w1 (by omega) n12 hok (hR1.aft y))
  have hq := fun k : Nat => gaN_lt (sp := sp) (len := lenI X Y (n - 1)) (by omega) l0 k
  have hqs := gaN_spec (sp := sp) (len := lenI X Y (n - 1)) (by omega) l0
  have hqb : gaN sp (lenI X Y (n - 1)) ≤ 18000001 := by
    have : (lenI X Y (n - 1) + sp - 1) / sp ≤ lenI X Y (n - 1) + sp - 1 := Int.ediv_le_self _ (by omega)
    omega
  have HGt := Lib.hid (fun (i : Nat) (W' : World) (hy : ∃ y : Aft W, W' = y.w1) =>
    (show Calls Try.prog 59 #[.agg #[.string nm, .slice A n cap, .int .i64 wd], .int .i64 (gf0 X Y n sp i)] W' fun e w' => e = .returned (.agg #[.int .i64 (gf0 X Y n sp i), .int .i64 (gf1 X Y n wd sp i), .int .i64 (gf2 X Y n wd sp i), .int .i64 (gf3 X Y n wd sp i), .int .i64 (gf4 X Y n wd sp i)]) ∧ Below W'.heap.size W' w' by
      obtain ⟨y, rfl⟩ := hy
      have hd := gaD_bd (sp := sp) (len := lenI X Y (n - 1)) (by omega) l0 i
      exact gate_c nm wd A n cap X Y (gf0 X Y n sp i) (segJ X Y n (gf0 X Y n sp i)) y.w1 n12 hw0 hw1 hS (segJ_of n2 hd.2) hd.1 (Int.le_trans hd.2 hl18) (hR1.aft y)))
  have HC := Lib.hid (show gaCode X Y n wd sp nm = if 32 < gaN sp (lenI X Y (n - 1)) + 1 then 5 else if allB (gaN sp (lenI X Y (n - 1)) + 1) (fun i => okP (gf1 X Y n wd sp i) (gf2 X Y n wd sp i) && okP (gf3 X Y n wd sp i) (gf4 X Y n wd sp i)) = true then 0 else 6 by unfold gaCode; rw [if_pos hv1, if_pos hv2]; rfl)
  have HM := Lib.hid (show gaM X Y n wd sp nm = if gaCode X Y n wd sp nm = 0 then gaN sp (lenI X Y (n - 1)) + 1 else 0 from rfl)
  have HD := Lib.hid (show ∀ i, gf0 X Y n sp i = gaD sp (lenI X Y (n - 1)) i from fun i => rfl)
  generalize gaCode X Y n wd sp nm = code at *
  generalize gaM X Y n wd sp nm = m at *
  generalize gf0 X Y n sp = f0 at *
  generalize gf1 X Y n wd sp = f1 at *
  generalize gf2 X Y n wd sp = f2 at *
  generalize gf3 X Y n wd sp = f3 at *
  generalize gf4 X Y n wd sp = f4 at *
  generalize lenI X Y (n - 1) = len at *
  have HDk := Lib.hid (fun (k : Nat) (h : k < gaN sp len) => (HD.out k).trans (if_pos h))
  have HDq := Lib.hid ((HD.out (gaN sp len)).trans (if_neg (Nat.lt_irrefl _)))
  clear hR hR1 hS hok hv1 l1 HD
  generalize hqq : gaN sp len = q at *
  clear hqq
  have z0 := k0 ⟨W, Below.refl _ _⟩
  have z1 := k1 ⟨W, Below.refl _ _⟩
  have z2 := k2 ⟨W, Below.refl _ _⟩
  simp only at z0 z1 z2
  have hnz : (sp == 0) = false := by simp; omega
  go_enter Try.func22, Try.ntmps22
  go_wp2_with fail
  refine (Aft.first (w := W) (HOk.out ⟨W, Below.refl _ _⟩)).mono ?_
  rintro e _ ⟨rfl, x1, rfl⟩
  clear z0 z1 z2 hW
  go_wp2_with (go_at_call 48; refine (within_v hv2 _).mono ?_; rintro e _ ⟨rfl, rfl⟩)
  refine (Aft.call (HLn.out x1)).mono ?_
  rintro e _ ⟨rfl, x2, rfl⟩
  clear HOk HLn
  by_cases hfull : 32 < q + 1
  · have hcode : code = 5 := by rw [HC.out, if_pos hfull]
    have hm : m = 0 := by rw [HM.out, if_neg (by omega)]
    subst hcode hm
    have hf2 : decide (32 < (len + sp - 1) / sp + 1) = true := by rw [← hqs]; simp; omega
    have hf3 : 32 < (len + sp - 1) / sp + 1 := by rw [← hqs]; omega
    go_wp2
    go_ret2
    exact ⟨none, 0, rfl, SO.nil, held_next hbW x2.below⟩
  · replace HC := Lib.hid (HC.out.trans (if_neg hfull))
    have hf2 : decide (32 < (len + sp - 1) / sp + 1) = false := by rw [← hqs]; simp; omega
    have hf3 : ¬ 32 < (len + sp - 1) / sp + 1 := by rw [← hqs]; omega
    have HBx := Lib.hid (held_next hbW x2.below)
    have hown2 : (x2.w1.alloc (.cells #[] 84)).ownsRow W.heap.size 84 5 (.slice (some ⟨x2.w1.heap.size, 0, none⟩) 0 0) 0 [] := World.ownsRow_lit (base := W.heap.size) (e := 84) (size := 5) x2.w1 #[] 0 x2.below.size (small_row (by omega)) (by simp)
    have hWx : ∃ y : Aft W, x2.w1.alloc (.cells #[] 84) = y.w1 := ⟨⟨_, x2.below.alloc x2.below.size _⟩, rfl⟩
    go_wp2
    have HK := Lib.hid (fun (wr : World) (h : ∃ y : Aft W, wr = y.w1) => h)
    go_loopw [7, 8] (fun v dv wr => ∃ k : Nat, k ≤ q ∧ dv = .int .i64 ((k : Int) * sp) ∧ Hid (∃ y : Aft W, wr = y.w1) ∧ wr.ownsRow W.heap.size 84 5 v k (gcells f0 f1 f2 f3 f4 k)) (fun _ dv _ => (len - intOf dv).toNat)
    case atStart => exact ⟨0, by omega, by simp, Lib.hid hWx, hown2⟩
    case round =>
      obtain ⟨k, hk, rfl, hy, hown⟩ := hrel
      clear hown2 hWx
      have HO := Lib.hid hown
      clear hown
      obtain ⟨y0, rfl⟩ := hy.out
      have hsz := y0.below.size
      by_cases hlt : k < q
      · have hks := (hq k).2 hlt
        have hk0 : 0 ≤ (k : Int) * sp := Int.mul_nonneg (by omega) (by omega)
        have HE := Lib.hid (show ((k + 1 : Nat) : Int) * sp = (k : Int) * sp + sp by rw [Int.natCast_add, Int.add_mul]; simp)
        have hfk := HDk.out k hlt
        have HG := Lib.hid (HGt.out k y0.w1 ⟨y0, rfl⟩)
        rw [hfk] at HG
        clear hq
        generalize (k : Int) * sp = dk at *
        have hgc := gcells_succ f0 f1 f2 f3 f4 k
        rw [hfk] at hgc
        have HGc := Lib.hid hgc
        clear hgc hfk
        go_wp2_with fail
        refine HG.out.mono ?_
        rintro e w2 ⟨rfl, hb2⟩
        have HO3 := Lib.hid (own_below HO.out hb2)
        have HB3 := Lib.hid (held_next y0.below hb2)
        have hsz3 := HB3.out.size
        clear hb2 HG HO
        go_wp2_with (at_builtin; refine wpList_append_own _ rfl _ _ 43 rfl W.heap.size 84 ig _ 5 40 Try.underlying43 hig hig0 hig1 hig2 rfl (by decide) _ _ _ rfl (HO3.out.alloc _) ⟨w2.heap.size, 0, none⟩ 1 1 [.int .i64 dk, .int .i64 (f1 k), .int .i64 (f2 k), .int .i64 (f3 k), .int .i64 (f4 k)] rfl rfl (World.news_of_block (cs := #[.int .i64 dk, .int .i64 (f1 k), .int .i64 (f2 k), .int .i64 (f3 k), .int .i64 (f4 k)]) (t := 84) (fr := (0, 0)) (heap_alloc_new w2 _)) (by simp [Value.oneCell']) (by unfold maxLen; omega) (by omega) (le_alloc hsz3 _) ?_; intro v6 w6 hown6 hgrow6 _)
        have HO6 := Lib.hid hown6
        have HG6 := Lib.hid hgrow6
        clear hown6 hgrow6
        go_roundw
        case rel => exact ⟨k + 1, by omega, by rw [HE.out], Lib.hid ⟨⟨_, own_next HB3.out HO3.out HG6.out⟩, rfl⟩, by rw [HGc.out]; exact HO6.out⟩
        case measure => simp only [intOf]; omega
      · obtain rfl : k = q := by omega
        have hks : len ≤ (k : Int) * sp := by
          have := hq k
          omega
        have HG := Lib.hid (HGt.out k y0.w1 ⟨y0, rfl⟩)
        rw [HDq.out] at HG
        have hgc := gcells_succ f0 f1 f2 f3 f4 k
        rw [HDq.out] at hgc
        have HGc := Lib.hid hgc
        clear hgc hq
        generalize (k : Int) * sp = dk at *
        go_wp2_with fail
        refine HG.out.mono ?_
        rintro e w2 ⟨rfl, hb2⟩
        have HO3 := Lib.hid (own_below HO.out hb2)
        have HB3 := Lib.hid (held_next y0.below hb2)
        have hsz3 := HB3.out.size
        clear hb2 HG HO
        go_wp2_with (at_builtin; refine wpList_append_own _ rfl _ _ 43 rfl W.heap.size 84 ig _ 5 40 Try.underlying43 hig hig0 hig1 hig2 rfl (by decide) _ _ _ rfl (HO3.out.alloc _) ⟨w2.heap.size, 0, none⟩ 1 1 [.int .i64 len, .int .i64 (f1 k), .int .i64 (f2 k), .int .i64 (f3 k), .int .i64 (f4 k)] rfl rfl (World.news_of_block (cs := #[.int .i64 len, .int .i64 (f1 k), .int .i64 (f2 k), .int .i64 (f3 k), .int .i64 (f4 k)]) (t := 84) (fr := (0, 0)) (heap_alloc_new w2 _)) (by simp [Value.oneCell']) (by unfold maxLen; omega) (by omega) (le_alloc hsz3 _) ?_; intro v6 w6 hown6 hgrow6 _; rw [← HGc.out] at hown6; obtain ⟨gp, cp, rfl⟩ := Go.Joins.ownsRow_form hown6 (by omega); have HO6 := Lib.hid hown6; have HG6 := Lib.hid hgrow6; clear hown6 hgrow6)
        have HB6 := Lib.hid (own_next HB3.out HO3.out HG6.out)
        have HS6 := Lib.hid (show SO w6 W.heap.size 84 5 (.slice (some ⟨gp, 0, none⟩) (k + 1) cp) (k + 1) (vGate f0 f1 f2 f3 f4) from ⟨_, HO6.out, fun i hi j hj => gcells_at f0 f1 f2 f3 f4 _ i j hi hj⟩)
        have HCB := Lib.hid (containsBad_c _ (k + 1) cp f0 f1 f2 f3 f4 w6 (by omega) HS6.out.rec)
        clear HO6 HG6 HO3 HGt
        cases hall : allB (k + 1) (fun i => okP (f1 i) (f2 i) && okP (f3 i) (f4 i))
        · have hcode : code = 6 := by rw [HC.out, if_neg (by rw [hall]; simp)]
          have hm : m = 0 := by rw [HM.out, if_neg (by omega)]
          rw [hall] at HCB
          subst hcode hm
          clear hall
          refine HCB.out.mono ?_
          rintro e w7 ⟨rfl, hb7⟩
          have HB7 := Lib.hid (held_next hbW (held_next HB6.out hb7))
          go_wp2
          go_ret2
          exact ⟨none, 0, rfl, SO.nil, HB7.out⟩
        · have hcode : code = 0 := by rw [HC.out, if_pos hall]
          have hm : m = k + 1 := by rw [HM.out, if_pos hcode]
          rw [hall] at HCB
          subst hcode hm
          clear hall
          refine HCB.out.mono ?_
          rintro e w7 ⟨rfl, hb7⟩
          have HB7 := Lib.hid (held_next hbW (held_next HB6.out hb7))
          have HS7 := Lib.hid ((HS6.out.below hb7).mono hbW.size)
          go_wp2
          go_ret2
          exact ⟨_, _, rfl, HS7.out, HB7.out⟩
set_option maxRecDepth 100000 in
set_option maxHeartbeats 8000000 in
theorem implGates_c (nm : ByteArray) (A : Option Addr) (n cap : Nat) (wd sp : Int) (X Y : Nat → Int) (w : World) (hs : nm.size ≤ maxLen) (hn : n ≤ 1048576) (hR : Rec 2 w A n (vPoint X Y)) :
    Calls Try.prog 22 #[.agg #[.string nm, .slice A n cap, .int .i64 wd], .int .i64 sp] w (GPost (gf0 X Y n sp) (gf1 X Y n wd sp) (gf2 X Y n wd sp) (gf3 X Y n wd sp) (gf4 X Y n wd sp) (gaM X Y n wd sp nm) (gaCode X Y n wd sp nm) w) := by
  cases v1 : okChan nm n X Y wd
  · have hcode : gaCode X Y n wd sp nm = 1 := by unfold gaCode; rw [if_neg (by simp [v1])]
    have hm : gaM X Y n wd sp nm = 0 := by unfold gaM; rw [if_neg (by omega)]
    rw [hcode, hm]
    generalize hW : w.alloc (.cells #[.string nm, .slice A n cap, .int .i64 wd] 32) = W
    have hbW : Below w.heap.size w W := hW ▸ (by repeat (first | exact Below.refl _ _ | refine Below.alloc ?_ (by simp; try omega) _ | refine Below.drew ?_))
    have HOk := Lib.hid (validChannel_c nm A n cap wd X Y W hs hn (hR.below hbW))
    rw [v1] at HOk
    have z0 : W.cell? ⟨w.heap.size, 0, none⟩ = some (.string nm) := by subst hW; simp [go_sem]
    have z1 : W.cell? ⟨w.heap.size, 1, none⟩ = some (.slice A n cap) := by subst hW; simp [go_sem]
    have z2 : W.cell? ⟨w.heap.size, 2, none⟩ = some (.int .i64 wd) := by subst hW; simp [go_sem]
    clear hcode hm v1 hR
    go_enter Try.func22, Try.ntmps22
    go_wp2_with fail
    refine (Aft.first (w := W) HOk.out).mono ?_
    rintro e _ ⟨rfl, x1, rfl⟩
    clear z0 z1 z2 hW
    go_wp2
    go_ret2
    exact ⟨none, 0, rfl, SO.nil, held_next hbW x1.below⟩
  · cases v2 : inR sp 50 200000
    · have hcode : gaCode X Y n wd sp nm = 2 := by unfold gaCode; rw [if_pos v1, if_neg (by simp [v2])]
      have hm : gaM X Y n wd sp nm = 0 := by unfold gaM; rw [if_neg (by omega)]
      rw [hcode, hm]
      generalize hW : w.alloc (.cells #[.string nm, .slice A n cap, .int .i64 wd] 32) = W
      have hbW : Below w.heap.size w W := hW ▸ (by repeat (first | exact Below.refl _ _ | refine Below.alloc ?_ (by simp; try omega) _ | refine Below.drew ?_))
      have HOk := Lib.hid (validChannel_c nm A n cap wd X Y W hs hn (hR.below hbW))
      rw [v1] at HOk
      have HV := Lib.hid v2
      have z0 : W.cell? ⟨w.heap.size, 0, none⟩ = some (.string nm) := by subst hW; simp [go_sem]
      have z1 : W.cell? ⟨w.heap.size, 1, none⟩ = some (.slice A n cap) := by subst hW; simp [go_sem]
      have z2 : W.cell? ⟨w.heap.size, 2, none⟩ = some (.int .i64 wd) := by subst hW; simp [go_sem]
      have k0 : ∀ y : Aft W, y.w1.cell? ⟨w.heap.size, 0, none⟩ = some (.string nm) := by subst hW; exact fun y => y.new rfl
      have k1 : ∀ y : Aft W, y.w1.cell? ⟨w.heap.size, 1, none⟩ = some (.slice A n cap) := by subst hW; exact fun y => y.new rfl
      have k2 : ∀ y : Aft W, y.w1.cell? ⟨w.heap.size, 2, none⟩ = some (.int .i64 wd) := by subst hW; exact fun y => y.new rfl
      clear hcode hm v1 v2 hR
      go_enter Try.func22, Try.ntmps22
      go_wp2_with fail
      refine (Aft.first (w := W) HOk.out).mono ?_
      rintro e _ ⟨rfl, x1, rfl⟩
      clear z0 z1 z2 hW
      go_wp2_with (go_at_call 48; refine (within_v HV.out _).mono ?_; rintro e _ ⟨rfl, rfl⟩)
      go_ret2
      exact ⟨none, 0, rfl, SO.nil, held_next hbW x1.below⟩
    · exact implGates_in nm A n cap wd sp X Y w hs hn hR v1 v2
end Go.Proofs.Ytimfpnmcdicldaa
