/- ReadSignal: the reference's side. -/
import Derived.Test.YtolijmldobncbaaDoorReadS
import Derived.Test.YtolijmldobncbaaDoorStPhase
import Derived.Test.YtolijmldobncbaaDoorSendB
namespace Go.Proofs.YtolijmldobncbaaDoor
open Go Go.RowKit Go.Shelf
set_option maxHeartbeats 1000000 in
theorem l05ColorR_c (s : ByteArray) (v : Bool) (hv : isC s = v) (w : World) :
    Calls Tryd.prog 61 #[.string s] w fun e w' => e = .returned (.bool v) ∧ w = w' := by
  subst hv
  have hE : isC s = (s.toList == [87] || s.toList == [82] || s.toList == [71] || s.toList == [89]) := by rw [isC_eq]; simp only [ByteArray.toList_eq]
  rw [hE]
  clear hE
  cases h1 : (s.toList == [87])
  · cases h2 : (s.toList == [82])
    · cases h3 : (s.toList == [71])
      · go_enter Tryd.func61, Tryd.ntmps61
        go_wp2
        go_ret
        exact ⟨ret_bool (by simp), rfl⟩
      · go_enter Tryd.func61, Tryd.ntmps61
        go_wp2
        go_ret
        exact ⟨ret_bool (by simp), rfl⟩
    · go_enter Tryd.func61, Tryd.ntmps61
      go_wp2
      go_ret
      exact ⟨ret_bool (by simp), rfl⟩
  · go_enter Tryd.func61, Tryd.ntmps61
    go_wp2
    go_ret
    exact ⟨ret_bool (by simp), rfl⟩
theorem l07UnitR_c (n : Int) (v : Bool) (hv : inR n 1 50 = v) (w : World) :
    Calls Tryd.prog 62 #[.int .i64 n] w fun e w' => e = .returned (.bool v) ∧ w = w' := by
  subst hv
  go_enter Tryd.func62, Tryd.ntmps62
  go_wp2_with (go_at_call 77; refine (l00In_c _ _ _ _).mono ?_; rintro e w' ⟨rfl, rfl⟩)
  go_ret
  exact ⟨rfl, rfl⟩
theorem l07FindR_c (s : ByteArray) (r : ByteArray) (hr : (findL s).getD ⟨#[]⟩ = r) (w : World) :
    Calls Tryd.prog 70 #[.string s] w fun e w' => e = .returned (.string r) ∧ Below w.heap.size w w' := by
  subst hr
  rcases code_or (s := s) 26 (Nat.le_refl _) with h | ⟨n, h⟩
  · rw [findL_none h]; exact l07Find_no s h w
  · rw [findL_some h]; exact l07Find_yes s n h w
def readAll (n : Nat) (unit : Int) (X : Nat → ByteArray) (Y : Nat → Int) : ByteArray × Int := if inR unit 1 50 = true then readR n unit X Y else (⟨#[]⟩, 2)
set_option maxRecDepth 100000 in
set_option maxHeartbeats 16000000 in
theorem specRead_c (A : Option Addr) (n cap : Nat) (X : Nat → ByteArray) (Y : Nat → Int) (unit : Int) (hn : n ≤ 1048576) (hX : ∀ i, i < n → (X i).size ≤ maxLen) (hY : ∀ i, i < n → (Lit.int .i64 (Y i)).wf = true) (w : World) (hR : Rec 2 w A n (vPhase X Y)) :
    Calls Tryd.prog 36 #[.slice A n cap, .int .i64 unit] w fun e w' => e = .returned (.tuple #[.string (readAll n unit X Y).1, .int .i64 (readAll n unit X Y).2]) ∧ Below w.heap.size w w' := by
  have HUn := Lib.hid (fun W => l07UnitR_c unit _ rfl W)
  by_cases h2 : inR unit 1 50 = true
  · obtain ⟨u0, u1⟩ := inR_iff.1 h2
    have HA := Lib.hid (show readAll n unit X Y = readR n unit X Y from if_pos h2)
    rw [h2] at HUn
    clear h2
    go_enter Tryd.func36, Tryd.ntmps36
    go_wp2_with (go_at_call 62; refine (HUn.out _).mono ?_; rintro e w' ⟨rfl, rfl⟩)
    go_loopw [6, 7, 8] (fun o c i wr => ∃ (k : Nat) (x : Aft w) (st : ByteArray × ByteArray), k ≤ n ∧ o = .string st.1 ∧ c = .string st.2 ∧ i = .int .i64 k ∧ wr = x.w1 ∧ Hid (stR unit (endC n X) (endL n unit Y) (if k = n ∧ 0 < n then n + 1 else k) = some st)) (fun _ _ i _ => n - (intOf i).toNat)
    case atStart => exact ⟨0, ⟨w, Below.refl _ _⟩, _, by omega, rfl, rfl, rfl, rfl, Lib.hid (by rw [if_neg (by omega)]; rfl)⟩
    case round =>
      obtain ⟨k, x, st, hk, rfl, rfl, rfl, rfl, hst⟩ := hrel
      obtain ⟨o, c⟩ := st
      simp only at hst ⊢
      by_cases hlt : k < n
      · obtain ⟨b, ob, hi⟩ := hR
        obtain ⟨rfl, hc⟩ := hi k hlt
        have p0 : w.cell? ⟨b, ob + k * 2, none⟩ = some (.string (X k)) := by simpa [vPhase, Nat.add_assoc] using hc 0 (by omega)
        have p1 : w.cell? ⟨b, ob + k * 2 + 1, none⟩ = some (.int .i64 (Y k)) := by simpa [vPhase, Nat.add_assoc] using hc 1 (by omega)
        have c0 : ∀ y : Aft w, y.w1.cell? ⟨b, ob + k * 2, none⟩ = some (.string (X k)) := fun y => y.cell (cell_lt p0) p0
        have c1 : ∀ y : Aft w, y.w1.cell? ⟨b, ob + k * 2 + 1, none⟩ = some (.int .i64 (Y k)) := fun y => y.cell (cell_lt p1) p1
        have d0 := c0 x
        have d1 := c1 x
        clear hc hi p0 p1
        have hst0 : stR unit (endC n X) (endL n unit Y) k = some (o, c) := by have h := hst.out; rwa [if_neg (by omega)] at h
        have hsz := stR_size hst0
        simp only at hsz
        obtain ⟨hso, hsc⟩ := hsz
        have HS := Lib.hid hst0
        clear hst hst0
        obtain ⟨y0, y1⟩ := i64_wf (hY k hlt)
        have hwq : wrap64 ((Y k).tdiv unit) = (Y k).tdiv unit := by have h := IntWalk.i64_quo' (Y k) unit ⟨y0, y1, u0⟩; rw [IntKind.wrap_i64] at h; unfold wrap64; exact h
        by_cases hm : (Y k).tmod unit = 0
        · have hlen := fun q => len_of u0 hm q
          have HL := Lib.hid hlen
          clear hlen
          generalize hq : (Y k).tdiv unit = q at *
          cases he : (X k).toList.isEmpty
          · by_cases hp : k % 2 = 0
            · have hp2 : (k : Int) % 2 = 0 := by omega
              cases hcl : isC (X k)
              · have HE := Lib.hid (readR_fall HS.out hlt (stepR_noC he hcl))
                clear HL
                go_wp2_with (go_at_call 61; refine (l05ColorR_c _ _ rfl _).mono ?_; rintro e w' ⟨rfl, rfl⟩)
                go_ret2
                exact ⟨by rw [HA.out, HE.out]; rfl, by repeat (first | exact x.below | refine Below.alloc ?_ x.below.size _)⟩
              · have HST := Lib.hid (stepR_sign (unit := unit) (len := Y k) (st := (o, c)) he hp hcl)
                clear hY y0 y1
                by_cases q1 : q = 1
                · subst q1
                  have HN := Lib.hid (stR_next HS.out hlt (HST.out.trans (by rw [if_pos ((HL.out 1).1 rfl |>.trans (Int.one_mul _))])))
                  clear HL HST
                  by_cases hl : (k : Int) = n - 1
                  · obtain rfl : n = k + 1 := by omega
                    clear hl
                    have HP := Lib.hid (stR_pause (C := X) (L := Y) u0 HN.out (by omega))
                    cases hr : findL (c ++ (⟨#[46]⟩ : ByteArray))
                    · have HF := Lib.hid (fun W => l07FindR_c (c ++ (⟨#[46]⟩ : ByteArray)) ⟨#[]⟩ (by rw [hr]; rfl) W)
                      have HE := Lib.hid (readR_none (n := k + 1) (HP.out.trans (by simp only [hr]; rfl)) (Nat.le_refl _))
                      clear HP HN hr
                      go_wp2_with (first
                      | (go_at_call 61; refine (l05ColorR_c _ _ rfl _).mono ?_; rintro e w' ⟨rfl, rfl⟩)
                      | (go_at_call 70; refine (HF.out _).mono ?_; rintro e w2 ⟨rfl, b2⟩))
                      go_ret2
                      exact ⟨by rw [HA.out, HE.out]; rfl, held_next (x.below.alloc x.below.size _) b2⟩
                    · rename_i l
                      have HF := Lib.hid (fun W => l07FindR_c (c ++ (⟨#[46]⟩ : ByteArray)) l (by rw [hr]; rfl) W)
                      have hle := findL_ne hr
                      have hls := findL_size hr
                      have HN2 := Lib.hid (HP.out.trans (by simp only [hr]; rfl))
                      clear HP HN hr
                      go_wp2_with (first
                      | (go_at_call 61; refine (l05ColorR_c _ _ rfl _).mono ?_; rintro e w' ⟨rfl, rfl⟩)
                      | (go_at_call 70; refine (HF.out _).mono ?_; rintro e w2 ⟨rfl, b2⟩))
                      go_roundw
                      case rel => exact ⟨k + 1, ⟨_, held_next (x.below.alloc x.below.size _) b2⟩, (o ++ l, ⟨#[]⟩), by omega, rfl, rfl, by go_num, rfl, Lib.hid (by rw [if_pos ⟨by omega, by omega⟩]; exact HN2.out)⟩
                      case measure => simp [intOf]
                  · go_wp2_with (go_at_call 61; refine (l05ColorR_c _ _ rfl _).mono ?_; rintro e w' ⟨rfl, rfl⟩)
                    go_roundw
                    case rel => exact ⟨k + 1, ⟨_, x.below.alloc x.below.size _⟩, (o, c ++ (⟨#[46]⟩ : ByteArray)), by omega, rfl, rfl, by go_num, rfl, Lib.hid (by rw [if_neg (by omega)]; exact HN.out)⟩
                    case measure => simp [intOf]; omega
                · by_cases q3 : q = 3
                  · subst q3
                    have HN := Lib.hid (stR_next HS.out hlt (HST.out.trans (by rw [if_neg (by have := (HL.out 3).1 rfl; omega), if_pos ((HL.out 3).1 rfl)])))
                    clear HL HST
                    by_cases hl : (k : Int) = n - 1
                    · obtain rfl : n = k + 1 := by omega
                      clear hl
                      have HP := Lib.hid (stR_pause (C := X) (L := Y) u0 HN.out (by omega))
                      cases hr : findL (c ++ (⟨#[45]⟩ : ByteArray))
                      · have HF := Lib.hid (fun W => l07FindR_c (c ++ (⟨#[45]⟩ : ByteArray)) ⟨#[]⟩ (by rw [hr]; rfl) W)
                        have HE := Lib.hid (readR_none (n := k + 1) (HP.out.trans (by simp only [hr]; rfl)) (Nat.le_refl _))
                        clear HP HN hr
                        go_wp2_with (first
                        | (go_at_call 61; refine (l05ColorR_c _ _ rfl _).mono ?_; rintro e w' ⟨rfl, rfl⟩)
                        | (go_at_call 70; refine (HF.out _).mono ?_; rintro e w2 ⟨rfl, b2⟩))
                        go_ret2
                        exact ⟨by rw [HA.out, HE.out]; rfl, held_next (x.below.alloc x.below.size _) b2⟩
                      · rename_i l
                        have HF := Lib.hid (fun W => l07FindR_c (c ++ (⟨#[45]⟩ : ByteArray)) l (by rw [hr]; rfl) W)
                        have hle := findL_ne hr
                        have hls := findL_size hr
                        have HN2 := Lib.hid (HP.out.trans (by simp only [hr]; rfl))
                        clear HP HN hr
                        go_wp2_with (first
                        | (go_at_call 61; refine (l05ColorR_c _ _ rfl _).mono ?_; rintro e w' ⟨rfl, rfl⟩)
                        | (go_at_call 70; refine (HF.out _).mono ?_; rintro e w2 ⟨rfl, b2⟩))
                        go_roundw
                        case rel => exact ⟨k + 1, ⟨_, held_next (x.below.alloc x.below.size _) b2⟩, (o ++ l, ⟨#[]⟩), by omega, rfl, rfl, by go_num, rfl, Lib.hid (by rw [if_pos ⟨by omega, by omega⟩]; exact HN2.out)⟩
                        case measure => simp [intOf]
                    · go_wp2_with (go_at_call 61; refine (l05ColorR_c _ _ rfl _).mono ?_; rintro e w' ⟨rfl, rfl⟩)
                      go_roundw
                      case rel => exact ⟨k + 1, ⟨_, x.below.alloc x.below.size _⟩, (o, c ++ (⟨#[45]⟩ : ByteArray)), by omega, rfl, rfl, by go_num, rfl, Lib.hid (by rw [if_neg (by omega)]; exact HN.out)⟩
                      case measure => simp [intOf]; omega
                  · have b1x : (q == 1) = false := by simp; omega
                    have b1y : (q != 1) = true := by simp; omega
                    have b3x : (q == 3) = false := by simp; omega
                    have b3y : (q != 3) = true := by simp; omega
                    have HE := Lib.hid (readR_fall HS.out hlt (HST.out.trans (by rw [if_neg (fun h => q1 ((HL.out 1).2 (h.trans (Int.one_mul _).symm))), if_neg (fun h => q3 ((HL.out 3).2 h))])))
                    clear HL HST
                    go_wp2_with (go_at_call 61; refine (l05ColorR_c _ _ rfl _).mono ?_; rintro e w' ⟨rfl, rfl⟩)
                    go_ret2
                    exact ⟨by rw [HA.out, HE.out]; rfl, by repeat (first | exact x.below | refine Below.alloc ?_ x.below.size _)⟩
            · have hp2 : (k : Int) % 2 = 1 := by omega
              have HE := Lib.hid (readR_fall HS.out hlt (stepR_badcol (by rw [he]; simp; omega)))
              clear HL
              go_wp2_with (go_at_call 61; refine (l05ColorR_c _ _ rfl _).mono ?_; rintro e w' ⟨rfl, rfl⟩)
              go_ret2
              exact ⟨by rw [HA.out, HE.out]; rfl, by repeat (first | exact x.below | refine Below.alloc ?_ x.below.size _)⟩
          · by_cases hp : k % 2 = 0
            · have hp2 : (k : Int) % 2 = 0 := by omega
              have HE := Lib.hid (readR_fall HS.out hlt (stepR_badcol (by rw [he]; simp; omega)))
              clear HL
              go_wp2
              go_ret2
              exact ⟨by rw [HA.out, HE.out]; rfl, by repeat (first | exact x.below | refine Below.alloc ?_ x.below.size _)⟩
            · have hp2 : (k : Int) % 2 = 1 := by omega
              have HST := Lib.hid (stepR_gap (unit := unit) (len := Y k) (st := (o, c)) he (by omega : k % 2 = 1))
              clear hY y0 y1
              by_cases hl : (k : Int) = n - 1
              · obtain rfl : n = k + 1 := by omega
                clear hl
                have HF := Lib.hid (fun W => l07FindR_c c _ rfl W)
                generalize (findL c).getD ⟨#[]⟩ = r at *
                have HE := Lib.hid (readR_even (unit := unit) (C := X) (L := Y) (show (k + 1) % 2 = 0 by omega))
                clear HL HST
                cases hre : r.toList.isEmpty
                · by_cases q1 : q = 1
                  · subst q1
                    go_wp2_with (go_at_call 70; refine (HF.out _).mono ?_; rintro e w2 ⟨rfl, b2⟩)
                    go_ret2
                    exact ⟨by rw [HA.out, HE.out]; rfl, held_next (x.below.alloc x.below.size _) b2⟩
                  · by_cases q3 : q = 3
                    · subst q3
                      go_wp2_with (go_at_call 70; refine (HF.out _).mono ?_; rintro e w2 ⟨rfl, b2⟩)
                      go_ret2
                      exact ⟨by rw [HA.out, HE.out]; rfl, held_next (x.below.alloc x.below.size _) b2⟩
                    · by_cases q7 : q = 7
                      · subst q7
                        go_wp2_with (go_at_call 70; refine (HF.out _).mono ?_; rintro e w2 ⟨rfl, b2⟩)
                        go_ret2
                        exact ⟨by rw [HA.out, HE.out]; rfl, held_next (x.below.alloc x.below.size _) b2⟩
                      · have b1x : (q == 1) = false := by simp; omega
                        have b1y : (q != 1) = true := by simp; omega
                        have b3x : (q == 3) = false := by simp; omega
                        have b3y : (q != 3) = true := by simp; omega
                        have b7x : (q == 7) = false := by simp; omega
                        have b7y : (q != 7) = true := by simp; omega
                        go_wp2
                        go_ret2
                        exact ⟨by rw [HA.out, HE.out]; rfl, x.below.alloc x.below.size _⟩
                · by_cases q1 : q = 1
                  · subst q1
                    go_wp2_with (go_at_call 70; refine (HF.out _).mono ?_; rintro e w2 ⟨rfl, b2⟩)
                    go_ret2
                    exact ⟨by rw [HA.out, HE.out]; rfl, held_next (x.below.alloc x.below.size _) b2⟩
                  · by_cases q3 : q = 3
                    · subst q3
                      go_wp2_with (go_at_call 70; refine (HF.out _).mono ?_; rintro e w2 ⟨rfl, b2⟩)
                      go_ret2
                      exact ⟨by rw [HA.out, HE.out]; rfl, held_next (x.below.alloc x.below.size _) b2⟩
                    · by_cases q7 : q = 7
                      · subst q7
                        go_wp2_with (go_at_call 70; refine (HF.out _).mono ?_; rintro e w2 ⟨rfl, b2⟩)
                        go_ret2
                        exact ⟨by rw [HA.out, HE.out]; rfl, held_next (x.below.alloc x.below.size _) b2⟩
                      · have b1x : (q == 1) = false := by simp; omega
                        have b1y : (q != 1) = true := by simp; omega
                        have b3x : (q == 3) = false := by simp; omega
                        have b3y : (q != 3) = true := by simp; omega
                        have b7x : (q == 7) = false := by simp; omega
                        have b7y : (q != 7) = true := by simp; omega
                        go_wp2
                        go_ret2
                        exact ⟨by rw [HA.out, HE.out]; rfl, x.below.alloc x.below.size _⟩
              · by_cases q1 : q = 1
                · subst q1
                  have HN := Lib.hid (stR_next HS.out hlt (HST.out.trans (by rw [if_pos ((HL.out 1).1 rfl |>.trans (Int.one_mul _))])))
                  clear HL HST
                  go_wp2
                  go_roundw
                  case rel => exact ⟨k + 1, ⟨_, x.below.alloc x.below.size _⟩, (o, c), by omega, rfl, rfl, by go_num, rfl, Lib.hid (by rw [if_neg (by omega)]; exact HN.out)⟩
                  case measure => simp [intOf]; omega
                · by_cases q3 : q = 3
                  · subst q3
                    cases hr : findL c
                    · have HF := Lib.hid (fun W => l07FindR_c c ⟨#[]⟩ (by rw [hr]; rfl) W)
                      have HE := Lib.hid (readR_fall HS.out hlt (HST.out.trans (by rw [if_neg (by have := (HL.out 3).1 rfl; omega), if_pos ((HL.out 3).1 rfl)]; simp only [hr]; rfl)))
                      clear HL HST hr
                      go_wp2_with (go_at_call 70; refine (HF.out _).mono ?_; rintro e w2 ⟨rfl, b2⟩)
                      go_ret2
                      exact ⟨by rw [HA.out, HE.out]; rfl, held_next (x.below.alloc x.below.size _) b2⟩
                    · rename_i l
                      have HF := Lib.hid (fun W => l07FindR_c c l (by rw [hr]; rfl) W)
                      have hle := findL_ne hr
                      have hls := findL_size hr
                      have HN := Lib.hid (stR_next (st' := (o ++ l, ⟨#[]⟩)) HS.out hlt (HST.out.trans (by rw [if_neg (by have := (HL.out 3).1 rfl; omega), if_pos ((HL.out 3).1 rfl)]; simp only [hr]; rfl)))
                      clear HL HST hr
                      go_wp2_with (first
                      | (go_at_call 61; refine (l05ColorR_c _ _ rfl _).mono ?_; rintro e w' ⟨rfl, rfl⟩)
                      | (go_at_call 70; refine (HF.out _).mono ?_; rintro e w2 ⟨rfl, b2⟩))
                      go_roundw
                      case rel => exact ⟨k + 1, ⟨_, held_next (x.below.alloc x.below.size _) b2⟩, (o ++ l, ⟨#[]⟩), by omega, rfl, rfl, by go_num, rfl, Lib.hid (by rw [if_neg (by omega)]; exact HN.out)⟩
                      case measure => simp [intOf]; omega
                  · by_cases q7 : q = 7
                    · subst q7
                      cases hr : findL c
                      · have HF := Lib.hid (fun W => l07FindR_c c ⟨#[]⟩ (by rw [hr]; rfl) W)
                        have HE := Lib.hid (readR_fall HS.out hlt (HST.out.trans (by rw [if_neg (by have := (HL.out 7).1 rfl; omega), if_neg (by have := (HL.out 7).1 rfl; omega), if_pos ((HL.out 7).1 rfl)]; simp only [hr]; rfl)))
                        clear HL HST hr
                        go_wp2_with (go_at_call 70; refine (HF.out _).mono ?_; rintro e w2 ⟨rfl, b2⟩)
                        go_ret2
                        exact ⟨by rw [HA.out, HE.out]; rfl, held_next (x.below.alloc x.below.size _) b2⟩
                      · rename_i l
                        have HF := Lib.hid (fun W => l07FindR_c c l (by rw [hr]; rfl) W)
                        have hle := findL_ne hr
                        have hls := findL_size hr
                        have HN := Lib.hid (stR_next (st' := (o ++ l ++ (⟨#[32]⟩ : ByteArray), ⟨#[]⟩)) HS.out hlt (HST.out.trans (by rw [if_neg (by have := (HL.out 7).1 rfl; omega), if_neg (by have := (HL.out 7).1 rfl; omega), if_pos ((HL.out 7).1 rfl)]; simp only [hr]; rfl)))
                        clear HL HST hr
                        go_wp2_with (first
                        | (go_at_call 61; refine (l05ColorR_c _ _ rfl _).mono ?_; rintro e w' ⟨rfl, rfl⟩)
                        | (go_at_call 70; refine (HF.out _).mono ?_; rintro e w2 ⟨rfl, b2⟩))
                        go_roundw
                        case rel => exact ⟨k + 1, ⟨_, held_next (x.below.alloc x.below.size _) b2⟩, (o ++ l ++ (⟨#[32]⟩ : ByteArray), ⟨#[]⟩), by omega, rfl, rfl, by go_num, rfl, Lib.hid (by rw [if_neg (by omega)]; exact HN.out)⟩
                        case measure => simp [intOf]; omega
                    · have b1x : (q == 1) = false := by simp; omega
                      have b1y : (q != 1) = true := by simp; omega
                      have b3x : (q == 3) = false := by simp; omega
                      have b3y : (q != 3) = true := by simp; omega
                      have b7x : (q == 7) = false := by simp; omega
                      have b7y : (q != 7) = true := by simp; omega
                      have HE := Lib.hid (readR_fall HS.out hlt (HST.out.trans (by rw [if_neg (fun h => q1 ((HL.out 1).2 (h.trans (Int.one_mul _).symm))), if_neg (fun h => q3 ((HL.out 3).2 h)), if_neg (fun h => q7 ((HL.out 7).2 h))])))
                      clear HL HST
                      go_wp2
                      go_ret2
                      exact ⟨by rw [HA.out, HE.out]; rfl, x.below.alloc x.below.size _⟩
        · have HE := Lib.hid (readR_fall (n := n) HS.out hlt (stepR_badlen (fun h => hm (by rw [h]; have := mod_of (unit := unit) 1; rwa [Int.one_mul] at this)) (fun h => hm (by rw [h]; exact mod_of 3)) (fun h => hm (by rw [h]; exact mod_of 7))))
          go_wp2
          go_ret2
          exact ⟨by rw [HA.out, HE.out]; rfl, x.below.alloc x.below.size _⟩
      · obtain rfl : k = n := by omega
        have HD := Lib.hid (readR_done hst.out)
        have hso : o.size ≤ 2 * (k + 1) := by
          have h := hst.out
          split at h
          · exact (stR_size h).1
          · exact Nat.le_trans (stR_size h).1 (by omega)
        have HT := Lib.hid (fun W => l07Text_c o (by unfold maxLen; omega) W)
        simp only at HD
        clear hst
        cases hk : okText o
        · rw [hk] at HT HD
          go_wp2_with (go_at_call 59; refine (HT.out _).mono ?_; rintro e w' ⟨rfl, rfl⟩)
          go_ret2
          exact ⟨by rw [HA.out, HD.out]; rfl, x.below⟩
        · rw [hk] at HT HD
          go_wp2_with (go_at_call 59; refine (HT.out _).mono ?_; rintro e w' ⟨rfl, rfl⟩)
          go_ret2
          exact ⟨by rw [HA.out, HD.out]; rfl, x.below⟩
  · have HA := Lib.hid (show readAll n unit X Y = (⟨#[]⟩, 2) from if_neg h2)
    have h2' : inR unit 1 50 = false := by simpa using h2
    rw [h2'] at HUn
    clear h2 h2'
    go_enter Tryd.func36, Tryd.ntmps36
    go_wp2_with (go_at_call 62; refine (HUn.out _).mono ?_; rintro e w' ⟨rfl, rfl⟩)
    go_ret2
    exact ⟨by rw [HA.out]; rfl, Below.refl _ _⟩
end Go.Proofs.YtolijmldobncbaaDoor
