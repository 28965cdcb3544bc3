/- ReadSignal: the program's side. -/
import Derived.Test.YtolijmldobncbaaDoorReadA2
import Derived.Lib.OthersKept
namespace Go.Proofs.YtolijmldobncbaaDoor
open Go Go.RowKit Go.Shelf
/-- All cells of n records in one list. -/
def flatF (m n : Nat) (f : Nat → Nat → Value) : List Value := (List.range (n * m)).map (fun q => f (q / m) (q % m))
theorem flatF_len (m n : Nat) (f : Nat → Nat → Value) : (flatF m n f).length = n * m := by simp [flatF]
theorem flatF_at {m n i j : Nat} (f : Nat → Nat → Value) (hi : i < n) (hj : j < m) : (flatF m n f)[i * m + j]? = some (f i j) := by
  have h := idx_lt hi hj
  unfold flatF
  rw [List.getElem?_map, List.getElem?_range h]
  have e1 : (i * m + j) / m = i := by rw [Nat.add_comm, Nat.add_mul_div_right _ _ (by omega), Nat.div_eq_of_lt hj, Nat.zero_add]
  have e2 : (i * m + j) % m = j := by rw [Nat.add_comm, Nat.add_mul_mod_self_right, Nat.mod_eq_of_lt hj]
  simp [e1, e2]
theorem pause_at {n : Nat} {unit : Int} {X : Nat → ByteArray} {Y : Nat → Int} (i : Nat) (hi : i < n + 1) (j : Nat) (hj : j < 2) : (flatF 2 n (vPhase X Y) ++ [Value.string ⟨#[]⟩, Value.int .i64 (3 * unit)])[i * 2 + j]? = some (vPhase (endC n X) (endL n unit Y) i j) := by
  by_cases h : i < n
  · rw [List.getElem?_append_left (by rw [flatF_len]; exact idx_lt h hj), flatF_at _ h hj]
    unfold vPhase
    rw [endC_lt h, endL_lt h]
  · obtain rfl : i = n := by omega
    rw [List.getElem?_append_right (by rw [flatF_len]; omega), flatF_len, Nat.add_sub_cancel_left]
    unfold vPhase
    rw [endC_at, endL_at]
    have hj : j = 0 ∨ j = 1 := by omega
    rcases hj with rfl | rfl <;> rfl
set_option maxHeartbeats 2000000 in
theorem clonePhase_c (g0 n cap : Nat) (X : Nat → ByteArray) (Y : Nat → Int) (w : World) (hn : n ≤ 1048576) (hg0 : g0 < w.heap.size) (hR : Rec 2 w (some ⟨g0, 0, none⟩) n (vPhase X Y)) :
    Calls Tryd.prog 72 #[.slice (some ⟨g0, 0, none⟩) n cap] w fun e w' => ∃ v, e = .returned v ∧ w'.ownsRow w.heap.size 70 2 v n (flatF 2 n (vPhase X Y)) ∧ Below w.heap.size w w' := by
  obtain ⟨i0, hi0, hz0, hz1, hz2⟩ := info_parts infoPh
  obtain ⟨b, o, hi⟩ := hR
  have hcell : ∀ j u, (flatF 2 n (vPhase X Y))[j]? = some u → w.cell? ⟨g0, 0 + j, none⟩ = some u := by
    intro j u hu
    have hj : j < n * 2 := by
      have := (List.getElem?_eq_some_iff.1 hu).1
      rwa [flatF_len] at this
    obtain ⟨he, h2'⟩ := hi (j / 2) (by omega)
    have h2 := h2' (j % 2) (by omega)
    have e : j / 2 * 2 + j % 2 = j := by omega
    have h3 := flatF_at (m := 2) (n := n) (i := j / 2) (j := j % 2) (vPhase X Y) (by omega) (by omega)
    rw [e] at h2 h3
    rw [h3] at hu
    cases he
    rw [h2, hu]
  clear hi
  go_enter Tryd.func72, Tryd.ntmps72
  go_wp2_with (at_make; refine wpList_make_own _ rfl _ _ 42 rfl w.heap.size 70 i0 _ 2 Tryd.underlying42 hi0 hz0 hz1 _ _ _ n rfl rfl rfl (by rw [hz2]; omega) (by unfold maxLen; omega) (by simp) ?_)
  intro w1 hown hgrow
  have hb1 : Below w.heap.size w w1 := (Below.refl _ _).grown hgrow (Nat.le_refl _) (by simp)
  go_wp2_with (at_builtin; refine wpList_append_own _ rfl _ _ 42 rfl w.heap.size 70 i0 _ 2 24 Tryd.underlying42 hi0 hz0 hz1 hz2 rfl (by decide) _ _ _ rfl hown ⟨g0, 0, none⟩ n _ (flatF 2 n (vPhase X Y)) rfl (flatF_len _ _ _) ?c1 ?c2 (by unfold maxLen; omega) (by omega) hb1.size ?_)
  case c1 =>
    intro j u hu
    rw [Addr.add_lit]
    exact (hb1.cell (p := ⟨g0, 0 + j, none⟩) hg0).trans (hcell j u hu)
  case c2 =>
    intro u hu
    unfold flatF at hu
    obtain ⟨q, _, rfl⟩ := List.mem_map.1 hu
    unfold vPhase
    split <;> rfl
  intro v' w2 hown2 hgrow2 _
  go_wp2
  try simp only [Nat.zero_add, List.nil_append] at hown2
  go_ret
  exact ⟨_, rfl, hown2, hb1.grown hgrow2 hb1.size (fun k hk => (hown.lt k hk).1)⟩
theorem letterR_c (s : ByteArray) (w : World) :
    Calls Tryd.prog 73 #[.string s] w fun e w' => e = .returned (.tuple #[.string ((findL s).getD ⟨#[]⟩), .int .i64 (if (findL s).isSome = true then 0 else 3)]) ∧ Below w.heap.size w w' := by
  rcases code_or (s := s) 26 (Nat.le_refl _) with h | ⟨n, h⟩
  · rw [findL_none h]; exact implLetter_no s h w
  · rw [findL_some h]; exact implLetter_yes s n h w
set_option maxRecDepth 100000 in
set_option maxHeartbeats 16000000 in
theorem implRead_c (g0 n cap : Nat) (X : Nat → ByteArray) (Y : Nat → Int) (unit : Int) (hn : n ≤ 1048576) (hX : ∀ i, i < n → (X i).size ≤ maxLen) (w : World) (hg0 : g0 < w.heap.size) (hR : Rec 2 w (some ⟨g0, 0, none⟩) n (vPhase X Y)) (hM : MaxL w) :
    Calls Tryd.prog 38 #[.slice (some ⟨g0, 0, none⟩) n cap, .int .i64 unit] w fun e w' => e = .returned (.tuple #[.string (readAll n unit X Y).1, .int .i64 (readAll n unit X Y).2]) ∧ Below w.heap.size w w' := by
  obtain ⟨i0, hi0, hz0, hz1, hz2⟩ := info_parts infoPh
  have HUn := Lib.hid (fun W => isUnit_c unit _ rfl W)
  have HC := Lib.hid (clonePhase_c g0 n cap X Y w hn hg0 hR)
  by_cases h2 : inR unit 1 50 = true
  · obtain ⟨u0, u1⟩ := inR_iff.1 h2
    have HA := Lib.hid (show readAll n unit X Y = readR n unit X Y from if_pos h2)
    obtain ⟨m1, m2, m3⟩ := unit_bd (G := 7) (by omega) (by omega) u0 u1
    rw [h2] at HUn
    clear h2 hR
    go_enter Tryd.func38, Tryd.ntmps38
    go_wp2_with (go_at_call 65; refine (HUn.out _).mono ?_; rintro e w' ⟨rfl, rfl⟩)
    go_wp2_with fail
    refine HC.out.mono ?_
    rintro e w1 ⟨v, rfl, hown, hb1⟩
    have HO := Lib.hid hown
    have hsz := hb1.size
    clear hown HC
    go_wp2_with (at_builtin; refine wpList_append_own _ rfl _ _ 42 rfl w.heap.size 70 i0 _ 2 24 Tryd.underlying42 hi0 hz0 hz1 hz2 rfl (by decide) _ _ _ rfl (HO.out.alloc _) ⟨w1.heap.size, 0, none⟩ 1 1 [.string ⟨#[]⟩, .int .i64 (3 * unit)] rfl rfl (World.news_of_block (cs := #[.string ⟨#[]⟩, .int .i64 (3 * unit)]) (t := 70) (fr := (0, 0)) (heap_alloc_new w1 _)) (by simp [Value.oneCell']) (by unfold maxLen; omega) (by omega) (le_alloc hsz _) ?_; intro v6 w6 hown6 hgrow6 hnew6; obtain ⟨g6, c6, rfl⟩ := Go.Joins.ownsRow_form hown6 (by omega); have HO6 := Lib.hid hown6; have HG6 := Lib.hid hgrow6; clear hown6 hgrow6 hnew6)
    have HR6 := Lib.hid (SO.rec ⟨_, HO6.out, fun i hi j hj => pause_at (unit := unit) (X := X) (Y := Y) i hi j hj⟩)
    have hb6 : Below w.heap.size w w6 := own_next hb1 HO.out HG6.out
    go_loopw [6, 7, 23] (fun o c i wr => ∃ (k : Nat) (x : Aft w6) (st : ByteArray × ByteArray), k ≤ n + 1 ∧ o = .string st.1 ∧ c = .string st.2 ∧ i = .int .i64 k ∧ wr = x.w1 ∧ Hid (stR unit (endC n X) (endL n unit Y) k = some st)) (fun _ _ i _ => n + 1 - (intOf i).toNat)
    case atStart => exact ⟨0, ⟨w6, Below.refl _ _⟩, _, by omega, rfl, rfl, rfl, rfl, Lib.hid rfl⟩
    case round =>
      obtain ⟨k, x, st, hk, rfl, rfl, rfl, rfl, hst⟩ := hrel
      obtain ⟨o, c⟩ := st
      simp only at hst ⊢
      by_cases hlt : k < n + 1
      · obtain ⟨b, ob, hi⟩ := HR6.out
        obtain ⟨he6, hc⟩ := hi k hlt
        cases he6
        have p0 : w6.cell? ⟨g6, k * 2, none⟩ = some (.string (endC n X k)) := by simpa [vPhase, Nat.add_assoc] using hc 0 (by omega)
        have p1 : w6.cell? ⟨g6, k * 2 + 1, none⟩ = some (.int .i64 (endL n unit Y k)) := by simpa [vPhase, Nat.add_assoc] using hc 1 (by omega)
        have d0 := x.cell (cell_lt p0) p0
        have d1 := x.cell (cell_lt p1) p1
        have hcs : (endC n X k).size ≤ maxLen := by
          by_cases h : k < n
          · rw [endC_lt h]; exact hX k h
          · rw [endC, if_neg h]; exact Nat.zero_le _
        have hsz2 := stR_size hst.out
        simp only at hsz2
        obtain ⟨hso, hsc⟩ := hsz2
        have HS := Lib.hid (stR_succ hst.out)
        have HCC := Lib.hid (fun W => isColor_c (endC n X k) (by unfold maxLen at hcs; omega) _ rfl W)
        generalize endC n X k = C at *
        generalize endL n unit Y k = L at *
        clear hc hi p0 p1 hcs hst
        have hk1 : k + 1 ≤ n + 1 := hlt
        have HF := Lib.hid (fun (h : stepR unit k C L (o, c) = none) => readR_none (n := n) (C := X) (L := Y) (HS.out.trans h) hk1)
        cases he : C.toList.isEmpty
        · by_cases hp : k % 2 = 0
          · have hp2 : (k : Int) % 2 = 0 := by omega
            cases hcl : isC C
            · rw [hcl] at HCC
              have HE := Lib.hid (HF.out (stepR_noC he hcl))
              skip
              go_wp2_with (go_at_call 64; refine (HCC.out _).mono ?_; rintro e w' ⟨rfl, rfl⟩)
              go_ret2
              exact ⟨by rw [HA.out, HE.out]; rfl, held_next hb6 (x.below.alloc x.below.size _)⟩
            · rw [hcl] at HCC
              have HST := Lib.hid (stepR_sign (unit := unit) (len := L) (st := (o, c)) he hp hcl)
              by_cases q1 : L = unit
              · subst q1
                have HN := Lib.hid (HS.out.trans (HST.out.trans (if_pos rfl)))
                clear HST HF HS
                go_wp2_with (go_at_call 64; refine (HCC.out _).mono ?_; rintro e w' ⟨rfl, rfl⟩)
                go_roundw
                case rel => exact ⟨k + 1, ⟨_, (x.below.alloc x.below.size _)⟩, (o, c ++ (⟨#[46]⟩ : ByteArray)), by omega, rfl, rfl, by go_num, rfl, HN⟩
                case measure => simp [intOf]; omega
              · by_cases q3 : L = 3 * unit
                · subst q3
                  have HN := Lib.hid (HS.out.trans (HST.out.trans (by rw [if_neg q1, if_pos rfl])))
                  clear HST HF HS
                  go_wp2_with (go_at_call 64; refine (HCC.out _).mono ?_; rintro e w' ⟨rfl, rfl⟩)
                  go_roundw
                  case rel => exact ⟨k + 1, ⟨_, (x.below.alloc x.below.size _)⟩, (o, c ++ (⟨#[45]⟩ : ByteArray)), by omega, rfl, rfl, by go_num, rfl, HN⟩
                  case measure => simp [intOf]; omega
                · have HE0 := HF.out (HST.out.trans (by rw [if_neg q1, if_neg q3]))
                  clear HF HS
                  have HE := Lib.hid (HE0)
                  clear HST
                  go_wp2_with (go_at_call 64; refine (HCC.out _).mono ?_; rintro e w' ⟨rfl, rfl⟩)
                  go_ret2
                  exact ⟨by rw [HA.out, HE.out]; rfl, held_next hb6 (x.below.alloc x.below.size _)⟩
          · have hp2 : (k : Int) % 2 = 1 := by omega
            have HE := Lib.hid (HF.out (stepR_badcol (by rw [he]; simp; omega)))
            skip
            go_wp2
            go_ret2
            exact ⟨by rw [HA.out, HE.out]; rfl, held_next hb6 (x.below.alloc x.below.size _)⟩
        · by_cases hp : k % 2 = 0
          · have hp2 : (k : Int) % 2 = 0 := by omega
            have HE := Lib.hid (HF.out (stepR_badcol (by rw [he]; simp; omega)))
            skip
            go_wp2
            go_ret2
            exact ⟨by rw [HA.out, HE.out]; rfl, held_next hb6 (x.below.alloc x.below.size _)⟩
          · have hp2 : (k : Int) % 2 = 1 := by omega
            have HST := Lib.hid (stepR_gap (unit := unit) (len := L) (st := (o, c)) he (by omega : k % 2 = 1))
            by_cases q1 : L = unit
            · subst q1
              have HN := Lib.hid (HS.out.trans (HST.out.trans (if_pos rfl)))
              clear HST HF HS
              go_wp2
              go_roundw
              case rel => exact ⟨k + 1, ⟨_, (x.below.alloc x.below.size _)⟩, (o, c), by omega, rfl, rfl, by go_num, rfl, HN⟩
              case measure => simp [intOf]; omega
            · by_cases q3 : L = 3 * unit
              · subst q3
                cases hr : findL c
                · have HE0 := HF.out (HST.out.trans (by rw [if_neg q1, if_pos rfl, hr]; rfl))
                  clear HF HS
                  have HE := Lib.hid (HE0)
                  clear HST
                  go_wp2_with (go_at_call 73; refine (letterR_c _ _).mono ?_; rintro e w2 ⟨rfl, b2⟩; have r1 := b2.cell (p := ⟨x.w1.heap.size, 1, none⟩) (by simp); simp [go_sem] at r1; rw [hr])
                  go_ret2
                  exact ⟨by rw [HA.out, HE.out]; rfl, held_next hb6 (held_next (x.below.alloc x.below.size _) b2)⟩
                · rename_i l
                  have hls := findL_size hr
                  have HN : Hid (stR unit (endC n X) (endL n unit Y) (k + 1) = some (o ++ l, ⟨#[]⟩)) := Lib.hid (HS.out.trans (HST.out.trans (by rw [if_neg q1, if_pos rfl]; simp only [hr]; rfl)))
                  clear HST HF HS
                  go_wp2_with (go_at_call 73; refine (letterR_c _ _).mono ?_; rintro e w2 ⟨rfl, b2⟩; have r1 := b2.cell (p := ⟨x.w1.heap.size, 1, none⟩) (by simp); simp [go_sem] at r1; rw [hr])
                  go_roundw
                  case rel => exact ⟨k + 1, ⟨_, held_next (x.below.alloc x.below.size _) b2⟩, (o ++ l, ⟨#[]⟩), by omega, rfl, rfl, by go_num, rfl, HN⟩
                  case measure => simp [intOf]; omega
              · by_cases q7 : L = 7 * unit
                · subst q7
                  cases hr : findL c
                  · have HE0 := HF.out (HST.out.trans (by rw [if_neg q1, if_neg q3, if_pos rfl, hr]; rfl))
                    clear HF HS
                    have HE := Lib.hid (HE0)
                    clear HST
                    go_wp2_with (go_at_call 73; refine (letterR_c _ _).mono ?_; rintro e w2 ⟨rfl, b2⟩; have r1 := b2.cell (p := ⟨x.w1.heap.size, 1, none⟩) (by simp); simp [go_sem] at r1; rw [hr])
                    go_ret2
                    exact ⟨by rw [HA.out, HE.out]; rfl, held_next hb6 (held_next (x.below.alloc x.below.size _) b2)⟩
                  · rename_i l
                    have hls := findL_size hr
                    have HN : Hid (stR unit (endC n X) (endL n unit Y) (k + 1) = some (o ++ l ++ (⟨#[32]⟩ : ByteArray), ⟨#[]⟩)) := Lib.hid (HS.out.trans (HST.out.trans (by rw [if_neg q1, if_neg q3, if_pos rfl]; simp only [hr]; rfl)))
                    clear HST HF HS
                    go_wp2_with (go_at_call 73; refine (letterR_c _ _).mono ?_; rintro e w2 ⟨rfl, b2⟩; have r1 := b2.cell (p := ⟨x.w1.heap.size, 1, none⟩) (by simp); simp [go_sem] at r1; rw [hr])
                    go_roundw
                    case rel => exact ⟨k + 1, ⟨_, held_next (x.below.alloc x.below.size _) b2⟩, (o ++ l ++ (⟨#[32]⟩ : ByteArray), ⟨#[]⟩), by omega, rfl, rfl, by go_num, rfl, HN⟩
                    case measure => simp [intOf]; omega
                · have HE0 := HF.out (HST.out.trans (by rw [if_neg q1, if_neg q3, if_neg q7]))
                  have b1 : (L == unit) = false := by simpa using q1
                  have b3 : (L == 3 * unit) = false := by simpa using q3
                  have b7 : (L == 7 * unit) = false := by simpa using q7
                  clear HF HS
                  have HE := Lib.hid (HE0)
                  clear HST
                  go_wp2
                  go_ret2
                  exact ⟨by rw [HA.out, HE.out]; rfl, held_next hb6 (x.below.alloc x.below.size _)⟩
      · obtain rfl : k = n + 1 := by omega
        have HD := Lib.hid (readR_some hst.out)
        have hsz2 := stR_size hst.out
        simp only at HD hsz2
        have HT := Lib.hid (canSend_c o (by omega) x.w1 (hM.below (held_next hb6 x.below)))
        clear hst
        cases hk2 : okText o
        · rw [hk2] at HT HD
          go_wp2_with fail
          refine HT.out.mono ?_
          rintro e w7 ⟨rfl, hb7⟩
          go_wp2
          go_ret2
          exact ⟨by rw [HA.out, HD.out]; rfl, held_next hb6 (held_next x.below hb7)⟩
        · rw [hk2] at HT HD
          go_wp2_with fail
          refine HT.out.mono ?_
          rintro e w7 ⟨rfl, hb7⟩
          go_wp2
          go_ret2
          exact ⟨by rw [HA.out, HD.out]; rfl, held_next hb6 (held_next x.below hb7)⟩
  · have HA := Lib.hid (show readAll n unit X Y = (⟨#[]⟩, 2) from if_neg h2)
    have h2' : inR unit 1 50 = false := by simpa using h2
    rw [h2'] at HUn
    clear h2 h2' hR HC
    go_enter Tryd.func38, Tryd.ntmps38
    go_wp2_with (go_at_call 65; refine (HUn.out _).mono ?_; rintro e w' ⟨rfl, rfl⟩)
    go_ret2
    exact ⟨by rw [HA.out]; rfl, Below.refl _ _⟩
end Go.Proofs.YtolijmldobncbaaDoor
