/- SendText: the program's side. -/
import Derived.Test.YtolijmldobncbaaDoorSendA
namespace Go.Proofs.YtolijmldobncbaaDoor
open Go Go.RowKit Go.Shelf
/-- What lies in a block that is no row of that type is kept when such a row of the call's own grows. -/
theorem obj_grown {w w' : World} {base : Nat} {e : TypeId} {size n : Nat} {v : Value} {xs : List Value} {k : Nat} {ob o : Obj} (h : w.ownsRow base e size v n xs) (hk : w.heap[k]? = some ob) (hne : ∀ cs fr, ob ≠ .cells cs e fr) (hg : (w.alloc o).grownBy w' v.ownBlock) : w'.heap[k]? = some ob := by
  have hlt : k < w.heap.size := (Array.getElem?_eq_some_iff.1 hk).1
  have hne2 : some k ≠ v.ownBlock := by
    intro e1
    rcases h.2 with ⟨rfl, _⟩ | ⟨g, cap, cur, rfl, h2, h3, h4⟩
    · simp [Value.ownBlock] at e1
    · simp only [Value.ownBlock, Option.some.injEq] at e1
      subst e1
      rw [hk] at h3
      exact hne _ _ (Option.some.inj h3)
  have hb : (w.alloc o).heap[k]? = w.heap[k]? := (Go.Joins.below_alloc1 w o).block k hlt
  exact (hg.block k (by rw [World.size_alloc]; omega) hne2).trans (hb.trans hk)
theorem obj_cell {w : World} {k : Nat} {cs : Array Value} {t : TypeId} {fr : Nat × Nat} (h : w.heap[k]? = some (.cells cs t fr)) (i : Nat) : w.cell? ⟨k, i, none⟩ = cs[i]? := by
  simp [World.cell?, h]
/-- The bytes of a text in a block of their own. -/
theorem conv_obj (s : ByteArray) (w : World) : ∃ cap W1 cs fr, (convert 9 62 (.string s)).run Tryd.prog w = .ok (.slice (some ⟨w.heap.size, 0, none⟩) s.size cap) W1 ∧ W1.heap[w.heap.size]? = some (.cells cs 5 fr) ∧ (∀ i (h : i < s.size), cs[i]? = some (.int .u8 (s[i].toNat : Int))) ∧ Below w.heap.size w W1 := by
  refine ⟨_, _, _, _, Lib.run_convert_string_bytes w _ _ _ s Tryd.underlying9 Tryd.underlying62 Tryd.underlying5, Lib.bytesWorld_at_new w _ s, ?_, ?_⟩
  · intro i h
    rw [← obj_cell (Lib.bytesWorld_at_new w 5 s) i, Lib.bytesWorld_cell w _ s i h]
    congr 3
    rw [List.getD_eq_getElem?_getD, List.getElem?_eq_getElem (by simpa using h)]
    rfl
  · exact ⟨rfl, rfl, rfl, by rw [Lib.bytesWorld_size]; omega, fun j hj => Lib.bytesWorld_at_old w _ s j hj⟩
theorem unitsS_dot (w : World) : Calls Tryd.prog 66 #[.int .u8 46] w fun e w' => e = .returned (.int .i64 1) ∧ w = w' := by
  go_enter Tryd.func66, Tryd.ntmps66
  go_wp2
  go_ret
  exact ⟨rfl, rfl⟩
theorem unitsS_dash (w : World) : Calls Tryd.prog 66 #[.int .u8 45] w fun e w' => e = .returned (.int .i64 3) ∧ w = w' := by
  go_enter Tryd.func66, Tryd.ntmps66
  go_wp2
  go_ret
  exact ⟨rfl, rfl⟩
theorem isUnit_c (n : Int) (v : Bool) (hv : inR n 1 50 = v) (w : World) :
    Calls Tryd.prog 65 #[.int .i64 n] w fun e w' => e = .returned (.bool v) ∧ w = w' := by
  subst hv
  go_enter Tryd.func65, Tryd.ntmps65
  go_wp2_with (go_at_call 78; refine (within_c _ _ _ _).mono ?_; rintro e w' ⟨rfl, rfl⟩)
  go_ret
  exact ⟨rfl, rfl⟩
set_option maxRecDepth 100000 in
set_option maxHeartbeats 16000000 in
theorem implSend_good (s color : ByteArray) (unit : Int) (hs : s.size ≤ 1048576) (hcz0 : (color.size : Int) ≤ 9223372036854775807) (hb : okText s = true) (hcol : isC color = true) (u0 : 1 ≤ unit) (u1 : unit ≤ 50) (w : World) (hM : MaxL w) :
    Calls Tryd.prog 31 #[.string s, .string color, .int .i64 unit] w fun e w' => ∃ v, e = .returned (.tuple #[v, .int .i64 0]) ∧ w'.ownsRow w.heap.size 70 2 v (sendTo s color unit s.size).1.length (phs (sendTo s color unit s.size).1) ∧ Below w.heap.size w w' := by
  obtain ⟨i0, hi0, hz0, hz1, hz2⟩ := info_parts infoPh
  have HT := Lib.hid (canSend_c s (by omega) w hM)
  have HCol := Lib.hid (fun W => isColor_c color hcz0 true hcol W)
  have HUn := Lib.hid (fun W => isUnit_c unit true (inR_yes ⟨u0, u1⟩) W)
  obtain ⟨h1, h12, hby, _⟩ := okText_parts hb
  rw [hb] at HT
  have HB := Lib.hid hby
  clear hb hby hcol
  go_enter Tryd.func31, Tryd.ntmps31
  go_wp2_with fail
  refine HT.out.mono ?_
  rintro e w1 ⟨rfl, hb1⟩
  have hown0 : (w1.alloc (.cells #[] 70)).ownsRow w.heap.size 70 2 (.slice (some ⟨w1.heap.size, 0, none⟩) 0 0) 0 [] := World.ownsRow_lit (base := w.heap.size) (e := 70) (size := 2) w1 #[] 0 hb1.size (by decide) (by decide)
  obtain ⟨W2, hW2⟩ : ∃ W2, W2 = w1.alloc (.cells #[] 70) := ⟨_, rfl⟩
  have hb2 : Below w.heap.size w W2 := hW2 ▸ hb1.alloc hb1.size _
  have hs2 : W2.heap.size = w1.heap.size + 1 := by rw [hW2]; simp
  have hown2 : W2.ownsRow w.heap.size 70 2 (.slice (some ⟨w1.heap.size, 0, none⟩) 0 0) 0 [] := hW2 ▸ hown0
  have hge : w.heap.size ≤ w1.heap.size := hb1.size
  clear hown0
  go_wp2_with (first
    | (go_at_call 64; refine (HCol.out _).mono ?_; rintro e w' ⟨rfl, rfl⟩)
    | (go_at_call 65; refine (HUn.out _).mono ?_; rintro e w' ⟨rfl, rfl⟩))
  rw [← hW2]
  go_loopw [8, 9] (fun v g wr => ∃ pos : Nat, pos ≤ s.size ∧ g = .int .i64 (sendTo s color unit pos).2 ∧ wr.heap[w1.heap.size + 1]? = some (.stringIter s pos) ∧ Below w.heap.size w wr ∧ wr.ownsRow w.heap.size 70 2 v (sendTo s color unit pos).1.length (phs (sendTo s color unit pos).1)) (fun _ _ wr => s.size - wr.iterPos (w1.heap.size + 1))
  case atStart => exact ⟨0, by omega, rfl, by rw [← hs2]; exact World.iter_heap W2 s 0, hb2.alloc hb2.size _, own_below hown2 ((Below.refl _ _).alloc (Nat.le_refl _) _)⟩
  case round =>
    clear hown2 hb2 HT
    obtain ⟨pos, hpos, rfl, hit, hbw, hown⟩ := hrel
    have hpos0 := iterPos_of hit
    by_cases hlt : pos < s.size
    · have hby := HB.out pos hlt
      have ha : (s[pos]'hlt).toNat < 128 := by
        rcases hby with h | h
        · rw [h]; decide
        · have := isUp_iff.1 h; omega
      have hnx := fun ty => Lib.run_next_ascii_at (P := Tryd.prog) wr (w1.heap.size + 1) s pos ty hit hlt ha
      have hit2 := Lib.iterAt_heap wr (w1.heap.size + 1) s pos (pos + 1) hit
      have hbw2 := Lib.below_iterAt hbw (k := w1.heap.size + 1) (by omega) s (pos + 1)
      have hown2 := own_iterAt (pos' := pos + 1) hown hit
      have hsz2 : w.heap.size ≤ (wr.iterAt (w1.heap.size + 1) s (pos + 1)).heap.size := by rw [Lib.iterAt_size]; exact hbw.size
      generalize wr.iterAt (w1.heap.size + 1) s (pos + 1) = W1 at *
      have HI2 := Lib.hid hit2
      have HQ := Lib.hid hpos0
      have HB2 := Lib.hid hbw2
      have HO := Lib.hid hown2
      clear hit hit2 hbw hbw2 hown hown2 hpos0 ha
      by_cases h32 : s[pos] = 32
      · have b0 : ((s[pos].toNat : Int) == 32) = true := by rw [h32]; rfl
        have HN := Lib.hid (sendTo_blank (color := color) (unit := unit) hlt h32)
        clear h32 hby
        go_wp2
        refine ⟨⟨pos + 1, by omega, by rw [HN.out], HI2.out, HB2.out, by rw [HN.out]; exact HO.out⟩, ?_⟩
        rw [iterPos_of HI2.out, HQ.out]
        omega
      · have b0 : ((s[pos].toNat : Int) == 32) = false := by
          have : s[pos].toNat ≠ 32 := fun e => h32 (UInt8.toNat_inj.1 e)
          simp; omega
        have HN := Lib.hid (sendTo_letter (color := color) (unit := unit) hlt h32)
        have hsg := sigS_byte hlt
        have HSG := Lib.hid (fun W' => signsOf_c (s.extract pos (pos + 1)) (by rw [ByteArray.size_extract]; omega) W')
        rw [hsg] at HSG
        have hsn := codeB_signs (s[pos].toNat : Int)
        have hcz := hsn.1
        have HSN := Lib.hid hsn.2
        generalize codeB (s[pos].toNat : Int) = cb at *
        obtain ⟨cap, W4, cs, fr, hcv, hobj, hcs, hb4⟩ := conv_obj cb W1
        have HI4 : Hid (W4.heap[w1.heap.size + 1]? = some (.stringIter s (pos + 1))) := Lib.hid ((hb4.block _ (Array.getElem?_eq_some_iff.1 HI2.out).1).trans HI2.out)
        have HOB := Lib.hid hobj
        have HCS := Lib.hid hcs
        have HB4 := Lib.hid (HB2.out.trans (hb4.mono hsz2))
        have HO4 := Lib.hid (own_below HO.out hb4)
        clear h32 hby hsg hsn hobj hcs hb4
        go_wp2_with (go_at_call 55; refine (HSG.out _).mono ?_; rintro e w' ⟨rfl, rfl⟩)
        go_loopw [8, 9, 42] (fun v g i wr => ∃ j : Nat, j ≤ cb.size ∧ i = .int .i64 j ∧ g = .int .i64 (sendIn s color unit pos cb j).2 ∧ wr.heap[w1.heap.size + 1]? = some (.stringIter s (pos + 1)) ∧ wr.heap[W1.heap.size]? = some (.cells cs 5 fr) ∧ Below w.heap.size w wr ∧ wr.ownsRow w.heap.size 70 2 v (sendIn s color unit pos cb j).1.length (phs (sendIn s color unit pos cb j).1)) (fun _ _ i _ => cb.size - (intOf i).toNat)
        case atStart => exact ⟨0, by omega, rfl, by rw [sendIn_zero], HI4.out, HOB.out, HB4.out, by rw [sendIn_zero]; exact HO4.out⟩
        case round =>
          clear HI4 HOB HB4 HO4 HI2 HB2 HO hnx
          obtain ⟨j, hj, rfl, rfl, hit5, hobj5, hbel, hown⟩ := hrel
          by_cases hlt2 : j < cb.size
          · have HS := Lib.hid (sendIn_succ (s := s) (color := color) (unit := unit) (k := pos) hlt2)
            have hgap := sendIn_gap s color unit pos cb hpos j hj
            have hlen := sendIn_len s color unit pos cb j hpos (Nat.le_trans hj hcz)
            have hsz := hbel.size
            have hcell : wr.cell? ⟨W1.heap.size, j, none⟩ = some (.int .u8 (cb[j].toNat : Int)) := (obj_cell hobj5 j).trans (HCS.out j hlt2)
            have HO5 := Lib.hid hown
            have HB5 := Lib.hid hbel
            have HI5 := Lib.hid hit5
            have HOB5 := Lib.hid hobj5
            have HDS0 := Lib.hid (HSN.out j hlt2)
            clear hown hbel hit5 hobj5
            obtain ⟨st, hst⟩ : ∃ st, sendIn s color unit pos cb j = st := ⟨_, rfl⟩
            rw [hst] at HS hgap hlen HO5 ⊢
            clear hst
            obtain ⟨L, G⟩ := st
            simp only at hgap hlen HO5 ⊢
            obtain ⟨q4, q5, s1, s2⟩ := send_bd hlen hpos h12
            obtain ⟨m1, m2, m3⟩ := unit_bd hgap.1 hgap.2 u0 u1
            clear hlen
            rcases HDS0.out with hds | hds
            · have bs : ((cb[j].toNat : Int) == 45) = false := by rw [hds]; rfl
              have HDS := Lib.hid (show (if cb[j] = 45 then (3 : Int) else 1) = 1 by rw [hds]; rfl)
              rw [hds] at hcell
              have hcell2 : wr.cell? ⟨W1.heap.size, j, none⟩ = some (.int .u8 46) := hcell
              clear hcell hds bs
              by_cases hg : G > 0
              · have HGP := Lib.hid hg
                clear hgap
                go_wp2_with (first
                  | (go_at_call 66; refine (unitsS_dot _).mono ?_; rintro e w' ⟨rfl, rfl⟩)
                  | (at_builtin; refine wpList_append_own _ rfl _ _ 42 rfl w.heap.size 70 i0 _ 2 24 Tryd.underlying42 hi0 hz0 hz1 hz2 rfl (by decide) _ _ _ rfl (HO7.out.alloc _) ⟨w7.heap.size, 0, none⟩ 1 1 [.string color, .int .i64 (unit)] rfl rfl (World.news_of_block (cs := #[.string color, .int .i64 (unit)]) (t := 70) (fr := (0, 0)) (heap_alloc_new w7 _)) (by simp [Value.oneCell']) (small_row s2) q5 (le_alloc w7s _) ?_; intro v6 w6 hown5 hgrow5 hnew5; have HO6 := Lib.hid hown5; have HG6 := Lib.hid hgrow5; have w6s := Nat.le_trans (le_alloc w7s (.cells #[.string color, .int .i64 (unit)] 70)) hgrow5.size; clear hown5 hgrow5 hnew5)
                  | (at_builtin; refine wpList_append_own _ rfl _ _ 42 rfl w.heap.size 70 i0 _ 2 24 Tryd.underlying42 hi0 hz0 hz1 hz2 rfl (by decide) _ _ _ rfl (HO5.out.alloc _) ⟨wr.heap.size, 0, none⟩ 1 1 [.string ⟨#[]⟩, .int .i64 (G * unit)] rfl rfl (World.news_of_block (cs := #[.string ⟨#[]⟩, .int .i64 (G * unit)]) (t := 70) (fr := (0, 0)) (heap_alloc_new wr _)) (by simp [Value.oneCell']) (small_row s1) q4 (le_alloc hsz _) ?_; intro v7 w7 hown5 hgrow5 hnew5; have HO7 := Lib.hid hown5; have HG7 := Lib.hid hgrow5; have w7s := Nat.le_trans (le_alloc hsz (.cells #[.string ⟨#[]⟩, .int .i64 (G * unit)] 70)) hgrow5.size; clear hown5 hgrow5 hnew5))
                go_roundw
                case rel =>
                  have e := HS.out
                  refine ⟨j + 1, by omega, by go_num, by rw [e]; rfl, obj_grown HO7.out (obj_grown HO5.out HI5.out (by intro _ _ h; cases h) HG7.out) (by intro _ _ h; cases h) HG6.out, obj_grown HO7.out (obj_grown HO5.out HOB5.out (by intro _ _ h; cases h) HG7.out) (by intro _ _ h; cases h) HG6.out, own_next (own_next HB5.out HO5.out HG7.out) HO7.out HG6.out, ?_⟩
                  rw [e]
                  show _
                  have e2 := HO6.out
                  simp only [signStep, if_pos HGP.out] at e2 ⊢
                  simpa [phs_snoc, phs_two, HDS.out] using e2
                case measure => simp [intOf]; omega
              · have hG0 : G = 0 := by have := hgap.1; omega
                have HGP := Lib.hid hg
                clear hgap hg
                subst hG0
                go_wp2_with (first
                  | (go_at_call 66; refine (unitsS_dot _).mono ?_; rintro e w' ⟨rfl, rfl⟩)
                  | (at_builtin; refine wpList_append_own _ rfl _ _ 42 rfl w.heap.size 70 i0 _ 2 24 Tryd.underlying42 hi0 hz0 hz1 hz2 rfl (by decide) _ _ _ rfl (HO5.out.alloc _) ⟨wr.heap.size, 0, none⟩ 1 1 [.string color, .int .i64 (unit)] rfl rfl (World.news_of_block (cs := #[.string color, .int .i64 (unit)]) (t := 70) (fr := (0, 0)) (heap_alloc_new wr _)) (by simp [Value.oneCell']) (small_row s1) q4 (le_alloc hsz _) ?_; intro v6 w6 hown5 hgrow5 hnew5; have HO6 := Lib.hid hown5; have HG6 := Lib.hid hgrow5; have w6s := Nat.le_trans (le_alloc hsz (.cells #[.string color, .int .i64 (unit)] 70)) hgrow5.size; clear hown5 hgrow5 hnew5))
                go_roundw
                case rel =>
                  have e := HS.out
                  refine ⟨j + 1, by omega, by go_num, by rw [e]; rfl, obj_grown HO5.out HI5.out (by intro _ _ h; cases h) HG6.out, obj_grown HO5.out HOB5.out (by intro _ _ h; cases h) HG6.out, own_next HB5.out HO5.out HG6.out, ?_⟩
                  rw [e]
                  show _
                  have e2 := HO6.out
                  simp only [signStep, if_neg (by omega : ¬ (0 : Int) > 0)] at e2 ⊢
                  simpa [phs_snoc, phs_two, HDS.out] using e2
                case measure => simp [intOf]; omega
            · have bs : ((cb[j].toNat : Int) == 45) = true := by rw [hds]; rfl
              have HDS := Lib.hid (show (if cb[j] = 45 then (3 : Int) else 1) = 3 by rw [hds]; rfl)
              rw [hds] at hcell
              have hcell2 : wr.cell? ⟨W1.heap.size, j, none⟩ = some (.int .u8 45) := hcell
              clear hcell hds bs
              by_cases hg : G > 0
              · have HGP := Lib.hid hg
                clear hgap
                go_wp2_with (first
                  | (go_at_call 66; refine (unitsS_dash _).mono ?_; rintro e w' ⟨rfl, rfl⟩)
                  | (at_builtin; refine wpList_append_own _ rfl _ _ 42 rfl w.heap.size 70 i0 _ 2 24 Tryd.underlying42 hi0 hz0 hz1 hz2 rfl (by decide) _ _ _ rfl (HO7.out.alloc _) ⟨w7.heap.size, 0, none⟩ 1 1 [.string color, .int .i64 (3 * unit)] rfl rfl (World.news_of_block (cs := #[.string color, .int .i64 (3 * unit)]) (t := 70) (fr := (0, 0)) (heap_alloc_new w7 _)) (by simp [Value.oneCell']) (small_row s2) q5 (le_alloc w7s _) ?_; intro v6 w6 hown5 hgrow5 hnew5; have HO6 := Lib.hid hown5; have HG6 := Lib.hid hgrow5; have w6s := Nat.le_trans (le_alloc w7s (.cells #[.string color, .int .i64 (3 * unit)] 70)) hgrow5.size; clear hown5 hgrow5 hnew5)
                  | (at_builtin; refine wpList_append_own _ rfl _ _ 42 rfl w.heap.size 70 i0 _ 2 24 Tryd.underlying42 hi0 hz0 hz1 hz2 rfl (by decide) _ _ _ rfl (HO5.out.alloc _) ⟨wr.heap.size, 0, none⟩ 1 1 [.string ⟨#[]⟩, .int .i64 (G * unit)] rfl rfl (World.news_of_block (cs := #[.string ⟨#[]⟩, .int .i64 (G * unit)]) (t := 70) (fr := (0, 0)) (heap_alloc_new wr _)) (by simp [Value.oneCell']) (small_row s1) q4 (le_alloc hsz _) ?_; intro v7 w7 hown5 hgrow5 hnew5; have HO7 := Lib.hid hown5; have HG7 := Lib.hid hgrow5; have w7s := Nat.le_trans (le_alloc hsz (.cells #[.string ⟨#[]⟩, .int .i64 (G * unit)] 70)) hgrow5.size; clear hown5 hgrow5 hnew5))
                go_roundw
                case rel =>
                  have e := HS.out
                  refine ⟨j + 1, by omega, by go_num, by rw [e]; rfl, obj_grown HO7.out (obj_grown HO5.out HI5.out (by intro _ _ h; cases h) HG7.out) (by intro _ _ h; cases h) HG6.out, obj_grown HO7.out (obj_grown HO5.out HOB5.out (by intro _ _ h; cases h) HG7.out) (by intro _ _ h; cases h) HG6.out, own_next (own_next HB5.out HO5.out HG7.out) HO7.out HG6.out, ?_⟩
                  rw [e]
                  show _
                  have e2 := HO6.out
                  simp only [signStep, if_pos HGP.out] at e2 ⊢
                  simpa [phs_snoc, phs_two, HDS.out] using e2
                case measure => simp [intOf]; omega
              · have hG0 : G = 0 := by have := hgap.1; omega
                have HGP := Lib.hid hg
                clear hgap hg
                subst hG0
                go_wp2_with (first
                  | (go_at_call 66; refine (unitsS_dash _).mono ?_; rintro e w' ⟨rfl, rfl⟩)
                  | (at_builtin; refine wpList_append_own _ rfl _ _ 42 rfl w.heap.size 70 i0 _ 2 24 Tryd.underlying42 hi0 hz0 hz1 hz2 rfl (by decide) _ _ _ rfl (HO5.out.alloc _) ⟨wr.heap.size, 0, none⟩ 1 1 [.string color, .int .i64 (3 * unit)] rfl rfl (World.news_of_block (cs := #[.string color, .int .i64 (3 * unit)]) (t := 70) (fr := (0, 0)) (heap_alloc_new wr _)) (by simp [Value.oneCell']) (small_row s1) q4 (le_alloc hsz _) ?_; intro v6 w6 hown5 hgrow5 hnew5; have HO6 := Lib.hid hown5; have HG6 := Lib.hid hgrow5; have w6s := Nat.le_trans (le_alloc hsz (.cells #[.string color, .int .i64 (3 * unit)] 70)) hgrow5.size; clear hown5 hgrow5 hnew5))
                go_roundw
                case rel =>
                  have e := HS.out
                  refine ⟨j + 1, by omega, by go_num, by rw [e]; rfl, obj_grown HO5.out HI5.out (by intro _ _ h; cases h) HG6.out, obj_grown HO5.out HOB5.out (by intro _ _ h; cases h) HG6.out, own_next HB5.out HO5.out HG6.out, ?_⟩
                  rw [e]
                  show _
                  have e2 := HO6.out
                  simp only [signStep, if_neg (by omega : ¬ (0 : Int) > 0)] at e2 ⊢
                  simpa [phs_snoc, phs_two, HDS.out] using e2
                case measure => simp [intOf]; omega
          · obtain rfl : j = cb.size := by omega
            have HO5 := Lib.hid hown
            have HB5 := Lib.hid hbel
            have HI5 := Lib.hid hit5
            clear hown hbel hit5 hobj5
            go_wp2
            refine ⟨⟨pos + 1, by omega, by rw [HN.out], HI5.out, HB5.out, by rw [HN.out]; exact HO5.out⟩, ?_⟩
            rw [iterPos_of HI5.out, HQ.out]
            omega
    · obtain rfl : pos = s.size := by omega
      have hnx := fun ty => Lib.run_next_end_at (P := Tryd.prog) wr (w1.heap.size + 1) s s.size ty hit (by omega)
      have HO := Lib.hid hown
      clear hpos0 hit hown
      go_wp2
      go_ret2
      exact ⟨_, rfl, HO.out, hbw⟩
end Go.Proofs.YtolijmldobncbaaDoor
