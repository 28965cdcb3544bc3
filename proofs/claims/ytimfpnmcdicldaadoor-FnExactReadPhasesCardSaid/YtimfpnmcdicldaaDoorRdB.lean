/- Reading phases: the program's. -/
import Derived.Test.YtimfpnmcdicldaaDoorRdA
import Derived.Test.YtimfpnmcdicldaaDoorBlk
namespace Go.Proofs.YtimfpnmcdicldaaDoor
open Go Go.RowKit Go.Shelf
theorem rC_size (s : ByteArray) (i : Nat) : (rC s i).size ≤ 1 := by
  unfold rC
  split
  · exact Nat.zero_le _
  · unfold hdP
    rw [ByteArray.size_extract]
    omega
theorem rd_ok_of {s : ByteArray} {k : Nat} {n : Int} (h : num (tlP (pc s k)) = some n) : rOk s k = true := by
  have h2 : 2 ≤ (pc s k).size := by
    rcases Nat.lt_or_ge (pc s k).size 2 with h' | h'
    · exfalso
      have h0 : (tlP (pc s k)).size = 0 := by
        unfold tlP
        rw [ByteArray.size_extract]
        omega
      have := num_empty (s := tlP (pc s k)) (by have := (signN_le (tlP (pc s k))).2; omega)
      rw [this] at h
      cases h
    · exact h'
  unfold rOk
  rw [h, decide_eq_true h2]
  rfl
theorem own_blk_ne2 {w : World} {base m n g : Nat} {e t : TypeId} {cs : Array Value} {v : Value} {xs : List Value} (h : w.ownsRow base e m v n xs) (hB : Blk w g t cs) (hne : e ≠ t) : some g ≠ v.ownBlock := by
  rcases h.2 with ⟨rfl, _⟩ | ⟨g', cap, cur, rfl, _, h3, _⟩
  · simp [Value.ownBlock]
  · intro h0
    have : g = g' := by simpa [Value.ownBlock] using h0
    subst this
    have h4 := hB.symm.trans h3
    injection h4 with h4
    injection h4 with _ h5
    exact hne h5.symm
set_option maxRecDepth 100000 in
set_option maxHeartbeats 8000000 in
theorem implReadPh_c (s : ByteArray) (hs : s.size ≤ 1048576) (w : World) (hT : Pows w) (hE : Errs w) (hM : MaxL w) :
    Calls Tryd.prog 22 #[.string s] w (RdPost s w) := by
  obtain ⟨ip, hip, hip0, hip1, hip2⟩ := info_parts infoPhase
  have hown0 : (w.alloc (.cells #[] 72)).ownsRow w.heap.size 72 2 (.slice (some ⟨w.heap.size, 0, none⟩) 0 0) 0 [] := by
    have h := World.ownsRow_lit (base := w.heap.size) (e := 72) (size := 2) w #[] 0 (Nat.le_refl _) (by unfold maxLen; omega) rfl
    exact h
  have hbW : Below w.heap.size w (w.alloc (.cells #[] 72)) := (by repeat (first | exact Below.refl _ _ | refine Below.alloc ?_ (by simp; try omega) _ | refine Below.drew ?_))
  have HSp := Lib.hid (splitc_c 44 s (w.alloc (.cells #[] 72)) (by omega) (hM.below hbW))
  have hpl : (pieces 44 s).length = pcN s := rfl
  have HCell : Hid (∀ k, k < pcN s → (((pieces 44 s).map Value.string).toArray)[k]? = some (.string (pc s k))) := Lib.hid (fun k hk => by
    unfold pc
    rw [List.getElem?_toArray, List.getElem?_map, List.getD_eq_getElem?_getD, List.getElem?_eq_getElem (show k < (pieces 44 s).length from hk)]
    rfl)
  have hcnt : pcN s ≤ 1048577 := by have := pieces_count 44 s; rw [hpl] at this; omega
  rw [hpl] at HSp
  generalize ((pieces 44 s).map Value.string).toArray = PS at *
  have HNo := Lib.hid (fun k (hk : k < pcN s) (h : rOk s k = false) => rd_no hk h)
  have HYe := Lib.hid (fun k nn (h : num (tlP (pc s k)) = some nn) => rd_ok_of h)
  have HSz := Lib.hid (fun k (hk : k < pcN s) => (show (pc s k).size ≤ 1048576 from Nat.le_trans (pc_size hk) hs))
  have HTE := Lib.hid (And.intro hT hE)
  clear hT hE hM
  go_enter Tryd.func22, Tryd.ntmps22
  go_wp2_with fail
  refine HSp.out.mono ?_
  rintro e _ ⟨rfl, rfl⟩
  have hB0 := Blk.new (w.alloc (.cells #[] 72)) 9 PS
  have hO1 := hown0.alloc (.cells PS 9)
  have hb1 := hbW.alloc (by simp) (.cells PS 9)
  generalize hgp : (w.alloc (.cells #[] 72)).heap.size = gp at *
  generalize (w.alloc (.cells #[] 72)).alloc (.cells PS 9) = w1 at *
  have HB0 := Lib.hid hB0
  have HO1 := Lib.hid hO1
  clear hB0 hO1 hown0 HSp hbW hgp
  go_wp2
  go_loopw [4, 14] (fun v i wr => ∃ (k : Nat) (x : Aft w), k ≤ pcN s ∧ k ≤ 41 ∧ i = .int .i64 k ∧ wr = x.w1 ∧ (∃ gj cj, v = .slice (some ⟨gj, 0, none⟩) k cj) ∧ wr.ownsRow w.heap.size 72 2 v k (rdRow (rC s) (rL s) k) ∧ Blk wr gp 9 PS ∧ Hid (∀ j, j < k → rOk s j = true)) (fun _ i _ => pcN s - (intOf i).toNat)
  case atStart => exact ⟨0, ⟨w1, hb1⟩, by omega, by omega, rfl, rfl, ⟨_, _, rfl⟩, HO1.out, HB0.out, Lib.hid (fun j hj => by omega)⟩
  case round =>
    obtain ⟨k, x, hk, hk41, rfl, rfl, ⟨gj, cj, rfl⟩, hown, hblk, hall⟩ := hrel
    have HO := Lib.hid hown
    have HB := Lib.hid hblk
    by_cases hlt : k < pcN s
    · have p0 : x.w1.cell? ⟨gp, k, none⟩ = some (.string (pc s k)) := by rw [hblk.cell]; exact HCell.out k hlt
      have hsz := HSz.out k hlt
      have hNo := Lib.hid (HNo.out k hlt)
      have hYe := Lib.hid (HYe.out k)
      have HOK : Hid (rOk s k = (decide (2 ≤ (pc s k).size) && (num (tlP (pc s k))).isSome)) := Lib.hid rfl
      have HRC : Hid (rC s k = if (hdP (pc s k)).toList == [45] then ⟨#[]⟩ else hdP (pc s k)) := Lib.hid rfl
      have HRL : Hid (rL s k = (num (tlP (pc s k))).getD 0) := Lib.hid rfl
      have HRow : Hid (rdRow (rC s) (rL s) (k + 1) = rdRow (rC s) (rL s) k ++ [.string (rC s k), .int .i64 (rL s k)]) := Lib.hid rfl
      clear hown hblk HO1 HB0
      generalize pc s k = p at *
      by_cases h0 : p.size = 0
      · have hno := Lib.hid (hNo.out (by rw [HOK.out, decide_eq_false (by omega)]; rfl))
        have he : p.toList.isEmpty = true := by
          rw [ByteArray.toList_eq, List.isEmpty_iff]
          exact List.eq_nil_of_length_eq_zero (by rw [data_len]; exact h0)
        go_wp2
        go_ret2
        exact rd_post_no hno.out rfl x.below
      · have he : p.toList.isEmpty = false := by
          rw [ByteArray.toList_eq]
          cases hl : p.data.toList with
          | nil => exfalso; apply h0; have : p.data.toList.length = p.size := data_len p; rw [hl] at this; simpa using this.symm
          | cons a l => rfl
        have h1p : 1 ≤ p.size := by omega
        have h1i : (1 : Int) ≤ (p.size : Int) := by omega
        by_cases h40 : (k : Int) ≤ 40
        · have HTEx : Pows x.w1 ∧ Errs x.w1 := ⟨HTE.out.1.below x.below, HTE.out.2.below x.below⟩
          have HNum := Lib.hid (readDecimal_c (tlP p) (Nat.le_trans (tl_size p) hsz) x.w1 HTEx.1 HTEx.2)
          have hd40 : decide ((k : Int) ≤ 40) = true := decide_eq_true h40
          have HFew := Lib.hid (fun W => few_c k 40 W (by omega) (by omega))
          rw [hd40] at HFew
          clear HTEx hd40
          cases hnum : num (tlP p) with
          | none =>
            have hno := Lib.hid (hNo.out (by rw [HOK.out, hnum]; simp))
            rw [hnum] at HNum
            clear hnum HRC HRL HRow HOK hNo hYe
            go_wp2_with (first
              | (go_at_call 52; refine (HFew.out _).mono ?_; rintro e _ ⟨rfl, rfl⟩)
              | (go_at_call 53; refine HNum.out.mono ?_; rintro e w3 ⟨rfl, hb3⟩))
            go_ret2
            exact rd_post_no hno.out rfl (held_next x.below hb3)
          | some nn =>
            have hok : Hid (rOk s k = true) := Lib.hid (hYe.out nn hnum)
            have HRL2 : Hid (rL s k = nn) := Lib.hid (by rw [HRL.out, hnum]; rfl)
            have ehd : hdP p = p.extract 0 1 := rfl
            rw [ehd] at HRC
            rw [hnum] at HNum
            clear hnum HRL HOK hNo hYe
            cases hh : ((p.extract 0 1).toList == [45])
            · rw [hh] at HRC
              have HRC2 : Hid (rC s k = p.extract 0 1) := Lib.hid (HRC.out.trans (if_neg (by simp)))
              clear HRC
              go_wp2_with (go_at_call 52; refine (HFew.out _).mono ?_; rintro e _ ⟨rfl, rfl⟩)
              refine HNum.out.mono ?_
              rintro e w3 ⟨rfl, hb3'⟩
              have hb3 := held_next x.below hb3'
              have HO3 := Lib.hid (own_below HO.out hb3')
              have HB3 := Lib.hid (HB.out.below hb3')
              go_wp2_with (at_builtin; refine wpList_append_own _ rfl _ _ 42 rfl w.heap.size 72 ip _ 2 24 Tryd.underlying42 hip hip0 hip1 hip2 rfl (by decide) _ _ _ rfl (HO3.out.alloc _) ⟨w3.heap.size, 0, none⟩ 1 1 [.string (p.extract 0 1), .int .i64 nn] rfl rfl (news2 rfl #[.string (p.extract 0 1), .int .i64 nn] 72) (by simp [Value.oneCell']) (small_row (by omega)) (by omega) (le_alloc hb3.size _) ?_; intro v' w4 hown4 hgrow4 _)
              have HO4 := Lib.hid hown4
              have HG4 := Lib.hid hgrow4
              clear hown4 hgrow4
              go_roundw
              case rel =>
                obtain ⟨g4, c4, rfl⟩ := Go.Joins.ownsRow_form HO4.out (by omega)
                exact ⟨k + 1, ⟨w4, own_next hb3 HO3.out HG4.out⟩, by omega, by omega, by go_num, rfl, ⟨g4, c4, rfl⟩, by rw [HRow.out, HRC2.out, HRL2.out]; exact HO4.out, (HB3.out.below (by repeat (first | exact Below.refl _ _ | refine Below.alloc ?_ (by simp; try omega) _ | refine Below.drew ?_))).grown HG4.out (own_blk_ne2 HO3.out HB3.out (by decide)), Lib.hid (ok_more hall.out hok.out)⟩
              case measure => simp [intOf]; omega
            · rw [hh] at HRC
              have HRC2 : Hid (rC s k = ⟨#[]⟩) := Lib.hid (HRC.out.trans (if_pos rfl))
              clear HRC
              go_wp2_with (go_at_call 52; refine (HFew.out _).mono ?_; rintro e _ ⟨rfl, rfl⟩)
              refine HNum.out.mono ?_
              rintro e w3 ⟨rfl, hb3'⟩
              have hb3 := held_next x.below hb3'
              have HO3 := Lib.hid (own_below HO.out hb3')
              have HB3 := Lib.hid (HB.out.below hb3')
              go_wp2_with (at_builtin; refine wpList_append_own _ rfl _ _ 42 rfl w.heap.size 72 ip _ 2 24 Tryd.underlying42 hip hip0 hip1 hip2 rfl (by decide) _ _ _ rfl (HO3.out.alloc _) ⟨w3.heap.size, 0, none⟩ 1 1 [.string ⟨#[]⟩, .int .i64 nn] rfl rfl (news2 rfl #[.string ⟨#[]⟩, .int .i64 nn] 72) (by simp [Value.oneCell']) (small_row (by omega)) (by omega) (le_alloc hb3.size _) ?_; intro v' w4 hown4 hgrow4 _)
              have HO4 := Lib.hid hown4
              have HG4 := Lib.hid hgrow4
              clear hown4 hgrow4
              go_roundw
              case rel =>
                obtain ⟨g4, c4, rfl⟩ := Go.Joins.ownsRow_form HO4.out (by omega)
                exact ⟨k + 1, ⟨w4, own_next hb3 HO3.out HG4.out⟩, by omega, by omega, by go_num, rfl, ⟨g4, c4, rfl⟩, by rw [HRow.out, HRC2.out, HRL2.out]; exact HO4.out, (HB3.out.below (by repeat (first | exact Below.refl _ _ | refine Below.alloc ?_ (by simp; try omega) _ | refine Below.drew ?_))).grown HG4.out (own_blk_ne2 HO3.out HB3.out (by decide)), Lib.hid (ok_more hall.out hok.out)⟩
              case measure => simp [intOf]; omega
        · have hno := Lib.hid (rd_many (s := s) (by omega))
          have HFew := Lib.hid (fun W => few_c k 40 W (by omega) (by omega))
          rw [decide_eq_false h40] at HFew
          go_wp2_with (go_at_call 52; refine (HFew.out _).mono ?_; rintro e _ ⟨rfl, rfl⟩)
          go_ret2
          exact rd_post_no hno.out rfl x.below
    · have hkn : k = pcN s := by omega
      have hallN : Hid (∀ i, i < pcN s → rOk s i = true) := Lib.hid (fun i hi => hall.out i (by omega))
      have hsy := Lib.hid (rd_yes hallN.out)
      have htx := Lib.hid (rd_text hallN.out)
      have hN1 : pcN s ≤ 1048576 := by omega
      clear hown hblk
      rw [hkn] at HO hlt ⊢
      have HV := Lib.hid (validPhases_c (some ⟨gj, 0, none⟩) (pcN s) cj (rC s) (rL s) x.w1 hN1 (fun i _ => by have := rC_size s i; unfold maxLen; omega) (rd_so HO.out).rec)
      cases hv : okPhs (pcN s) (rC s) (rL s)
      · rw [hv] at HV hsy
        clear hv
        go_wp2_with (go_at_call 45; refine HV.out.mono ?_; rintro e w3 ⟨rfl, hb3⟩)
        go_ret2
        exact rd_post_no hsy.out rfl (held_next x.below hb3)
      · rw [hv] at HV hsy
        have HPT := Lib.hid (fun W hR hW => implPhasesText_c (some ⟨gj, 0, none⟩) (pcN s) cj (rC s) (rL s) W hN1 (fun i _ => by have := rC_size s i; unfold maxLen; omega) hR hW)
        rw [if_pos hv, htx.out] at HPT
        have hss : (s.toList == s.toList) = true := by simp
        clear hv
        go_wp2_with fail
        refine HV.out.mono ?_
        rintro e w3 ⟨rfl, hb3⟩
        have hR3 := (rd_so HO.out).rec.below hb3
        have hT3 := HTE.out.1.below (held_next x.below hb3)
        go_wp2_with (go_at_call 19; refine (HPT.out _ hR3 hT3).mono ?_; rintro e w4 ⟨rfl, hb4⟩)
        go_ret2
        exact rd_post_yes hsy.out rfl (own_below (own_below HO.out hb3) hb4) (held_next x.below (held_next hb3 hb4))
end Go.Proofs.YtimfpnmcdicldaaDoor
