/- Reading phases: the reference's. -/
import Derived.Test.YtimfpnmcdicldaaDoorRdS
import Derived.Test.YtimfpnmcdicldaaDoorNumW
import Derived.Deep.AppendLies
namespace Go.Proofs.YtimfpnmcdicldaaDoor
open Go Go.RowKit Go.Shelf
/-- How many phases are handed out. -/
def rdN (s : ByteArray) : Nat := if rdOk s = true then pcN s else 0
theorem rdN_le (s : ByteArray) : rdN s ≤ 40 := by
  unfold rdN
  split
  · rename_i h
    unfold rdOk okPhs at h
    simp only [Bool.and_eq_true, decide_eq_true_eq] at h
    have := inR_iff.1 h.2.2.1
    omega
  · omega
/-- What ReadPhases answers. -/
def RdPost (s : ByteArray) (w : World) (e : Ending) (w' : World) : Prop :=
  ∃ A c, e = .returned (.tuple #[.slice A (rdN s) c, .bool (rdOk s)]) ∧ SO w' w.heap.size 72 2 (.slice A (rdN s) c) (rdN s) (vPhase (rC s) (rL s)) ∧ Below w.heap.size w w'
theorem rd_post_no {s : ByteArray} {w w' : World} {e : Ending} (h : rdOk s = false) (he : e = .returned (.tuple #[.slice none 0 0, .bool false])) (hb : Below w.heap.size w w') : RdPost s w e w' := by
  have h0 : rdN s = 0 := if_neg (by rw [h]; simp)
  unfold RdPost
  rw [h0, h]
  exact ⟨none, 0, he, SO.nil, hb⟩
theorem rd_post_yes {s : ByteArray} {w w' : World} {e : Ending} {v : Value} (h : rdOk s = true) (he : e = .returned (.tuple #[v, .bool true])) (ho : w'.ownsRow w.heap.size 72 2 v (pcN s) (rdRow (rC s) (rL s) (pcN s))) (hb : Below w.heap.size w w') : RdPost s w e w' := by
  have h0 : rdN s = pcN s := if_pos h
  unfold RdPost
  rw [h0, h]
  have hs := rd_so ho
  obtain ⟨A, c, rfl⟩ := hs.form
  exact ⟨A, c, he, hs, hb⟩
theorem pc_size {s : ByteArray} {i : Nat} (h : i < pcN s) : (pc s i).size ≤ s.size := by
  unfold pc
  rw [List.getD_eq_getElem?_getD, List.getElem?_eq_getElem h]
  exact pieces_le (List.getElem_mem h)
theorem tl_size (p : ByteArray) : (tlP p).size ≤ p.size := by
  unfold tlP
  rw [ByteArray.size_extract]
  omega
theorem own_lower2 {w : World} {base base' size n : Nat} {e : TypeId} {v : Value} {xs : List Value} (h : w.ownsRow base' e size v n xs) (hb : base ≤ base') : w.ownsRow base e size v n xs := by
  refine ⟨h.1, ?_⟩
  rcases h.2 with h0 | ⟨g', cap', cur, e1, e2, e3⟩
  · exact .inl h0
  · exact .inr ⟨g', cap', cur, e1, Nat.le_trans hb e2, e3⟩
theorem news2 {W : World} {k : Nat} (hk : W.heap.size = k) (cs : Array Value) (T : TypeId) : ∀ (j : Nat) u, cs.toList[j]? = some u → (W.alloc (.cells cs T)).cell? ((⟨k, 0, none⟩ : Addr).add j) = some u := by
  subst hk
  exact World.news_of_block (t := T) (fr := (0, 0)) (heap_alloc_new W _)
set_option maxRecDepth 100000 in
set_option maxHeartbeats 8000000 in
theorem specRead_c (s : ByteArray) (hs : s.size ≤ 1048576) (w : World) :
    Calls Tryd.prog 21 #[.string s] w (RdPost s w) := by
  obtain ⟨ip, hip, hip0, hip1, hip2⟩ := info_parts infoPhase
  have HSp := Lib.hid (l01Split_c 44 s hs w)
  have hpl : (pieces 44 s).length = pcN s := rfl
  have HCell : Hid (∀ k, k < pcN s → (strs (pieces 44 s))[k]? = some (.string (pc s k))) := Lib.hid (fun k hk => by
    unfold strs pc
    rw [List.getElem?_map, List.getD_eq_getElem?_getD, List.getElem?_eq_getElem (show k < (pieces 44 s).length from hk)]
    rfl)
  rw [hpl] at HSp
  generalize strs (pieces 44 s) = PS at *
  have HNo := Lib.hid (fun k (hk : k < pcN s) (h : rOk s k = false) => rd_no hk h)
  have HCo := Lib.hid (fun k (hk : k < pcN s) h2 hh hc => rd_color (s := s) (k := k) hk h2 hh hc)
  have HSz := Lib.hid (fun k (hk : k < pcN s) => (show (pc s k).size ≤ 1048576 from Nat.le_trans (pc_size hk) hs))
  go_enter Tryd.func21, Tryd.ntmps21
  go_wp2_with fail
  refine HSp.out.mono ?_
  rintro e w1 ⟨v, rfl, hown, hb1⟩
  by_cases hn1 : 1 ≤ pcN s
  · obtain ⟨gp, cp, rfl⟩ := Go.Joins.ownsRow_form hown hn1
    by_cases h40 : 40 < pcN s
    · have hno := Lib.hid (rd_many h40)
      have h40i : (40 : Int) < (pcN s : Int) := by omega
      clear hown
      go_wp2
      go_ret2
      exact rd_post_no hno.out rfl hb1
    · have h40i : ¬ (40 : Int) < (pcN s : Int) := by omega
      have HPC : Hid (∀ k, k < pcN s → ∀ y : Aft w1, y.w1.cell? ⟨gp, k, none⟩ = some (.string (pc s k))) := Lib.hid (fun k hk y => by
        have h0 : w1.cell? ⟨gp, k, none⟩ = some (.string (pc s k)) := (hown.cellAt k (by omega)).trans (HCell.out k hk)
        exact y.cell (cell_lt h0) h0)
      have hown0 : (w1.alloc (.cells #[] 72)).ownsRow w1.heap.size 72 2 (.slice (some ⟨w1.heap.size, 0, none⟩) 0 0) 0 [] := by
        have h := World.ownsRow_lit (base := w1.heap.size) (e := 72) (size := 2) w1 #[] 0 (Nat.le_refl _) (by unfold maxLen; omega) rfl
        exact h
      clear hown HCell
      go_wp2
      go_loopw [5, 6] (fun v i wr => ∃ (k : Nat) (x : Aft w1), k ≤ pcN s ∧ i = .int .i64 k ∧ wr = x.w1 ∧ wr.ownsRow w1.heap.size 72 2 v k (rdRow (rC s) (rL s) k) ∧ Hid (∀ j, j < k → rOk s j = true)) (fun _ i _ => pcN s - (intOf i).toNat)
      case atStart => exact ⟨0, ⟨_, (Below.refl _ _).alloc (Nat.le_refl _) _⟩, by omega, rfl, rfl, hown0, Lib.hid (fun j hj => by omega)⟩
      case round =>
        obtain ⟨k, x, hk, rfl, rfl, hown, hall⟩ := hrel
        have HO := Lib.hid hown
        clear hown hown0
        by_cases hlt : k < pcN s
        · have p0 := HPC.out k hlt x
          have hsz := HSz.out k hlt
          have hNo := Lib.hid (HNo.out k hlt)
          have hCo := Lib.hid (HCo.out k hlt)
          have HOK : Hid (rOk s k = (decide (2 ≤ (pc s k).size) && (num (tlP (pc s k))).isSome)) := Lib.hid rfl
          have HRC : Hid (rC s k = if (hdP (pc s k)).toList == [45] then ⟨#[]⟩ else hdP (pc s k)) := Lib.hid rfl
          have HRL : Hid (rL s k = (num (tlP (pc s k))).getD 0) := Lib.hid rfl
          have HRow : Hid (rdRow (rC s) (rL s) (k + 1) = rdRow (rC s) (rL s) k ++ [.string (rC s k), .int .i64 (rL s k)]) := Lib.hid rfl
          generalize pc s k = p at *
          by_cases h2 : p.size < 2
          · have hno := Lib.hid (hNo.out (by rw [HOK.out, decide_eq_false (by omega)]; rfl))
            have h2i : (p.size : Int) < 2 := by omega
            go_wp2
            go_ret2
            exact rd_post_no hno.out rfl (held_next hb1 x.below)
          · have h2i : ¬ (p.size : Int) < 2 := by omega
            have h1p : 1 ≤ p.size := by omega
            have h1i : (1 : Int) ≤ (p.size : Int) := by omega
            have HNum := Lib.hid (fun W => l01Number_c (tlP p) (Nat.le_trans (tl_size p) hsz) W)
            have ehd : hdP p = p.extract 0 1 := rfl
            rw [ehd] at HRC hCo
            cases hh : ((p.extract 0 1).toList == [45])
            · cases hcv : isC (p.extract 0 1)
              · have hno := Lib.hid (hCo.out (by omega) hh hcv)
                have HV := Lib.hid (fun W => l05Color_c (p.extract 0 1) _ hcv W)
                clear hcv HRC HRL HRow HOK hCo hNo
                go_wp2_with (first
                  | (go_at_call 49; refine (HNum.out _).mono ?_; rintro e _ ⟨rfl, rfl⟩)
                  | (go_at_call 50; refine (HV.out _).mono ?_; rintro e _ ⟨rfl, rfl⟩))
                go_ret2
                exact rd_post_no hno.out rfl (held_next hb1 (held_next x.below (by repeat (first | exact Below.refl _ _ | refine Below.alloc ?_ (by simp; try omega) _ | refine Below.drew ?_))))
              · have HV := Lib.hid (fun W => l05Color_c (p.extract 0 1) _ hcv W)
                rw [hh] at HRC
                have HRC2 : Hid (rC s k = p.extract 0 1) := Lib.hid (HRC.out.trans (if_neg (by simp)))
                clear hcv HRC hCo
                cases hnum : num (tlP p) with
                | none =>
                  have hno := Lib.hid (hNo.out (by rw [HOK.out, hnum]; simp))
                  rw [hnum] at HNum
                  clear hnum HRC2 HRL HRow HOK hNo
                  go_wp2_with (first
                    | (go_at_call 49; refine (HNum.out _).mono ?_; rintro e _ ⟨rfl, rfl⟩)
                    | (go_at_call 50; refine (HV.out _).mono ?_; rintro e _ ⟨rfl, rfl⟩))
                  go_ret2
                  exact rd_post_no hno.out rfl (held_next hb1 (held_next x.below (by repeat (first | exact Below.refl _ _ | refine Below.alloc ?_ (by simp; try omega) _ | refine Below.drew ?_))))
                | some nn =>
                  have hok : Hid (rOk s k = true) := Lib.hid (by rw [HOK.out, hnum, decide_eq_true (by omega)]; rfl)
                  have HRL2 : Hid (rL s k = nn) := Lib.hid (by rw [HRL.out, hnum]; rfl)
                  rw [hnum] at HNum
                  clear hnum HRL HOK hNo
                  go_wp2_with (first
                    | (go_at_call 49; refine (HNum.out _).mono ?_; rintro e _ ⟨rfl, rfl⟩)
                    | (go_at_call 50; refine (HV.out _).mono ?_; rintro e _ ⟨rfl, rfl⟩)
                    | (at_builtin; refine wpList_append_own _ rfl _ _ 42 rfl w1.heap.size 72 ip _ 2 24 Tryd.underlying42 hip hip0 hip1 hip2 rfl (by decide) _ _ _ rfl (own_below HO.out (by repeat (first | exact Below.refl _ _ | refine Below.setCell ?_ (by simp; try omega) _ | refine Below.alloc ?_ (by simp; try omega) _))) ⟨x.w1.heap.size + 1, 0, none⟩ 1 1 [.string (p.extract 0 1), .int .i64 nn] rfl rfl (news2 (by simp) #[.string (p.extract 0 1), .int .i64 nn] 72) (by simp [Value.oneCell']) (small_row (by omega)) (by omega) (by have := x.below.size; simp; omega) ?_; intro v' w4 hown4 hgrow4 _))
                  have HO4 := Lib.hid hown4
                  have HG4 := Lib.hid hgrow4
                  clear hown4 hgrow4
                  go_roundw
                  case rel => exact ⟨k + 1, ⟨w4, own_next0 (held_next x.below (by repeat (first | exact Below.refl _ _ | refine Below.setCell ?_ (by simp; try omega) _ | refine Below.alloc ?_ (by simp; try omega) _))) (own_below HO.out (by repeat (first | exact Below.refl _ _ | refine Below.setCell ?_ (by simp; try omega) _ | refine Below.alloc ?_ (by simp; try omega) _))) HG4.out⟩, by omega, by go_num, rfl, by rw [HRow.out, HRC2.out, HRL2.out]; exact HO4.out, Lib.hid (ok_more hall.out hok.out)⟩
                  case measure => simp [intOf]; omega
            · rw [hh] at HRC
              have HRC2 : Hid (rC s k = ⟨#[]⟩) := Lib.hid (HRC.out.trans (if_pos rfl))
              clear HRC hCo
              cases hnum : num (tlP p) with
              | none =>
                have hno := Lib.hid (hNo.out (by rw [HOK.out, hnum]; simp))
                rw [hnum] at HNum
                clear hnum HRC2 HRL HRow HOK hNo
                go_wp2_with (go_at_call 49; refine (HNum.out _).mono ?_; rintro e _ ⟨rfl, rfl⟩)
                go_ret2
                exact rd_post_no hno.out rfl (held_next hb1 (held_next x.below (by repeat (first | exact Below.refl _ _ | refine Below.setCell ?_ (by simp; try omega) _ | refine Below.alloc ?_ (by simp; try omega) _))))
              | some nn =>
                have hok : Hid (rOk s k = true) := Lib.hid (by rw [HOK.out, hnum, decide_eq_true (by omega)]; rfl)
                have HRL2 : Hid (rL s k = nn) := Lib.hid (by rw [HRL.out, hnum]; rfl)
                rw [hnum] at HNum
                clear hnum HRL HOK hNo
                go_wp2_with (first
                  | (go_at_call 49; refine (HNum.out _).mono ?_; rintro e _ ⟨rfl, rfl⟩)
                  | (at_builtin; refine wpList_append_own _ rfl _ _ 42 rfl w1.heap.size 72 ip _ 2 24 Tryd.underlying42 hip hip0 hip1 hip2 rfl (by decide) _ _ _ rfl (own_below HO.out (by repeat (first | exact Below.refl _ _ | refine Below.setCell ?_ (by simp; try omega) _ | refine Below.alloc ?_ (by simp; try omega) _))) ⟨x.w1.heap.size + 1, 0, none⟩ 1 1 [.string ⟨#[]⟩, .int .i64 nn] rfl rfl (news2 (by simp) #[.string ⟨#[]⟩, .int .i64 nn] 72) (by simp [Value.oneCell']) (small_row (by omega)) (by omega) (by have := x.below.size; simp; omega) ?_; intro v' w4 hown4 hgrow4 _))
                have HO4 := Lib.hid hown4
                have HG4 := Lib.hid hgrow4
                clear hown4 hgrow4
                go_roundw
                case rel => exact ⟨k + 1, ⟨w4, own_next0 (held_next x.below (by repeat (first | exact Below.refl _ _ | refine Below.setCell ?_ (by simp; try omega) _ | refine Below.alloc ?_ (by simp; try omega) _))) (own_below HO.out (by repeat (first | exact Below.refl _ _ | refine Below.setCell ?_ (by simp; try omega) _ | refine Below.alloc ?_ (by simp; try omega) _))) HG4.out⟩, by omega, by go_num, rfl, by rw [HRow.out, HRC2.out, HRL2.out]; exact HO4.out, Lib.hid (ok_more hall.out hok.out)⟩
                case measure => simp [intOf]; omega
        · have hkn : k = pcN s := by omega
          have hsy := Lib.hid (rd_yes (fun i hi => hall.out i (by omega)))
          rw [hkn] at HO hlt ⊢
          obtain ⟨go, co, rfl⟩ := Go.Joins.ownsRow_form HO.out (by omega)
          have HOk := Lib.hid (l06Ok_c (some ⟨go, 0, none⟩) (pcN s) co (rC s) (rL s) x.w1 (by omega) (rd_so HO.out).rec)
          cases hv : okPhs (pcN s) (rC s) (rL s)
          · rw [hv] at HOk hsy
            clear hv
            go_wp2_with (go_at_call 42; refine HOk.out.mono ?_; rintro e _ ⟨rfl, rfl⟩)
            go_ret2
            exact rd_post_no hsy.out rfl (held_next hb1 x.below)
          · rw [hv] at HOk hsy
            clear hv
            go_wp2_with (go_at_call 42; refine HOk.out.mono ?_; rintro e _ ⟨rfl, rfl⟩)
            go_ret2
            exact rd_post_yes hsy.out rfl (own_lower2 HO.out hb1.size) (held_next hb1 x.below)
  · exfalso
    apply hn1
    have : spl 44 s.data.toList ≠ [] := spl_ne 44 _
    have h2 : pcN s = (spl 44 s.data.toList).length := by unfold pcN pieces; simp
    have h3 : 0 < (spl 44 s.data.toList).length := List.length_pos_iff.2 this
    omega
end Go.Proofs.YtimfpnmcdicldaaDoor
