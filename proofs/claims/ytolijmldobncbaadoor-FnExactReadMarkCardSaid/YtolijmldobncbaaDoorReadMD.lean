/- ReadMark: the program's side. -/
import Derived.Test.YtolijmldobncbaaDoorReadMB
import Derived.Test.YtolijmldobncbaaDoorBlk
namespace Go.Proofs.YtolijmldobncbaaDoor
open Go Go.RowKit Go.Shelf
theorem implNamed_c (a : ByteArray) (w : World) : Calls Tryd.prog 76 #[.string a] w fun e w' => e = .returned (.tuple #[.int .i64 ((kindOf a).getD 0 : Nat), .bool (kindOf a).isSome]) ∧ Below w.heap.size w w' := by
  rcases first_or (s := a) 10 (Nat.le_refl _) with h | ⟨k, h⟩
  · rw [kindOf_none h]; exact implNamed_no a h w
  · rw [kindOf_some h]; exact implNamed_yes a k h w
theorem okM_blank {b c t : ByteArray} (h : b.toList.isEmpty = false) : okM 0 b c t = false := by
  unfold okM
  rw [if_neg (by omega)]
  unfold dMark
  have e : (⟨#[]⟩ : ByteArray).toList = [] := by rw [ByteArray.toList_eq]
  cases hb : b.toList with
  | nil => rw [hb] at h; cases h
  | cons x r => simp [e]
set_option maxRecDepth 100000 in
set_option maxHeartbeats 8000000 in
theorem implRead_four (s a b c d : ByteArray) (hs : s.size ≤ 1048576) (hno : (s.toList == [110, 111, 110, 101]) = false) (hp : nonB (pieces 32 s) = [a, b, c, d]) (w : World) (hM : MaxL w) (hT : Spaces w) :
    Calls Tryd.prog 40 #[.string s] w fun e w' => e = .returned (ansM (markOf s a b c d)) ∧ Below w.heap.size w w' := by
  have HS := Lib.hid (fun W hW => splitWords_c s hs W hW)
  have hle : ∀ p ∈ nonB (pieces 32 s), p.size ≤ s.size ∧ p.toList.isEmpty = false := fun p hp => ⟨pieces_le (nonB_mem hp).1, (nonB_mem hp).2⟩
  rw [hp] at hle HS
  have za := (hle a (by simp)).1
  have zb := (hle b (by simp)).1
  have hbe := (hle b (by simp)).2
  have zc := (hle c (by simp)).1
  have zd := (hle d (by simp)).1
  clear hle hp
  rw [ansM_K]
  have hn0 : pickS markNames 0 = (⟨#[110, 111, 110, 101]⟩ : ByteArray) := by decide +kernel
  have HNm := Lib.hid (fun W => implNamed_c a W)
  go_enter Tryd.func40, Tryd.ntmps40
  go_wp2_with fail
  refine (markName_c 0 _).mono ?_
  rintro e w1 ⟨rfl, hb1⟩
  rw [hn0]
  have hbw : Below w.heap.size w w1 := held_next (Below.alloc (Below.refl _ _) (Nat.le_refl _) _) hb1
  have hZ : Blk w1 w.heap.size 23 #[.int .i64 0, .string ⟨#[]⟩, .string ⟨#[]⟩, .string ⟨#[]⟩] := (Blk.new _ _ _).below hb1
  clear hb1 hn0
  go_wp2_with fail
  refine (HS.out _ (hM.below hbw)).mono ?_
  rintro e w2 ⟨v, rfl, hown, hb2⟩
  obtain ⟨g, cp, rfl⟩ := Go.Joins.ownsRow_form hown (by simp)
  have m0 : w2.cell? ⟨g, 0, none⟩ = some (.string a) := (hown.cellAt 0 (by simp)).trans rfl
  have m1 : w2.cell? ⟨g, 1, none⟩ = some (.string b) := (hown.cellAt 1 (by simp)).trans rfl
  have m2 : w2.cell? ⟨g, 2, none⟩ = some (.string c) := (hown.cellAt 2 (by simp)).trans rfl
  have m3 : w2.cell? ⟨g, 3, none⟩ = some (.string d) := (hown.cellAt 3 (by simp)).trans rfl
  replace hZ := hZ.below hb2
  replace hbw := held_next hbw hb2
  clear hown hb2 HS
  simp only [List.length_cons, List.length_nil]
  go_wp2_with fail
  refine (HNm.out _).mono ?_
  rintro e w3 ⟨rfl, hb3⟩
  have n0 := keepB hb3 m0
  have n1 := keepB hb3 m1
  have n2 := keepB hb3 m2
  have n3 := keepB hb3 m3
  replace hZ := hZ.below hb3
  replace hbw := held_next hbw hb3
  clear m0 m1 m2 m3 HNm hb3
  generalize hkk : (kindOf a).getD 0 = kk at *
  cases hd : (d.toList == [45])
  · skip
    have ht : topB d = d := by unfold topB; rw [if_neg (by simpa using hd)]
    have htz : (d : ByteArray).size ≤ 1048576 := by omega
    have HV := Lib.hid (fun W hW => validMark_c (kk : Int) b c d W hW)
    have HTx := Lib.hid (fun W hW => implMarkText_c (kk : Int) b c d (by omega) (by omega) htz W hW)
    go_wp2_with fail
    go_region_held3 (fun w' => w'.cell? ⟨g, 1, none⟩ = some (.string b) ∧ w'.cell? ⟨g, 2, none⟩ = some (.string c))
      (first | go_keep | with_reducible exact ⟨n1, n2⟩)
      (first | fail)
    have B2 : Blk (w3.alloc (.cells #[.int .i64 (kk : Int), .string b, .string c, .string d] 23)).drew w3.heap.size 23 #[.int .i64 (kk : Int), .string b, .string c, .string d] := Blk.new _ _ _
    have Z2 : Blk (w3.alloc (.cells #[.int .i64 (kk : Int), .string b, .string c, .string d] 23)).drew w.heap.size 23 #[.int .i64 0, .string ⟨#[]⟩, .string ⟨#[]⟩, .string ⟨#[]⟩] := hZ.below (by repeat (first | exact Below.refl _ _ | refine Below.alloc ?_ (by simp; try omega) _ | refine Below.drew ?_))
    have hb2 : Below w.heap.size w (w3.alloc (.cells #[.int .i64 (kk : Int), .string b, .string c, .string d] 23)).drew := (hbw.alloc hbw.size _).drew
    generalize (w3.alloc (.cells #[.int .i64 (kk : Int), .string b, .string c, .string d] 23)).drew = W3 at *
    generalize w3.heap.size = G at *
    have hT3 := hT.below hb2
    have cZ : ∀ (y : Aft W3) j, y.w1.cell? ⟨w.heap.size, j, none⟩ = (#[.int .i64 0, .string ⟨#[]⟩, .string ⟨#[]⟩, .string ⟨#[]⟩] : Array Value)[j]? := fun y => (Z2.below y.below).cell
    have fZ : ∀ (y : Aft W3) j, y.w1.frozen? ⟨w.heap.size, j, none⟩ = false := fun y => (Z2.below y.below).frozen
    have cM : ∀ (y : Aft W3) j, y.w1.cell? ⟨G, j, none⟩ = (#[.int .i64 (kk : Int), .string b, .string c, .string d] : Array Value)[j]? := fun y => (B2.below y.below).cell
    have cZ0 := Z2.cell
    have fZ0 := Z2.frozen
    have cM0 := B2.cell
    clear B2 Z2 hZ hbw n0 n1 n2 n3 htz
    cases hko : kindOf a with
    | none =>
      rw [hko] at hkk
      simp only [Option.isSome_none]
      have HA := Lib.hid (show ansK s b c (topB d) (kindI a) = Value.tuple #[.agg #[.int .i64 0, .string ⟨#[]⟩, .string ⟨#[]⟩, .string ⟨#[]⟩], .bool false] from by unfold ansK kindI; rw [hko]; rfl)
      clear ht
      go_wp2_with (first
        | fail)
      rw [HA.out]
      refine bodyPost_ret (v := Value.tuple #[.agg #[.int .i64 0, .string ⟨#[]⟩, .string ⟨#[]⟩, .string ⟨#[]⟩], .bool false]) (by simp [results, Tryd.results40, go_sem, cZ0]) rfl ⟨rfl, ?_⟩
      have hb5 := held_next hb2 (Aft.below (w := W3) ⟨W3, Below.refl _ _⟩)
      first
        | with_reducible exact hb5
        | with_reducible exact hb2
        | exact (((hb5.setCell (by simp) _).setCell (by simp) _).setCell (by simp) _).setCell (by simp) _
        | exact (((hb2.setCell (by simp) _).setCell (by simp) _).setCell (by simp) _).setCell (by simp) _
    | some k =>
      rw [hko] at hkk
      simp only [Option.getD_some] at hkk
      subst hkk
      simp only [Option.isSome_some]
      have hkI : kindI a = (k : Int) := by unfold kindI; rw [hko]
      have hk10 := (kindOf_name hko).1
      have hnz : okM (k : Int) b c d = true → inR (k : Int) 1 9 = true := fun h => by
        rcases Nat.eq_zero_or_pos k with rfl | h0
        · exact absurd h (by rw [show ((0 : Nat) : Int) = 0 from rfl, okM_blank hbe]; simp)
        · exact inR_yes (by omega)
      cases v2 : okM (k : Int) b c d
      · rw [v2] at HV
        have HA := Lib.hid (show ansK s b c (topB d) (kindI a) = Value.tuple #[.agg #[.int .i64 0, .string ⟨#[]⟩, .string ⟨#[]⟩, .string ⟨#[]⟩], .bool false] from by rw [ht, hkI]; unfold ansK; rw [v2]; simp)
        clear ht
        go_wp2_with (first
          | (go_at_call 18; refine (Aft.first (w := W3) (HV.out _ hT3)).mono ?_; rintro e _ ⟨rfl, y, rfl⟩))
        rw [HA.out]
        refine bodyPost_ret (v := Value.tuple #[.agg #[.int .i64 0, .string ⟨#[]⟩, .string ⟨#[]⟩, .string ⟨#[]⟩], .bool false]) (by simp [results, Tryd.results40, go_sem, cZ]) rfl ⟨rfl, ?_⟩
        have hb5 := held_next hb2 (Aft.below (w := W3) y)
        first
          | with_reducible exact hb5
          | with_reducible exact hb2
          | exact (((hb5.setCell (by simp) _).setCell (by simp) _).setCell (by simp) _).setCell (by simp) _
          | exact (((hb2.setCell (by simp) _).setCell (by simp) _).setCell (by simp) _).setCell (by simp) _
      · rw [v2] at HV
        have hr := hnz v2
        have hS : markTextS (k : Int) b c d = markTxt (pickS markNames (k : Int)) b c d := by unfold markTextS; rw [if_pos v2, if_pos (inR_iff.1 hr)]
        rw [hS] at HTx
        have HR := Lib.hid (show ansK s b c (topB d) (kindI a) = if ((markTxt (pickS markNames (k : Int)) b c d).toList == s.toList) = true then Value.tuple #[.agg #[.int .i64 (k : Int), .string b, .string c, .string d], .bool true] else Value.tuple #[.agg #[.int .i64 0, .string ⟨#[]⟩, .string ⟨#[]⟩, .string ⟨#[]⟩], .bool false] from by rw [ht, hkI]; unfold ansK; rw [v2, hr]; simp only [Bool.true_and])
        generalize hX : markTxt (pickS markNames (k : Int)) b c d = X at *
        clear hX hnz hS
        cases v3 : (X.toList == s.toList)
        · skip
          have HA := Lib.hid (show ansK s b c (topB d) (kindI a) = Value.tuple #[.agg #[.int .i64 0, .string ⟨#[]⟩, .string ⟨#[]⟩, .string ⟨#[]⟩], .bool false] from by rw [HR.out, v3]; rfl)
          clear ht
          go_wp2_with (first
            | (go_at_call 18; refine (Aft.first (w := W3) (HV.out _ hT3)).mono ?_; rintro e _ ⟨rfl, y, rfl⟩)
            | (go_at_call 27; refine (Aft.call (HTx.out _ (hT3.below y.below))).mono ?_; rintro e _ ⟨rfl, y, rfl⟩))
          rw [HA.out]
          refine bodyPost_ret (v := Value.tuple #[.agg #[.int .i64 0, .string ⟨#[]⟩, .string ⟨#[]⟩, .string ⟨#[]⟩], .bool false]) (by simp [results, Tryd.results40, go_sem, cZ]) rfl ⟨rfl, ?_⟩
          have hb5 := held_next hb2 (Aft.below (w := W3) y)
          first
            | with_reducible exact hb5
            | with_reducible exact hb2
            | exact (((hb5.setCell (by simp) _).setCell (by simp) _).setCell (by simp) _).setCell (by simp) _
            | exact (((hb2.setCell (by simp) _).setCell (by simp) _).setCell (by simp) _).setCell (by simp) _
        · skip
          have HA := Lib.hid (show ansK s b c (topB d) (kindI a) = Value.tuple #[.agg #[.int .i64 (k : Int), .string b, .string c, .string d], .bool true] from by rw [HR.out, v3]; rfl)
          clear ht
          go_wp2_with (first
            | (go_at_call 18; refine (Aft.first (w := W3) (HV.out _ hT3)).mono ?_; rintro e _ ⟨rfl, y, rfl⟩)
            | (go_at_call 27; refine (Aft.call (HTx.out _ (hT3.below y.below))).mono ?_; rintro e _ ⟨rfl, y, rfl⟩))
          rw [HA.out]
          refine bodyPost_ret (v := Value.tuple #[.agg #[.int .i64 (k : Int), .string b, .string c, .string d], .bool true]) (by simp [results, Tryd.results40, go_sem, cZ]) rfl ⟨rfl, ?_⟩
          have hb5 := held_next hb2 (Aft.below (w := W3) y)
          first
            | with_reducible exact hb5
            | with_reducible exact hb2
            | exact (((hb5.setCell (by simp) _).setCell (by simp) _).setCell (by simp) _).setCell (by simp) _
            | exact (((hb2.setCell (by simp) _).setCell (by simp) _).setCell (by simp) _).setCell (by simp) _
  · skip
    have ht : topB d = ⟨#[]⟩ := by unfold topB; rw [if_pos (by simpa using hd)]
    have htz : (⟨#[]⟩ : ByteArray).size ≤ 1048576 := by decide
    have HV := Lib.hid (fun W hW => validMark_c (kk : Int) b c ⟨#[]⟩ W hW)
    have HTx := Lib.hid (fun W hW => implMarkText_c (kk : Int) b c ⟨#[]⟩ (by omega) (by omega) htz W hW)
    go_wp2_with fail
    go_region_held3 (fun w' => w'.cell? ⟨g, 1, none⟩ = some (.string b) ∧ w'.cell? ⟨g, 2, none⟩ = some (.string c))
      (first | go_keep | with_reducible exact ⟨n1, n2⟩)
      (first | fail)
    have B2 : Blk (w3.alloc (.cells #[.int .i64 (kk : Int), .string b, .string c, .string ⟨#[]⟩] 23)).drew w3.heap.size 23 #[.int .i64 (kk : Int), .string b, .string c, .string ⟨#[]⟩] := Blk.new _ _ _
    have Z2 : Blk (w3.alloc (.cells #[.int .i64 (kk : Int), .string b, .string c, .string ⟨#[]⟩] 23)).drew w.heap.size 23 #[.int .i64 0, .string ⟨#[]⟩, .string ⟨#[]⟩, .string ⟨#[]⟩] := hZ.below (by repeat (first | exact Below.refl _ _ | refine Below.alloc ?_ (by simp; try omega) _ | refine Below.drew ?_))
    have hb2 : Below w.heap.size w (w3.alloc (.cells #[.int .i64 (kk : Int), .string b, .string c, .string ⟨#[]⟩] 23)).drew := (hbw.alloc hbw.size _).drew
    generalize (w3.alloc (.cells #[.int .i64 (kk : Int), .string b, .string c, .string ⟨#[]⟩] 23)).drew = W3 at *
    generalize w3.heap.size = G at *
    have hT3 := hT.below hb2
    have cZ : ∀ (y : Aft W3) j, y.w1.cell? ⟨w.heap.size, j, none⟩ = (#[.int .i64 0, .string ⟨#[]⟩, .string ⟨#[]⟩, .string ⟨#[]⟩] : Array Value)[j]? := fun y => (Z2.below y.below).cell
    have fZ : ∀ (y : Aft W3) j, y.w1.frozen? ⟨w.heap.size, j, none⟩ = false := fun y => (Z2.below y.below).frozen
    have cM : ∀ (y : Aft W3) j, y.w1.cell? ⟨G, j, none⟩ = (#[.int .i64 (kk : Int), .string b, .string c, .string ⟨#[]⟩] : Array Value)[j]? := fun y => (B2.below y.below).cell
    have cZ0 := Z2.cell
    have fZ0 := Z2.frozen
    have cM0 := B2.cell
    clear B2 Z2 hZ hbw n0 n1 n2 n3 htz
    cases hko : kindOf a with
    | none =>
      rw [hko] at hkk
      simp only [Option.isSome_none]
      have HA := Lib.hid (show ansK s b c (topB d) (kindI a) = Value.tuple #[.agg #[.int .i64 0, .string ⟨#[]⟩, .string ⟨#[]⟩, .string ⟨#[]⟩], .bool false] from by unfold ansK kindI; rw [hko]; rfl)
      clear ht
      go_wp2_with (first
        | fail)
      rw [HA.out]
      refine bodyPost_ret (v := Value.tuple #[.agg #[.int .i64 0, .string ⟨#[]⟩, .string ⟨#[]⟩, .string ⟨#[]⟩], .bool false]) (by simp [results, Tryd.results40, go_sem, cZ0]) rfl ⟨rfl, ?_⟩
      have hb5 := held_next hb2 (Aft.below (w := W3) ⟨W3, Below.refl _ _⟩)
      first
        | with_reducible exact hb5
        | with_reducible exact hb2
        | exact (((hb5.setCell (by simp) _).setCell (by simp) _).setCell (by simp) _).setCell (by simp) _
        | exact (((hb2.setCell (by simp) _).setCell (by simp) _).setCell (by simp) _).setCell (by simp) _
    | some k =>
      rw [hko] at hkk
      simp only [Option.getD_some] at hkk
      subst hkk
      simp only [Option.isSome_some]
      have hkI : kindI a = (k : Int) := by unfold kindI; rw [hko]
      have hk10 := (kindOf_name hko).1
      have hnz : okM (k : Int) b c ⟨#[]⟩ = true → inR (k : Int) 1 9 = true := fun h => by
        rcases Nat.eq_zero_or_pos k with rfl | h0
        · exact absurd h (by rw [show ((0 : Nat) : Int) = 0 from rfl, okM_blank hbe]; simp)
        · exact inR_yes (by omega)
      cases v2 : okM (k : Int) b c ⟨#[]⟩
      · rw [v2] at HV
        have HA := Lib.hid (show ansK s b c (topB d) (kindI a) = Value.tuple #[.agg #[.int .i64 0, .string ⟨#[]⟩, .string ⟨#[]⟩, .string ⟨#[]⟩], .bool false] from by rw [ht, hkI]; unfold ansK; rw [v2]; simp)
        clear ht
        go_wp2_with (first
          | (go_at_call 18; refine (Aft.first (w := W3) (HV.out _ hT3)).mono ?_; rintro e _ ⟨rfl, y, rfl⟩))
        rw [HA.out]
        refine bodyPost_ret (v := Value.tuple #[.agg #[.int .i64 0, .string ⟨#[]⟩, .string ⟨#[]⟩, .string ⟨#[]⟩], .bool false]) (by simp [results, Tryd.results40, go_sem, cZ]) rfl ⟨rfl, ?_⟩
        have hb5 := held_next hb2 (Aft.below (w := W3) y)
        first
          | with_reducible exact hb5
          | with_reducible exact hb2
          | exact (((hb5.setCell (by simp) _).setCell (by simp) _).setCell (by simp) _).setCell (by simp) _
          | exact (((hb2.setCell (by simp) _).setCell (by simp) _).setCell (by simp) _).setCell (by simp) _
      · rw [v2] at HV
        have hr := hnz v2
        have hS : markTextS (k : Int) b c ⟨#[]⟩ = markTxt (pickS markNames (k : Int)) b c ⟨#[]⟩ := by unfold markTextS; rw [if_pos v2, if_pos (inR_iff.1 hr)]
        rw [hS] at HTx
        have HR := Lib.hid (show ansK s b c (topB d) (kindI a) = if ((markTxt (pickS markNames (k : Int)) b c ⟨#[]⟩).toList == s.toList) = true then Value.tuple #[.agg #[.int .i64 (k : Int), .string b, .string c, .string ⟨#[]⟩], .bool true] else Value.tuple #[.agg #[.int .i64 0, .string ⟨#[]⟩, .string ⟨#[]⟩, .string ⟨#[]⟩], .bool false] from by rw [ht, hkI]; unfold ansK; rw [v2, hr]; simp only [Bool.true_and])
        generalize hX : markTxt (pickS markNames (k : Int)) b c ⟨#[]⟩ = X at *
        clear hX hnz hS
        cases v3 : (X.toList == s.toList)
        · skip
          have HA := Lib.hid (show ansK s b c (topB d) (kindI a) = Value.tuple #[.agg #[.int .i64 0, .string ⟨#[]⟩, .string ⟨#[]⟩, .string ⟨#[]⟩], .bool false] from by rw [HR.out, v3]; rfl)
          clear ht
          go_wp2_with (first
            | (go_at_call 18; refine (Aft.first (w := W3) (HV.out _ hT3)).mono ?_; rintro e _ ⟨rfl, y, rfl⟩)
            | (go_at_call 27; refine (Aft.call (HTx.out _ (hT3.below y.below))).mono ?_; rintro e _ ⟨rfl, y, rfl⟩))
          rw [HA.out]
          refine bodyPost_ret (v := Value.tuple #[.agg #[.int .i64 0, .string ⟨#[]⟩, .string ⟨#[]⟩, .string ⟨#[]⟩], .bool false]) (by simp [results, Tryd.results40, go_sem, cZ]) rfl ⟨rfl, ?_⟩
          have hb5 := held_next hb2 (Aft.below (w := W3) y)
          first
            | with_reducible exact hb5
            | with_reducible exact hb2
            | exact (((hb5.setCell (by simp) _).setCell (by simp) _).setCell (by simp) _).setCell (by simp) _
            | exact (((hb2.setCell (by simp) _).setCell (by simp) _).setCell (by simp) _).setCell (by simp) _
        · skip
          have HA := Lib.hid (show ansK s b c (topB d) (kindI a) = Value.tuple #[.agg #[.int .i64 (k : Int), .string b, .string c, .string ⟨#[]⟩], .bool true] from by rw [HR.out, v3]; rfl)
          clear ht
          go_wp2_with (first
            | (go_at_call 18; refine (Aft.first (w := W3) (HV.out _ hT3)).mono ?_; rintro e _ ⟨rfl, y, rfl⟩)
            | (go_at_call 27; refine (Aft.call (HTx.out _ (hT3.below y.below))).mono ?_; rintro e _ ⟨rfl, y, rfl⟩))
          rw [HA.out]
          refine bodyPost_ret (v := Value.tuple #[.agg #[.int .i64 (k : Int), .string b, .string c, .string ⟨#[]⟩], .bool true]) (by simp [results, Tryd.results40, go_sem, cZ]) rfl ⟨rfl, ?_⟩
          have hb5 := held_next hb2 (Aft.below (w := W3) y)
          first
            | with_reducible exact hb5
            | with_reducible exact hb2
            | exact (((hb5.setCell (by simp) _).setCell (by simp) _).setCell (by simp) _).setCell (by simp) _
            | exact (((hb2.setCell (by simp) _).setCell (by simp) _).setCell (by simp) _).setCell (by simp) _
end Go.Proofs.YtolijmldobncbaaDoor
