/- PhasesText on both sides. -/
import Derived.Test.YtimfpnmcdicldaaDoorPhS
import Derived.Test.YtimfpnmcdicldaaDoorQPlan
import Derived.Shelf.Strings.OnBuilder
import Derived.Shelf.Lays
namespace Go.Proofs.YtimfpnmcdicldaaDoor
open Go Go.RowKit Go.Shelf
theorem phsT_a (C : Nat → ByteArray) (L : Nat → Int) (h : (C 0).toList.isEmpty = true) : phsT C L 1 = ⟨#[]⟩ ++ (⟨#[45]⟩ : ByteArray) ++ (C 0 ++ dec (L 0)) := by
  have e : (C 0).data = #[] := by
    have := List.isEmpty_iff.1 h
    rw [ByteArray.toList_eq] at this
    exact Array.toList_eq_nil_iff.1 this
  simp only [phsT, phT, colT, h, if_true]
  apply ByteArray.ext
  simp only [ByteArray.data_append, e]
  simp
theorem phsT_b (C : Nat → ByteArray) (L : Nat → Int) (h : (C 0).toList.isEmpty = false) : phsT C L 1 = ⟨#[]⟩ ++ (C 0 ++ dec (L 0)) := by
  simp [phsT, phT, colT, h]
theorem phsT_c (C : Nat → ByteArray) (L : Nat → Int) {k : Nat} (hk : 0 < k) (h : (C k).toList.isEmpty = true) : phsT C L (k + 1) = phsT C L k ++ (⟨#[44]⟩ : ByteArray) ++ (⟨#[45]⟩ : ByteArray) ++ (C k ++ dec (L k)) := by
  have e : (C k).data = #[] := by
    have := List.isEmpty_iff.1 h
    rw [ByteArray.toList_eq] at this
    exact Array.toList_eq_nil_iff.1 this
  rw [phsT, if_neg (by omega), phT, colT, if_pos h]
  apply ByteArray.ext
  simp only [ByteArray.data_append, e]
  simp
theorem phsT_d (C : Nat → ByteArray) (L : Nat → Int) {k : Nat} (hk : 0 < k) (h : (C k).toList.isEmpty = false) : phsT C L (k + 1) = phsT C L k ++ (⟨#[44]⟩ : ByteArray) ++ (C k ++ dec (L k)) := by
  rw [phsT, if_neg (by omega), phT, colT, if_neg (by rw [h]; simp)]
theorem okPhs_yes {n : Nat} {C : Nat → ByteArray} {L : Nat → Int} (h : okPhs n C L = true) : (1 ≤ n ∧ n ≤ 40) ∧ sumL L n ≤ 600 ∧ ∀ i, i < n → (C i).size ≤ 1 ∧ 1 ≤ L i ∧ L i ≤ 600 := by
  unfold okPhs at h
  simp only [Bool.and_eq_true, decide_eq_true_eq] at h
  have h1 := inR_iff.1 h.2.1
  refine ⟨by omega, h.2.2, fun i hi => ?_⟩
  have := allB_at h.1 i hi
  exact ⟨okPh_size this, (okPh_len this).1⟩
set_option maxHeartbeats 4000000 in
theorem l06Text_c (A : Option Addr) (n cap : Nat) (C : Nat → ByteArray) (L : Nat → Int) (w : World) (hn : n ≤ 40) (hCL : ∀ i, i < n → (C i).size ≤ 1 ∧ 1 ≤ L i ∧ L i ≤ 600) (hR : Rec 2 w A n (vPhase C L)) :
    Calls Tryd.prog 43 #[.slice A n cap] w fun e w' => e = .returned (.string (phsT C L n)) ∧ Below w.heap.size w w' := by
  have HZ := Lib.hid (fun k (hk : k ≤ n) => phsT_size (C := C) (L := L) k (fun i hi => by have := hCL i (by omega); omega))
  have HS := Lib.hid (fun k (hk : k < n) => dec_small (n := L k) (by have := hCL k hk; omega) (by have := hCL k hk; omega))
  have HD := Lib.hid (fun k (hk : k < n) W => l01Dec_nn (L k) (by have := hCL k hk; omega) (by have := hCL k hk; omega) W)
  have HA := Lib.hid (phsT_a C L)
  have HB := Lib.hid (phsT_b C L)
  have HC := Lib.hid (fun k (hk : 0 < k) h => phsT_c C L hk h)
  have HE := Lib.hid (fun k (hk : 0 < k) h => phsT_d C L hk h)
  have H0 : Hid (phsT C L 0 = ⟨#[]⟩) := Lib.hid rfl
  generalize phsT C L = T at *
  go_enter Tryd.func43, Tryd.ntmps43
  go_wp2
  go_loopw [3, 4] (fun o i wr => ∃ (k : Nat) (x : Aft w), k ≤ n ∧ o = .string (T k) ∧ i = .int .i64 k ∧ wr = x.w1) (fun _ i _ => n - (intOf i).toNat)
  case atStart => exact ⟨0, ⟨w, Below.refl _ _⟩, by omega, by rw [H0.out], rfl, rfl⟩
  case round =>
    obtain ⟨k, x, hk, rfl, rfl, rfl⟩ := hrel
    by_cases hlt : k < n
    · obtain ⟨b, o, hi⟩ := hR.aft x
      obtain ⟨rfl, hc⟩ := hi k hlt
      have p0 : x.w1.cell? ⟨b, o + k * 2, none⟩ = some (.string (C k)) := by simpa [vPhase, Nat.add_assoc] using hc 0 (by omega)
      have p1 : x.w1.cell? ⟨b, o + k * 2 + 1, none⟩ = some (.int .i64 (L k)) := by simpa [vPhase, Nat.add_assoc] using hc 1 (by omega)
      have z1 := HZ.out k hk
      have z2 := HS.out k hlt
      have z3 := (hCL k hlt).1
      have HDk := Lib.hid (HD.out k hlt)
      clear hc hi
      rcases Nat.eq_zero_or_pos k with h0 | h0
      · subst h0
        have p0 : x.w1.cell? ⟨b, o, none⟩ = some (.string (C 0)) := by simpa using p0
        have p1 : x.w1.cell? ⟨b, o + 1, none⟩ = some (.int .i64 (L 0)) := by simpa using p1
        have m0 : ∀ y : Aft x.w1, y.w1.cell? ⟨b, o, none⟩ = some (.string (C 0)) := fun y => y.cell (cell_lt p0) p0
        have m1 : ∀ y : Aft x.w1, y.w1.cell? ⟨b, o + 1, none⟩ = some (.int .i64 (L 0)) := fun y => y.cell (cell_lt p1) p1
        have hT0 := H0.out
        rw [hT0] at z1 ⊢
        generalize dec (L 0) = d at *
        cases v2 : (C 0).toList.isEmpty
        · have hF := Lib.hid (HB.out v2)
          go_wp2
          refine wp_region_aft (by kernel_rfl) (by kernel_rfl) ?_
          repeat (go_big_quiet_step ((go_at_call 56; exact Aft.call (HDk.out _))))
          refine wpQuiet_nil ?_
          intro w7 hb7
          go_wp2
          go_roundw
          case rel => exact ⟨1, ⟨w7, held_next x.below hb7⟩, by omega, by rw [hF.out], by go_num, rfl⟩
          case measure => simp [intOf]; omega
        · have hF := Lib.hid (HA.out v2)
          go_wp2
          refine wp_region_aft (by kernel_rfl) (by kernel_rfl) ?_
          repeat (go_big_quiet_step ((go_at_call 56; exact Aft.call (HDk.out _))))
          refine wpQuiet_nil ?_
          intro w7 hb7
          go_wp2
          go_roundw
          case rel => exact ⟨1, ⟨w7, held_next x.below hb7⟩, by omega, by rw [hF.out], by go_num, rfl⟩
          case measure => simp [intOf]; omega
      · have m0 : ∀ y : Aft x.w1, y.w1.cell? ⟨b, o + k * 2, none⟩ = some (.string (C k)) := fun y => y.cell (cell_lt p0) p0
        have m1 : ∀ y : Aft x.w1, y.w1.cell? ⟨b, o + k * 2 + 1, none⟩ = some (.int .i64 (L k)) := fun y => y.cell (cell_lt p1) p1
        have hkp : (0 : Int) < (k : Int) := by omega
        cases v2 : (C k).toList.isEmpty
        · have hF := Lib.hid (HE.out k h0 v2)
          generalize dec (L k) = d at *
          go_wp2
          refine wp_region_aft (by kernel_rfl) (by kernel_rfl) ?_
          repeat (go_big_quiet_step ((go_at_call 56; exact Aft.call (HDk.out _))))
          refine wpQuiet_nil ?_
          intro w7 hb7
          go_wp2
          go_roundw
          case rel => exact ⟨k + 1, ⟨w7, held_next x.below hb7⟩, by omega, by rw [hF.out], by go_num, rfl⟩
          case measure => simp [intOf]; omega
        · have hF := Lib.hid (HC.out k h0 v2)
          generalize dec (L k) = d at *
          go_wp2
          refine wp_region_aft (by kernel_rfl) (by kernel_rfl) ?_
          repeat (go_big_quiet_step ((go_at_call 56; exact Aft.call (HDk.out _))))
          refine wpQuiet_nil ?_
          intro w7 hb7
          go_wp2
          go_roundw
          case rel => exact ⟨k + 1, ⟨w7, held_next x.below hb7⟩, by omega, by rw [hF.out], by go_num, rfl⟩
          case measure => simp [intOf]; omega
    · obtain rfl : k = n := by omega
      go_wp2
      go_ret
      exact ⟨rfl, x.below⟩
def lays156_ren : Go.Shelf.Ren := ⟨fun | 156 => 46 | 165 => 79 | 166 => 80 | 169 => 81 | 240 => 96 | 241 => 97 | 276 => 110 | 277 => 111 | n => n, fun | 31 => 74 | 9 => 9 | 3 => 3 | 4 => 4 | 0 => 0 | 20 => 20 | 72 => 102 | 76 => 106 | 70 => 99 | 37 => 100 | 75 => 105 | 127 => 116 | 164 => 128 | 5 => 5 | 80 => 108 | n => n, fun  | n => n⟩
theorem lays156 : Lays.n156 Tryd.prog lays156_ren where
  mixed := by kernel_rfl
  f156 := Tryd.func46.trans (congrArg some (by kernel_rfl))
  f165 := Tryd.func79.trans (congrArg some (by kernel_rfl))
  f166 := Tryd.func80.trans (congrArg some (by kernel_rfl))
  f169 := Tryd.func81.trans (congrArg some (by kernel_rfl))
  f240 := Tryd.func96.trans (congrArg some (by kernel_rfl))
  f241 := Tryd.func97.trans (congrArg some (by kernel_rfl))
  f276 := Tryd.func110.trans (congrArg some (by kernel_rfl))
  f277 := Tryd.func111.trans (congrArg some (by kernel_rfl))
  t0 := Tryd.underlying0
  a0 := Tryd.isAgg0
  z0 := Tryd.sizeOf0
  v0 := Tryd.zeroValue0
  t3 := Tryd.underlying3
  a3 := Tryd.isAgg3
  z3 := Tryd.sizeOf3
  v3 := Tryd.zeroValue3
  t4 := Tryd.underlying4
  a4 := Tryd.isAgg4
  z4 := Tryd.sizeOf4
  v4 := Tryd.zeroValue4
  t9 := Tryd.underlying9
  a9 := Tryd.isAgg9
  z9 := Tryd.sizeOf9
  v9 := Tryd.zeroValue9
  t20 := Tryd.underlying20
  a20 := Tryd.isAgg20
  z20 := Tryd.sizeOf20
  v20 := Tryd.zeroValue20
  t31 := Tryd.underlying74
  a31 := Tryd.isAgg74
  z31 := Tryd.sizeOf74
  v31 := Tryd.zeroValue74
  t37 := Tryd.underlying100
  a37 := Tryd.isAgg100
  z37 := Tryd.sizeOf100
  v37 := Tryd.zeroValue100
  t70 := Tryd.underlying99
  a70 := Tryd.isAgg99
  z70 := Tryd.sizeOf99
  v70 := Tryd.zeroValue99
  t72 := Tryd.underlying102
  a72 := Tryd.isAgg102
  z72 := Tryd.sizeOf102
  v72 := Tryd.zeroValue102
  t75 := Tryd.underlying105
  a75 := Tryd.isAgg105
  z75 := Tryd.sizeOf105
  v75 := Tryd.zeroValue105
  t76 := Tryd.underlying106
  a76 := Tryd.isAgg106
  z76 := Tryd.sizeOf106
  v76 := Tryd.zeroValue106
  t127 := Tryd.underlying116
  a127 := Tryd.isAgg116
  z127 := Tryd.sizeOf116
  v127 := Tryd.zeroValue116
  t164 := Tryd.underlying128
  a164 := Tryd.isAgg128
  z164 := Tryd.sizeOf128
  v164 := Tryd.zeroValue128
theorem builder156 : Builder.Extra Tryd.prog lays156_ren where
  sizeBuilder := by kernel_rfl
  liesBuilder := by kernel_rfl
  t5 := Tryd.underlying5
  a5 := Tryd.isAgg5
  z5 := Tryd.sizeOf5
  v5 := Tryd.zeroValue5
  infoByte := by kernel_rfl
  cellsByte := by kernel_rfl
  sizeByte := by kernel_rfl
  neB5 := by decide
/-- The row of the texts of the first k phases. -/
def phRow (C : Nat → ByteArray) (L : Nat → Int) (k : Nat) : List Value := ((List.range k).map (phT C L)).map Value.string
theorem phRow_step (C : Nat → ByteArray) (L : Nat → Int) (k : Nat) : phRow C L (k + 1) = phRow C L k ++ [.string (colT (C k) ++ dec (L k))] := by
  unfold phRow
  rw [List.range_succ, List.map_append, List.map_append]
  rfl
theorem own_cap {w : World} {base n g cap : Nat} {e : TypeId} {xs : List Value} (h : w.ownsRow base e 1 (.slice (some ⟨g, 0, none⟩) n cap) n xs) : n ≤ cap := by
  rcases h.2 with ⟨h0, _⟩ | ⟨g', cap', cur, h1, _, _, h4, _⟩
  · cases h0
  · injection h1 with _ _ h1c
    omega
set_option maxHeartbeats 1000000 in
theorem joinPh_c (C : Nat → ByteArray) (L : Nat → Int) (n g cap base : Nat) (hn : n ≤ 40) (hCL : ∀ i, i < n → (C i).size ≤ 1 ∧ 0 ≤ L i ∧ L i ≤ 600) (w : World) (h : w.ownsRow base 9 1 (.slice (some ⟨g, 0, none⟩) n cap) n (phRow C L n)) :
    Calls Tryd.prog 46 #[.slice (some ⟨g, 0, none⟩) n cap, .string (⟨#[44]⟩ : ByteArray)] w fun e w' => e = .returned (.string (phsT C L n)) ∧ Below w.heap.size w w' := by
  have hl : ((List.range n).map (phT C L)).length = n := by simp
  have hz := phsT_size (C := C) (L := L) n hCL
  have h1 := Any.strings_Join lays156 builder156 g 0 cap ((List.range n).map (phT C L)) (⟨#[44]⟩ : ByteArray) w (fun j x hx => by
    have hj : j < n := by
      have := (List.getElem?_eq_some_iff.1 hx).1
      omega
    rw [Nat.zero_add, h.cellAt j (by omega), phRow, List.getElem?_map, hx]
    rfl) ((h.lt g rfl).2) (by rw [hl]; omega) (by rw [hl]; exact own_cap h) (by
      rw [phsT_join, Array.length_toList]
      have : (phsT C L n).data.size = (phsT C L n).size := rfl
      omega)
  rw [hl, phsT_join] at h1
  exact h1
set_option maxHeartbeats 8000000 in
theorem implPhasesText_c (A : Option Addr) (n cap : Nat) (C : Nat → ByteArray) (L : Nat → Int) (w : World) (hn : n ≤ 1048576) (hz : ∀ i, i < n → (C i).size ≤ maxLen) (hR : Rec 2 w A n (vPhase C L)) (hT : Pows w) :
    Calls Tryd.prog 19 #[.slice A n cap] w fun e w' => e = .returned (.string (if okPhs n C L = true then phsT C L n else ⟨#[]⟩)) ∧ Below w.heap.size w w' := by
  have HV := Lib.hid (validPhases_c A n cap C L w hn hz hR)
  have HTP := Lib.hid hT
  clear hT
  cases hv : okPhs n C L
  · rw [hv] at HV
    rw [if_neg (by simp)]
    go_enter Tryd.func19, Tryd.ntmps19
    go_wp2_with fail
    refine HV.out.mono ?_
    rintro e w1 ⟨rfl, hb1⟩
    go_wp2
    go_ret
    exact ⟨rfl, hb1⟩
  · rw [hv] at HV
    rw [if_pos rfl]
    obtain ⟨hn1, _, hCL⟩ := okPhs_yes hv
    obtain ⟨i0, hi0, hz0, hz1, hz2⟩ := info_parts (show (Tryd.prog.info? 9).map (fun i => (i.zero, i.size, i.bytes)) = some (some (.string ByteArray.empty), 1, 16) by kernel_rfl)
    have HJ := Lib.hid (fun g cap base W h => joinPh_c C L n g cap base (by omega) (fun i hi => by have := hCL i hi; omega) W h)
    have HS := Lib.hid (fun k (hk : k < n) => dec_small (n := L k) (by have := hCL k hk; omega) (by have := hCL k hk; omega))
    have HD := Lib.hid (fun k (hk : k < n) W hW => decimal_c (L k) (by have := hCL k hk; omega) (by have := hCL k hk; omega) W hW)
    have HX := Lib.hid (phRow_step C L)
    have H0 : Hid (phRow C L 0 = []) := Lib.hid rfl
    generalize phRow C L = P at *
    generalize phsT C L n = X at *
    clear hv hz
    go_enter Tryd.func19, Tryd.ntmps19
    go_wp2_with fail
    refine HV.out.mono ?_
    rintro e w1 ⟨rfl, hb1⟩
    have hR1 := hR.below hb1
    have HT1 := Lib.hid (HTP.out.below hb1)
    clear HV HTP hR
    have hown0 : (w1.alloc (.cells #[] 9)).ownsRow w1.heap.size 9 1 (.slice (some ⟨w1.heap.size, 0, none⟩) 0 0) 0 [] := ownsRow_at (cs := #[]) rfl (Nat.le_refl _) rfl (by omega) rfl
    go_wp2
    go_loopw [3, 13] (fun v i wr => ∃ (k : Nat) (x : Aft w1), k ≤ n ∧ i = .int .i64 k ∧ wr = x.w1 ∧ wr.ownsRow w1.heap.size 9 1 v k (P k)) (fun _ i _ => n - (intOf i).toNat)
    case atStart => exact ⟨0, ⟨_, (Below.refl _ _).alloc (Nat.le_refl _) _⟩, by omega, rfl, rfl, by rw [H0.out]; exact hown0⟩
    case round =>
      obtain ⟨k, x, hk, rfl, rfl, hown⟩ := hrel
      have HO := Lib.hid hown
      clear hown hown0
      by_cases hlt : k < n
      · obtain ⟨b, o, hi⟩ := hR1.aft x
        obtain ⟨rfl, hc⟩ := hi k hlt
        have p0 : x.w1.cell? ⟨b, o + k * 2, none⟩ = some (.string (C k)) := by simpa [vPhase, Nat.add_assoc] using hc 0 (by omega)
        have p1 : x.w1.cell? ⟨b, o + k * 2 + 1, none⟩ = some (.int .i64 (L k)) := by simpa [vPhase, Nat.add_assoc] using hc 1 (by omega)
        have z2 := HS.out k hlt
        have z3 := (hCL k hlt).1
        have hb5 : Below x.w1.heap.size x.w1 (x.w1.alloc (.cells #[.string (C k), .int .i64 (L k)] 72)) := (by repeat (first | exact Below.refl _ _ | refine Below.alloc ?_ (by simp; try omega) _ | refine Below.drew ?_))
        have HDk := Lib.hid (HD.out k hlt (x.w1.alloc (.cells #[.string (C k), .int .i64 (L k)] 72)) (HT1.out.below (held_next x.below hb5)))
        have HXk := Lib.hid (HX.out k)
        clear hc hi
        generalize dec (L k) = d at *
        cases v2 : (C k).toList.isEmpty
        all_goals
          have hcol : Hid (colT (C k) = _) := Lib.hid (show colT (C k) = if (C k).toList.isEmpty then (⟨#[45]⟩ : ByteArray) else C k from rfl)
          rw [v2] at hcol
          go_wp2_with fail
          refine HDk.out.mono ?_
          rintro e w6 ⟨rfl, hb6⟩
          have hb7 := held_next hb5 hb6
          have HO6 := Lib.hid (own_below HO.out hb7)
          have hsz6 := (held_next x.below hb7).size
          go_wp2_with (at_builtin; refine wpList_append_own _ rfl _ _ 74 rfl w1.heap.size 9 i0 (.string ByteArray.empty) 1 16 Tryd.underlying74 hi0 hz0 hz1 hz2 rfl (by decide) _ _ _ rfl (HO6.out.alloc _) ⟨w6.heap.size, 0, none⟩ 1 1 [.string _] rfl rfl (cell_one_new _ _ _) (one_string _) (by unfold maxLen; omega) (by omega) (le_alloc hsz6 _) ?_; intro v' w8 hown8 hgrow8 _)
          have HO8 := Lib.hid hown8
          have HG8 := Lib.hid hgrow8
          clear hown8 hgrow8
          go_roundw
          case rel => exact ⟨k + 1, ⟨w8, own_next (held_next x.below hb7) HO6.out HG8.out⟩, by omega, by go_num, rfl, by rw [HXk.out, hcol.out]; exact HO8.out⟩
          case measure => simp [intOf]; omega
      · obtain rfl : k = n := by omega
        obtain ⟨go, co, rfl⟩ := Go.Joins.ownsRow_form HO.out (by omega)
        go_wp2_with (go_at_call 46; refine (HJ.out _ _ _ _ HO.out).mono ?_; rintro e w9 ⟨rfl, hb9⟩)
        go_ret
        exact ⟨rfl, held_next hb1 (held_next x.below hb9)⟩
end Go.Proofs.YtimfpnmcdicldaaDoor
