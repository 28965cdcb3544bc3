/- SendText: what is sent; the reference's side. -/
import Derived.Test.YtolijmldobncbaaDoorSpell
import Derived.Test.YtolijmldobncbaaDoorStPhase
import Derived.Test.YtolijmldobncbaaDoorColor
import Derived.Deep.AppendLies
namespace Go.Proofs.YtolijmldobncbaaDoor
open Go Go.RowKit Go.Shelf
/-- What is sent, and the pause that is due. -/
def signStep (color : ByteArray) (unit : Int) (st : List (ByteArray × Int) × Int) (sg : UInt8) : List (ByteArray × Int) × Int :=
  ((st.1 ++ (if st.2 > 0 then [((⟨#[]⟩ : ByteArray), st.2 * unit)] else [])) ++ [(color, (if sg = 45 then 3 else 1) * unit)], 1)
def byteStep (color : ByteArray) (unit : Int) (st : List (ByteArray × Int) × Int) (c : UInt8) : List (ByteArray × Int) × Int :=
  if c = 32 then (st.1, 7) else (((codeB (c.toNat : Int)).data.toList.foldl (signStep color unit) st).1, 3)
def sendTo (s color : ByteArray) (unit : Int) (k : Nat) : List (ByteArray × Int) × Int := (s.data.toList.take k).foldl (byteStep color unit) ([], 0)
/-- The same within a letter, behind j of its signs. -/
def sendIn (s color : ByteArray) (unit : Int) (k : Nat) (cb : ByteArray) (j : Nat) : List (ByteArray × Int) × Int := (cb.data.toList.take j).foldl (signStep color unit) (sendTo s color unit k)
theorem sendTo_blank {s color : ByteArray} {unit : Int} {k : Nat} (h : k < s.size) (hb : s[k] = 32) : sendTo s color unit (k + 1) = ((sendTo s color unit k).1, 7) := by
  unfold sendTo
  rw [take_snoc s k h, List.foldl_append, List.foldl_cons, List.foldl_nil, byteStep, if_pos hb]
theorem sendTo_letter {s color : ByteArray} {unit : Int} {k : Nat} (h : k < s.size) (hb : s[k] ≠ 32) : sendTo s color unit (k + 1) = ((sendIn s color unit k (codeB (s[k].toNat : Int)) (codeB (s[k].toNat : Int)).size).1, 3) := by
  have e : (codeB (s[k].toNat : Int)).data.toList.take (codeB (s[k].toNat : Int)).size = (codeB (s[k].toNat : Int)).data.toList := List.take_of_length_le (by rw [Array.length_toList]; exact Nat.le_refl _)
  unfold sendIn
  rw [e]
  unfold sendTo
  rw [take_snoc s k h, List.foldl_append, List.foldl_cons, List.foldl_nil, byteStep, if_neg hb]
theorem sendIn_zero {s color : ByteArray} {unit : Int} {k : Nat} {cb : ByteArray} : sendIn s color unit k cb 0 = sendTo s color unit k := rfl
theorem sendIn_succ {s color : ByteArray} {unit : Int} {k : Nat} {cb : ByteArray} {j : Nat} (h : j < cb.size) : sendIn s color unit k cb (j + 1) = signStep color unit (sendIn s color unit k cb j) cb[j] := by
  unfold sendIn
  rw [take_snoc cb j h, List.foldl_append]
  rfl
theorem signStep_len (color : ByteArray) (unit : Int) (st : List (ByteArray × Int) × Int) (sg : UInt8) : (signStep color unit st sg).1.length ≤ st.1.length + 2 := by
  unfold signStep
  simp only [List.length_append, List.length_cons, List.length_nil]
  split <;> simp
theorem fold_len (color : ByteArray) (unit : Int) : ∀ (l : List UInt8) (st : List (ByteArray × Int) × Int), (l.foldl (signStep color unit) st).1.length ≤ st.1.length + 2 * l.length
  | [], st => by simp
  | c :: l, st => by
    rw [List.foldl_cons]
    have h1 := fold_len color unit l (signStep color unit st c)
    have h2 := signStep_len color unit st c
    simp only [List.length_cons]
    omega
theorem sendTo_len (s color : ByteArray) (unit : Int) : ∀ k, k ≤ s.size → (sendTo s color unit k).1.length ≤ 8 * k
  | 0, _ => by simp [sendTo]
  | k + 1, h => by
    have ih := sendTo_len s color unit k (by omega)
    by_cases hb : s[k] = 32
    · rw [sendTo_blank (by omega) hb]
      show (sendTo s color unit k).1.length ≤ _
      omega
    · rw [sendTo_letter (by omega) hb]
      have h1 := fold_len color unit ((codeB (s[k].toNat : Int)).data.toList.take (codeB (s[k].toNat : Int)).size) (sendTo s color unit k)
      have h2 : (codeB (s[k].toNat : Int)).size ≤ 4 := (codeB_signs _).1
      rw [List.length_take] at h1
      show (sendIn s color unit k _ _).1.length ≤ _
      unfold sendIn
      omega
theorem sendIn_len (s color : ByteArray) (unit : Int) (k : Nat) (cb : ByteArray) (j : Nat) (hk : k ≤ s.size) (hj : j ≤ 4) : (sendIn s color unit k cb j).1.length ≤ 8 * k + 8 := by
  have h1 := fold_len color unit (cb.data.toList.take j) (sendTo s color unit k)
  have h2 := sendTo_len s color unit k hk
  rw [List.length_take] at h1
  unfold sendIn
  omega
/-- The pause that is due is 0, 1, 3 or 7. -/
theorem sendTo_gap (s color : ByteArray) (unit : Int) : ∀ k, k ≤ s.size → 0 ≤ (sendTo s color unit k).2 ∧ (sendTo s color unit k).2 ≤ 7
  | 0, _ => by simp [sendTo]
  | k + 1, h => by
    by_cases hb : s[k] = 32
    · rw [sendTo_blank (by omega) hb]; exact ⟨by show (0 : Int) ≤ 7; omega, by show (7 : Int) ≤ 7; omega⟩
    · rw [sendTo_letter (by omega) hb]; exact ⟨by show (0 : Int) ≤ 3; omega, by show (3 : Int) ≤ 7; omega⟩
theorem sendIn_gap (s color : ByteArray) (unit : Int) (k : Nat) (cb : ByteArray) (hk : k ≤ s.size) : ∀ j, j ≤ cb.size → 0 ≤ (sendIn s color unit k cb j).2 ∧ (sendIn s color unit k cb j).2 ≤ 7
  | 0, _ => sendTo_gap s color unit k hk
  | j + 1, h => by rw [sendIn_succ (by omega)]; exact ⟨by show (0 : Int) ≤ 1; omega, by show (1 : Int) ≤ 7; omega⟩
/-- The cells of a list of phases. -/
def phs (l : List (ByteArray × Int)) : List Value := l.flatMap fun p => [Value.string p.1, Value.int .i64 p.2]
theorem phs_snoc (l : List (ByteArray × Int)) (p : ByteArray × Int) : phs (l ++ [p]) = phs l ++ [.string p.1, .int .i64 p.2] := by simp [phs]
theorem phs_two (l : List (ByteArray × Int)) (p q : ByteArray × Int) : phs (l ++ [p, q]) = phs l ++ [.string p.1, .int .i64 p.2, .string q.1, .int .i64 q.2] := by simp [phs]
theorem phs_len (l : List (ByteArray × Int)) : (phs l).length = 2 * l.length := by
  induction l with
  | nil => rfl
  | cons p l ih =>
    show ((phs (p :: l))).length = _
    have : phs (p :: l) = [Value.string p.1, Value.int .i64 p.2] ++ phs l := by simp [phs]
    rw [this, List.length_append, ih]
    simp; omega
theorem send_bd {n k z : Nat} (h : n ≤ 8 * k + 8) (hk : k ≤ z) (hz : z ≤ 12) : (n + 1) * 24 ≤ 140737488355328 ∧ (n + 1 + 1) * 24 ≤ 140737488355328 ∧ n + 1 ≤ 1000000 ∧ n + 1 + 1 ≤ 1000000 := by omega
theorem unit_bd {G unit : Int} (g0 : 0 ≤ G) (g1 : G ≤ 7) (u0 : 1 ≤ unit) (u1 : unit ≤ 50) : IntKind.i64.wrap (G * unit) = G * unit ∧ IntKind.i64.wrap (3 * unit) = 3 * unit ∧ IntKind.i64.wrap (1 * unit) = 1 * unit := by
  have h1 : 0 ≤ G * unit := Int.mul_nonneg g0 (by omega)
  have h2 : G * unit ≤ 7 * 50 := Int.mul_le_mul g1 u1 (by omega) (by omega)
  exact ⟨IntWalk.i64_in _ (by omega), IntWalk.i64_in _ (by omega), IntWalk.i64_in _ (by omega)⟩
theorem infoPh : (Tryd.prog.info? 70).map (fun i => (i.zero, i.size, i.bytes)) = some (some (.agg #[.string ByteArray.empty, .int .i64 0]), 2, 24) := by kernel_rfl
set_option maxRecDepth 100000 in
set_option maxHeartbeats 8000000 in
theorem l07Send_c (s color : ByteArray) (unit : Int) (u0 : 1 ≤ unit) (u1 : unit ≤ 50) (hb : okText s = true) (w : World) :
    Calls Tryd.prog 63 #[.string s, .string color, .int .i64 unit] w fun e w' => ∃ v, e = .returned v ∧ w'.ownsRow w.heap.size 70 2 v (sendTo s color unit s.size).1.length (phs (sendTo s color unit s.size).1) ∧ Below w.heap.size w w' := by
  obtain ⟨i0, hi0, hz0, hz1, hz2⟩ := info_parts infoPh
  obtain ⟨h1, h12, hby, _⟩ := okText_parts hb
  have HB := Lib.hid hby
  have hown0 : (w.alloc (.cells #[] 70)).ownsRow w.heap.size 70 2 (.slice (some ⟨w.heap.size, 0, none⟩) 0 0) 0 [] := World.ownsRow_lit (base := w.heap.size) (e := 70) (size := 2) w #[] 0 (Nat.le_refl _) (by decide) (by decide)
  clear hb hby
  go_enter Tryd.func63, Tryd.ntmps63
  go_wp2
  go_loopw [7, 8, 9] (fun v g i wr => ∃ k : Nat, k ≤ s.size ∧ i = .int .i64 k ∧ g = .int .i64 (sendTo s color unit k).2 ∧ Below w.heap.size w wr ∧ wr.ownsRow w.heap.size 70 2 v (sendTo s color unit k).1.length (phs (sendTo s color unit k).1)) (fun _ _ i _ => s.size - (intOf i).toNat)
  case atStart => exact ⟨0, by omega, rfl, rfl, (by repeat (first | exact Below.refl _ _ | refine Below.alloc ?_ (by simp; try omega) _ | refine Below.drew ?_)), hown0⟩
  case round =>
    clear hown0
    obtain ⟨k, hk, rfl, rfl, hbel, hown⟩ := hrel
    by_cases hlt : k < s.size
    · by_cases h32 : s[k] = 32
      · have b0 : ((s[k].toNat : Int) == 32) = true := by rw [h32]; rfl
        have HN := Lib.hid (sendTo_blank (color := color) (unit := unit) hlt h32)
        have HO := Lib.hid hown
        have HBW := Lib.hid hbel
        clear h32 hown hbel
        go_wp2
        go_roundw
        case rel => exact ⟨k + 1, by omega, by go_num, by rw [HN.out], HBW.out, by rw [HN.out]; exact HO.out⟩
        case measure => simp [intOf]; omega
      · have b0 : ((s[k].toNat : Int) == 32) = false := by
          have : s[k].toNat ≠ 32 := fun e => h32 (UInt8.toNat_inj.1 e)
          simp; omega
        have hup := isUp_iff.1 ((HB.out k hlt).resolve_left h32)
        have HN := Lib.hid (sendTo_letter (color := color) (unit := unit) hlt h32)
        have HC := Lib.hid (fun W => l07Code_c (s[k].toNat : Int) (by omega) (by omega) W)
        have hsg := codeB_signs (s[k].toNat : Int)
        have hcz := hsg.1
        have HSG := Lib.hid hsg.2
        generalize codeB (s[k].toNat : Int) = cb at *
        have HO := Lib.hid hown
        have HBW := Lib.hid hbel
        have HG0 := Lib.hid (sendTo_gap s color unit k hk)
        clear h32 hup hsg hown hbel
        go_wp2_with fail
        refine (HC.out _).mono ?_
        rintro e w3 ⟨rfl, hb3⟩
        have HB3 := Lib.hid (held_next HBW.out hb3)
        have HO3 := Lib.hid (own_below HO.out hb3)
        clear hb3
        go_wp2
        go_loopw [7, 8, 11] (fun v g i wr => ∃ j : Nat, j ≤ cb.size ∧ i = .int .i64 j ∧ g = .int .i64 (sendIn s color unit k cb j).2 ∧ Below w.heap.size w wr ∧ wr.ownsRow w.heap.size 70 2 v (sendIn s color unit k cb j).1.length (phs (sendIn s color unit k cb j).1)) (fun _ _ i _ => cb.size - (intOf i).toNat)
        case atStart => exact ⟨0, by omega, rfl, by rw [sendIn_zero], HB3.out, by rw [sendIn_zero]; exact HO3.out⟩
        case round =>
          clear HB3 HO3
          obtain ⟨j, hj, rfl, rfl, hbel, hown⟩ := hrel
          by_cases hlt2 : j < cb.size
          · have HS := Lib.hid (sendIn_succ (s := s) (color := color) (unit := unit) (k := k) hlt2)
            have hgap := sendIn_gap s color unit k cb hk j hj
            have hlen := sendIn_len s color unit k cb j hk (Nat.le_trans hj hcz)
            have hsz := hbel.size
            have HO := Lib.hid hown
            have HB3 := Lib.hid hbel
            have HDS0 := Lib.hid (HSG.out j hlt2)
            clear hown hbel HG0
            obtain ⟨st, hst⟩ : ∃ st, sendIn s color unit k cb j = st := ⟨_, rfl⟩
            rw [hst] at HS hgap hlen HO ⊢
            clear hst
            obtain ⟨L, G⟩ := st
            simp only at hgap hlen HO ⊢
            obtain ⟨q4, q5, s1, s2⟩ := send_bd hlen hk h12
            obtain ⟨m1, m2, m3⟩ := unit_bd hgap.1 hgap.2 u0 u1
            clear hlen
            rcases HDS0.out with hds | hds
            · have bs : ((cb[j].toNat : Int) == 45) = false := by rw [hds]; rfl
              have HDS := Lib.hid (show (if cb[j] = 45 then (3 : Int) else 1) = 1 by rw [hds]; rfl)
              clear hds
              by_cases hg : G > 0
              · have HGP := Lib.hid hg
                clear hgap
                go_wp2_with (first
                  | (at_builtin; refine wpList_append_own _ rfl _ _ 42 rfl w.heap.size 70 i0 _ 2 24 Tryd.underlying42 hi0 hz0 hz1 hz2 rfl (by decide) _ _ _ rfl (HO5.out.alloc _) ⟨w5.heap.size, 0, none⟩ 1 1 [.string color, .int .i64 (unit)] rfl rfl (World.news_of_block (cs := #[.string color, .int .i64 (unit)]) (t := 70) (fr := (0, 0)) (heap_alloc_new w5 _)) (by simp [Value.oneCell']) (small_row s2) q5 (le_alloc w5s _) ?_; intro v6 w6 hown5 hgrow5 hnew5; have HO6 := Lib.hid hown5; have HG6 := Lib.hid hgrow5; have w6s := Nat.le_trans (le_alloc w5s (.cells #[.string color, .int .i64 (unit)] 70)) hgrow5.size; clear hown5 hgrow5 hnew5)
                  | (at_builtin; refine wpList_append_own _ rfl _ _ 42 rfl w.heap.size 70 i0 _ 2 24 Tryd.underlying42 hi0 hz0 hz1 hz2 rfl (by decide) _ _ _ rfl (HO.out.alloc _) ⟨wr.heap.size, 0, none⟩ 1 1 [.string ⟨#[]⟩, .int .i64 (G * unit)] rfl rfl (World.news_of_block (cs := #[.string ⟨#[]⟩, .int .i64 (G * unit)]) (t := 70) (fr := (0, 0)) (heap_alloc_new wr _)) (by simp [Value.oneCell']) (small_row s1) q4 (le_alloc hsz _) ?_; intro v5 w5 hown5 hgrow5 hnew5; have HO5 := Lib.hid hown5; have HG5 := Lib.hid hgrow5; have w5s := Nat.le_trans (le_alloc hsz (.cells #[.string ⟨#[]⟩, .int .i64 (G * unit)] 70)) hgrow5.size; clear hown5 hgrow5 hnew5))
                go_roundw
                case rel =>
                  have e := HS.out
                  refine ⟨j + 1, by omega, by go_num, by rw [e]; rfl, own_next (own_next HB3.out HO.out HG5.out) HO5.out HG6.out, ?_⟩
                  rw [e]
                  show _
                  have e2 := HO6.out
                  simp only [signStep, if_pos HGP.out] at e2 ⊢
                  simpa [phs_snoc, phs_two, HDS.out] using e2
                case measure => simp [intOf]; omega
              · have hG0 : G = 0 := by have := hgap.1; omega
                have HGP := Lib.hid hg
                clear hgap hg
                subst hG0
                go_wp2_with (at_builtin; refine wpList_append_own _ rfl _ _ 42 rfl w.heap.size 70 i0 _ 2 24 Tryd.underlying42 hi0 hz0 hz1 hz2 rfl (by decide) _ _ _ rfl (HO.out.alloc _) ⟨wr.heap.size, 0, none⟩ 1 1 [.string color, .int .i64 (unit)] rfl rfl (World.news_of_block (cs := #[.string color, .int .i64 (unit)]) (t := 70) (fr := (0, 0)) (heap_alloc_new wr _)) (by simp [Value.oneCell']) (small_row s1) q4 (le_alloc hsz _) ?_; intro v6 w6 hown5 hgrow5 hnew5; have HO6 := Lib.hid hown5; have HG6 := Lib.hid hgrow5; have w6s := Nat.le_trans (le_alloc hsz (.cells #[.string color, .int .i64 (unit)] 70)) hgrow5.size; clear hown5 hgrow5 hnew5)
                go_roundw
                case rel =>
                  have e := HS.out
                  refine ⟨j + 1, by omega, by go_num, by rw [e]; rfl, own_next HB3.out HO.out HG6.out, ?_⟩
                  rw [e]
                  have e2 := HO6.out
                  simp only [signStep, if_neg HGP.out] at e2 ⊢
                  simpa [phs_snoc, HDS.out] using e2
                case measure => simp [intOf]; omega
            · have bs : ((cb[j].toNat : Int) == 45) = true := by rw [hds]; rfl
              have HDS := Lib.hid (show (if cb[j] = 45 then (3 : Int) else 1) = 3 by rw [hds]; rfl)
              clear hds
              by_cases hg : G > 0
              · have HGP := Lib.hid hg
                clear hgap
                go_wp2_with (first
                  | (at_builtin; refine wpList_append_own _ rfl _ _ 42 rfl w.heap.size 70 i0 _ 2 24 Tryd.underlying42 hi0 hz0 hz1 hz2 rfl (by decide) _ _ _ rfl (HO5.out.alloc _) ⟨w5.heap.size, 0, none⟩ 1 1 [.string color, .int .i64 (3 * unit)] rfl rfl (World.news_of_block (cs := #[.string color, .int .i64 (3 * unit)]) (t := 70) (fr := (0, 0)) (heap_alloc_new w5 _)) (by simp [Value.oneCell']) (small_row s2) q5 (le_alloc w5s _) ?_; intro v6 w6 hown5 hgrow5 hnew5; have HO6 := Lib.hid hown5; have HG6 := Lib.hid hgrow5; have w6s := Nat.le_trans (le_alloc w5s (.cells #[.string color, .int .i64 (3 * unit)] 70)) hgrow5.size; clear hown5 hgrow5 hnew5)
                  | (at_builtin; refine wpList_append_own _ rfl _ _ 42 rfl w.heap.size 70 i0 _ 2 24 Tryd.underlying42 hi0 hz0 hz1 hz2 rfl (by decide) _ _ _ rfl (HO.out.alloc _) ⟨wr.heap.size, 0, none⟩ 1 1 [.string ⟨#[]⟩, .int .i64 (G * unit)] rfl rfl (World.news_of_block (cs := #[.string ⟨#[]⟩, .int .i64 (G * unit)]) (t := 70) (fr := (0, 0)) (heap_alloc_new wr _)) (by simp [Value.oneCell']) (small_row s1) q4 (le_alloc hsz _) ?_; intro v5 w5 hown5 hgrow5 hnew5; have HO5 := Lib.hid hown5; have HG5 := Lib.hid hgrow5; have w5s := Nat.le_trans (le_alloc hsz (.cells #[.string ⟨#[]⟩, .int .i64 (G * unit)] 70)) hgrow5.size; clear hown5 hgrow5 hnew5))
                go_roundw
                case rel =>
                  have e := HS.out
                  refine ⟨j + 1, by omega, by go_num, by rw [e]; rfl, own_next (own_next HB3.out HO.out HG5.out) HO5.out HG6.out, ?_⟩
                  rw [e]
                  show _
                  have e2 := HO6.out
                  simp only [signStep, if_pos HGP.out] at e2 ⊢
                  simpa [phs_snoc, phs_two, HDS.out] using e2
                case measure => simp [intOf]; omega
              · have hG0 : G = 0 := by have := hgap.1; omega
                have HGP := Lib.hid hg
                clear hgap hg
                subst hG0
                go_wp2_with (at_builtin; refine wpList_append_own _ rfl _ _ 42 rfl w.heap.size 70 i0 _ 2 24 Tryd.underlying42 hi0 hz0 hz1 hz2 rfl (by decide) _ _ _ rfl (HO.out.alloc _) ⟨wr.heap.size, 0, none⟩ 1 1 [.string color, .int .i64 (3 * unit)] rfl rfl (World.news_of_block (cs := #[.string color, .int .i64 (3 * unit)]) (t := 70) (fr := (0, 0)) (heap_alloc_new wr _)) (by simp [Value.oneCell']) (small_row s1) q4 (le_alloc hsz _) ?_; intro v6 w6 hown5 hgrow5 hnew5; have HO6 := Lib.hid hown5; have HG6 := Lib.hid hgrow5; have w6s := Nat.le_trans (le_alloc hsz (.cells #[.string color, .int .i64 (3 * unit)] 70)) hgrow5.size; clear hown5 hgrow5 hnew5)
                go_roundw
                case rel =>
                  have e := HS.out
                  refine ⟨j + 1, by omega, by go_num, by rw [e]; rfl, own_next HB3.out HO.out HG6.out, ?_⟩
                  rw [e]
                  have e2 := HO6.out
                  simp only [signStep, if_neg HGP.out] at e2 ⊢
                  simpa [phs_snoc, HDS.out] using e2
                case measure => simp [intOf]; omega
          · obtain rfl : j = cb.size := by omega
            have HO := Lib.hid hown
            have HB3 := Lib.hid hbel
            clear hown hbel
            go_wp2
            go_roundw
            case rel => exact ⟨k + 1, by omega, by go_num, by rw [HN.out], HB3.out, by rw [HN.out]; exact HO.out⟩
            case measure => simp [intOf]; omega
    · obtain rfl : k = s.size := by omega
      have HO := Lib.hid hown
      clear hown
      go_wp2
      go_ret
      exact ⟨_, rfl, HO.out, hbel⟩
end Go.Proofs.YtolijmldobncbaaDoor
