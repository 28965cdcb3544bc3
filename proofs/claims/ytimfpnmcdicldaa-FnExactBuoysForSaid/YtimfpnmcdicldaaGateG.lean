/- The gates of a channel: what they are; the reference's. -/
import Derived.Test.YtimfpnmcdicldaaGateS
import Derived.Test.YtimfpnmcdicldaaStGate
import Derived.Deep.AppendLies
namespace Go.Proofs.Ytimfpnmcdicldaa
open Go Go.RowKit
/-- How many places there are ahead of the last. -/
def gaN (sp len : Int) : Nat := ((len + sp - 1) / sp).toNat
theorem gaN_spec {sp len : Int} (h0 : 1 ≤ sp) (h1 : 0 ≤ len) : (gaN sp len : Int) = (len + sp - 1) / sp := by
  unfold gaN
  exact Int.toNat_of_nonneg (Int.ediv_nonneg (by omega) (by omega))
theorem gaN_lt {sp len : Int} (h0 : 1 ≤ sp) (h1 : 0 ≤ len) (k : Nat) : (k : Int) * sp < len ↔ k < gaN sp len := by
  have e := gaN_spec h0 h1
  have : ((k : Int) + 1 ≤ (len + sp - 1) / sp) ↔ ((k : Int) + 1) * sp ≤ len + sp - 1 := Int.le_ediv_iff_mul_le (by omega)
  rw [← e, Int.add_mul, Int.one_mul] at this
  omega
/-- The distance of the i-th gate. -/
def gaD (sp len : Int) (i : Nat) : Int := if i < gaN sp len then (i : Int) * sp else len
theorem gaD_bd {sp len : Int} (h0 : 1 ≤ sp) (h1 : 0 ≤ len) (i : Nat) : 0 ≤ gaD sp len i ∧ gaD sp len i ≤ len := by
  unfold gaD
  split
  · rename_i h
    have := (gaN_lt h0 h1 i).2 h
    exact ⟨Int.mul_nonneg (by omega) (by omega), by omega⟩
  · exact ⟨h1, Int.le_refl _⟩
section
variable (X Y : Nat → Int) (n : Nat) (wd sp : Int)
noncomputable def gf0 (i : Nat) : Int := gaD sp (lenI X Y (n - 1)) i
noncomputable def gf1 (i : Nat) : Int := plX X Y (segJ X Y n (gf0 X Y n sp i)) (gf0 X Y n sp i) - offX X Y wd (segJ X Y n (gf0 X Y n sp i))
noncomputable def gf2 (i : Nat) : Int := plY X Y (segJ X Y n (gf0 X Y n sp i)) (gf0 X Y n sp i) + offY X Y wd (segJ X Y n (gf0 X Y n sp i))
noncomputable def gf3 (i : Nat) : Int := plX X Y (segJ X Y n (gf0 X Y n sp i)) (gf0 X Y n sp i) + offX X Y wd (segJ X Y n (gf0 X Y n sp i))
noncomputable def gf4 (i : Nat) : Int := plY X Y (segJ X Y n (gf0 X Y n sp i)) (gf0 X Y n sp i) - offY X Y wd (segJ X Y n (gf0 X Y n sp i))
noncomputable def okGa (i : Nat) : Bool := okP (gf1 X Y n wd sp i) (gf2 X Y n wd sp i) && okP (gf3 X Y n wd sp i) (gf4 X Y n wd sp i)
/-- The code. -/
noncomputable def gaCode (nm : ByteArray) : Int :=
  if okChan nm n X Y wd = true then
    (if inR sp 50 200000 = true then
      (if 32 < gaN sp (lenI X Y (n - 1)) + 1 then 5 else if allB (gaN sp (lenI X Y (n - 1)) + 1) (okGa X Y n wd sp) = true then 0 else 6)
    else 2)
  else 1
noncomputable def gaM (nm : ByteArray) : Nat := if gaCode X Y n wd sp nm = 0 then gaN sp (lenI X Y (n - 1)) + 1 else 0
end
/-- What GatesFor answers. -/
def GPost (f0 f1 f2 f3 f4 : Nat → Int) (m : Nat) (code : Int) (w : World) (e : Ending) (w' : World) : Prop :=
  ∃ A cap, e = .returned (.tuple #[.slice A m cap, .int .i64 code]) ∧ SO w' w.heap.size 84 5 (.slice A m cap) m (vGate f0 f1 f2 f3 f4) ∧ Below w.heap.size w w'
/-- Two rows of the call's own, of two element types, lie apart. -/
theorem own_apart {w : World} {B B' : Nat} {e e' : TypeId} {size size' n n' : Nat} {v v' : Value} {xs xs' : List Value} (h : w.ownsRow B e size v n xs) (h' : w.ownsRow B' e' size' v' n' xs') (hne : e ≠ e') : v.ownBlock = none ∨ v.ownBlock ≠ v'.ownBlock := by
  rcases h.2 with ⟨rfl, _⟩ | ⟨g, cap, cur, rfl, _, hg, _⟩
  · exact .inl rfl
  · right
    intro he
    rcases h'.2 with ⟨rfl, _⟩ | ⟨g', cap', cur', rfl, _, hg', _⟩
    · cases he
    · have e2 : g = g' := Option.some.inj he
      subst e2
      rw [hg] at hg'
      injection hg' with hg'
      injection hg' with _ hg' _
      exact hne hg'
def gcells (f0 f1 f2 f3 f4 : Nat → Int) (k : Nat) : List Value := (List.range k).flatMap fun i => [.int .i64 (f0 i), .int .i64 (f1 i), .int .i64 (f2 i), .int .i64 (f3 i), .int .i64 (f4 i)]
theorem gcells_succ (f0 f1 f2 f3 f4 : Nat → Int) (k : Nat) : gcells f0 f1 f2 f3 f4 (k + 1) = gcells f0 f1 f2 f3 f4 k ++ [.int .i64 (f0 k), .int .i64 (f1 k), .int .i64 (f2 k), .int .i64 (f3 k), .int .i64 (f4 k)] := by
  unfold gcells
  rw [List.range_succ, List.flatMap_append]
  simp
theorem gcells_len (f0 f1 f2 f3 f4 : Nat → Int) : ∀ k, (gcells f0 f1 f2 f3 f4 k).length = k * 5
  | 0 => rfl
  | k + 1 => by rw [gcells_succ, List.length_append, gcells_len f0 f1 f2 f3 f4 k]; simp; omega
theorem gcells_at (f0 f1 f2 f3 f4 : Nat → Int) : ∀ k i j, i < k → j < 5 → (gcells f0 f1 f2 f3 f4 k)[i * 5 + j]? = some (vGate f0 f1 f2 f3 f4 i j)
  | 0, i, j, hi, _ => by omega
  | k + 1, i, j, hi, hj => by
    rw [gcells_succ]
    by_cases h : i < k
    · rw [List.getElem?_append_left (by rw [gcells_len]; omega), gcells_at f0 f1 f2 f3 f4 k i j h hj]
    · obtain rfl : i = k := by omega
      rw [List.getElem?_append_right (by rw [gcells_len]; omega), gcells_len, Nat.add_sub_cancel_left]
      have : j = 0 ∨ j = 1 ∨ j = 2 ∨ j = 3 ∨ j = 4 := by omega
      rcases this with rfl | rfl | rfl | rfl | rfl <;> rfl
/-- The places. -/
def places (sp len : Int) (k : Nat) : List Value := (List.range k).map fun i => .int .i64 (gaD sp len i)
theorem places_len (sp len : Int) (k : Nat) : (places sp len k).length = k := by simp [places]
theorem places_succ (sp len : Int) (k : Nat) : places sp len (k + 1) = places sp len k ++ [.int .i64 (gaD sp len k)] := by
  unfold places
  rw [List.range_succ, List.map_append]
  rfl
theorem places_at {sp len : Int} {k i : Nat} (h : i < k) : (places sp len k)[i]? = some (.int .i64 (gaD sp len i)) := by
  unfold places
  simp [h]
set_option maxRecDepth 100000 in
set_option maxHeartbeats 8000000 in
theorem specGates_in (g : Nat) (nm : ByteArray) (A : Option Addr) (n cap : Nat) (wd sp : Int) (X Y : Nat → Int) (w : World) (hs : nm.size ≤ maxLen) (hn : n ≤ 1048576) (hR : Rec 2 w A n (vPoint X Y)) (hv1 : okChan nm n X Y wd = true) (hv2 : inR sp 50 200000 = true)
    (c0 : w.cell? ⟨g, 0, none⟩ = some (.string nm)) (c1 : w.cell? ⟨g, 1, none⟩ = some (.slice A n cap)) (c2 : w.cell? ⟨g, 2, none⟩ = some (.int .i64 wd)) :
    Calls Try.prog 58 #[.pointer (some ⟨g, 0, none⟩), .int .i64 sp] w (GPost (gf0 X Y n sp) (gf1 X Y n wd sp) (gf2 X Y n wd sp) (gf3 X Y n wd sp) (gf4 X Y n wd sp) (gaM X Y n wd sp nm) (gaCode X Y n wd sp nm) w) := by
  obtain ⟨ip, hip, hip0, hip1, hip2⟩ := info_parts (show (Try.prog.info? 2).map (fun i => (i.zero, i.size, i.bytes)) = some (some (.int .i64 0), 1, 8) by kernel_rfl)
  obtain ⟨ig, hig, hig0, hig1, hig2⟩ := info_parts (show (Try.prog.info? 84).map (fun i => (i.zero, i.size, i.bytes)) = some (some (.agg #[.int .i64 0, .int .i64 0, .int .i64 0, .int .i64 0, .int .i64 0]), 5, 40) by kernel_rfl)
  obtain ⟨hok, n2, n12, hw0, hw1⟩ := okChan_yes hv1
  obtain ⟨sp0, sp1⟩ := inR_iff.1 hv2
  obtain ⟨l0, l1⟩ := lenI_bd (n - 1) (fun i hi => hok i (by omega))
  have hl18 : lenI X Y (n - 1) ≤ 18000000 := by omega
  have hS := okChan_segs hv1
  have hg : g < w.heap.size := cell_lt c0
  have k0 : ∀ y : Aft w, y.w1.cell? ⟨g, 0, none⟩ = some (.string nm) := fun y => y.cell hg c0
  have k1 : ∀ y : Aft w, y.w1.cell? ⟨g, 1, none⟩ = some (.slice A n cap) := fun y => y.cell hg c1
  have k2 : ∀ y : Aft w, y.w1.cell? ⟨g, 2, none⟩ = some (.int .i64 wd) := fun y => y.cell hg c2
  have HOk := Lib.hid (l13Ok_c g nm A n cap wd X Y w hs hn hR c0 c1 c2)
  rw [hv1] at HOk
  have HLn := Lib.hid (fun y : Aft w => l13Length_c A n cap X Y y.w1 (by omega) n12 hok (hR.aft y))
  have hq := fun k : Nat => gaN_lt (sp := sp) (len := lenI X Y (n - 1)) (by omega) l0 k
  have hqs := gaN_spec (sp := sp) (len := lenI X Y (n - 1)) (by omega) l0
  have hqb : gaN sp (lenI X Y (n - 1)) ≤ 18000001 := by
    have : (lenI X Y (n - 1) + sp - 1) / sp ≤ lenI X Y (n - 1) + sp - 1 := Int.ediv_le_self _ (by omega)
    omega
  have HGt := Lib.hid (fun (i : Nat) (W : World) (hy : ∃ y : Aft w, W = y.w1) =>
    (show Calls Try.prog 89 #[.pointer (some ⟨g, 0, none⟩), .int .i64 (gf0 X Y n sp i)] W fun e w' => e = .returned (.agg #[.int .i64 (gf0 X Y n sp i), .int .i64 (gf1 X Y n wd sp i), .int .i64 (gf2 X Y n wd sp i), .int .i64 (gf3 X Y n wd sp i), .int .i64 (gf4 X Y n wd sp i)]) ∧ Below W.heap.size W w' by
      obtain ⟨y, rfl⟩ := hy
      have hd := gaD_bd (sp := sp) (len := lenI X Y (n - 1)) (by omega) l0 i
      exact l13Gate_c g nm wd A n cap X Y (gf0 X Y n sp i) (segJ X Y n (gf0 X Y n sp i)) y.w1 n12 hw0 hw1 hS (segJ_of n2 hd.2) hd.1 (Int.le_trans hd.2 hl18) (hR.aft y) (k0 y) (k1 y) (k2 y)))
  have HC := Lib.hid (show gaCode X Y n wd sp nm = if 32 < gaN sp (lenI X Y (n - 1)) + 1 then 5 else if allB (gaN sp (lenI X Y (n - 1)) + 1) (okGa X Y n wd sp) = true then 0 else 6 by unfold gaCode; rw [if_pos hv1, if_pos hv2])
  have HM := Lib.hid (show gaM X Y n wd sp nm = if gaCode X Y n wd sp nm = 0 then gaN sp (lenI X Y (n - 1)) + 1 else 0 from rfl)
  have HD := Lib.hid (show ∀ i, gf0 X Y n sp i = gaD sp (lenI X Y (n - 1)) i from fun i => rfl)
  have HG5 := Lib.hid (show ∀ i, okGa X Y n wd sp i = (okP (gf1 X Y n wd sp i) (gf2 X Y n wd sp i) && okP (gf3 X Y n wd sp i) (gf4 X Y n wd sp i)) from fun i => rfl)
  generalize gaCode X Y n wd sp nm = code at *
  generalize gaM X Y n wd sp nm = m at *
  generalize okGa X Y n wd sp = ok at *
  generalize gf0 X Y n sp = f0 at *
  generalize gf1 X Y n wd sp = f1 at *
  generalize gf2 X Y n wd sp = f2 at *
  generalize gf3 X Y n wd sp = f3 at *
  generalize gf4 X Y n wd sp = f4 at *
  generalize lenI X Y (n - 1) = len at *
  clear hR hS hok hv1 c0 c1 c2 l1
  go_enter Try.func58, Try.ntmps58
  go_wp2_with fail
  refine (Aft.first HOk.out).mono ?_
  rintro e _ ⟨rfl, x1, rfl⟩
  go_wp2_with (go_at_call 43; refine (l00In_v hv2 _).mono ?_; rintro e _ ⟨rfl, rfl⟩)
  go_wp2_with fail
  refine (Aft.call (HLn.out x1)).mono ?_
  rintro e _ ⟨rfl, x2, rfl⟩
  have hown0 : (x2.w1.alloc (.cells #[] 2)).ownsRow w.heap.size 2 1 (.slice (some ⟨x2.w1.heap.size, 0, none⟩) 0 0) 0 [] := ownsRow_at (cs := #[]) rfl x2.below.size rfl (by omega) rfl
  clear HOk HLn
  go_wp2
  go_loopw [7, 8] (fun v dv wr => ∃ k : Nat, k ≤ gaN sp len ∧ dv = .int .i64 ((k : Int) * sp) ∧ Below w.heap.size w wr ∧ wr.ownsRow w.heap.size 2 1 v k (places sp len k)) (fun _ dv _ => (len - intOf dv).toNat)
  case atStart => exact ⟨0, by omega, by simp, x2.below.alloc x2.below.size _, hown0⟩
  case round =>
    obtain ⟨k, hk, rfl, hbel, hown⟩ := hrel
    have HO := Lib.hid hown
    have HB := Lib.hid hbel
    have hsz := hbel.size
    clear hown hown0 hbel
    by_cases hlt : k < gaN sp len
    · have hks := (hq k).2 hlt
      have hk0 : 0 ≤ (k : Int) * sp := Int.mul_nonneg (by omega) (by omega)
      have HE := Lib.hid (show ((k + 1 : Nat) : Int) * sp = (k : Int) * sp + sp by rw [Int.natCast_add, Int.add_mul]; simp)
      have HPl := Lib.hid (show places sp len (k + 1) = places sp len k ++ [.int .i64 ((k : Int) * sp)] by rw [places_succ]; unfold gaD; rw [if_pos hlt])
      clear hq
      generalize (k : Int) * sp = dk at *
      go_wp2_with (at_builtin; refine wpList_append_own _ rfl _ _ 112 rfl w.heap.size 2 ip (.int .i64 0) 1 8 Try.underlying112 hip hip0 hip1 hip2 rfl (by decide) _ _ _ rfl (HO.out.alloc _) ⟨wr.heap.size, 0, none⟩ 1 1 [.int .i64 dk] rfl rfl (cell_one_new _ _ _) (one_int _ _) (by unfold maxLen; omega) (by omega) (le_alloc hsz _) ?_; intro v' w1 hown1 hgrow1 _)
      have HO1 := Lib.hid hown1
      have HG1 := Lib.hid hgrow1
      clear hown1 hgrow1
      go_roundw
      case rel => exact ⟨k + 1, by omega, by rw [HE.out], own_next HB.out HO.out HG1.out, by rw [HPl.out]; exact HO1.out⟩
      case measure => simp only [intOf]; omega
    · obtain rfl : k = gaN sp len := by omega
      have hks : len ≤ (gaN sp len : Int) * sp := by
        have := (hq (gaN sp len))
        omega
      have HPl := Lib.hid (show places sp len (gaN sp len + 1) = places sp len (gaN sp len) ++ [.int .i64 len] by rw [places_succ]; unfold gaD; rw [if_neg hlt])
      have HPA := Lib.hid (fun i (h : i < gaN sp len + 1) => places_at (sp := sp) (len := len) h)
      clear hq hlt hqs
      generalize gaN sp len = q at *
      generalize (q : Int) * sp = dq at *
      by_cases hfull : 32 < q + 1
      · have hcode : code = 5 := by rw [HC.out, if_pos hfull]
        have hm : m = 0 := by rw [HM.out, if_neg (by omega)]
        subst hcode hm
        go_wp2_with (at_builtin; refine wpList_append_own _ rfl _ _ 112 rfl w.heap.size 2 ip (.int .i64 0) 1 8 Try.underlying112 hip hip0 hip1 hip2 rfl (by decide) _ _ _ rfl (HO.out.alloc _) ⟨wr.heap.size, 0, none⟩ 1 1 [.int .i64 len] rfl rfl (cell_one_new _ _ _) (one_int _ _) (by unfold maxLen; omega) (by omega) (le_alloc hsz _) ?_; intro v' w1 hown1 hgrow1 _; rw [← HPl.out] at hown1; obtain ⟨gp, cp, rfl⟩ := Go.Joins.ownsRow_form hown1 (by omega); have HO1 := Lib.hid hown1; have HB1 := Lib.hid (own_next HB.out HO.out hgrow1); clear hown1 hgrow1)
        go_ret2
        exact ⟨none, 0, rfl, SO.nil, HB1.out⟩
      · replace HC := Lib.hid (HC.out.trans (if_neg hfull))
        go_wp2_with (at_builtin; refine wpList_append_own _ rfl _ _ 112 rfl w.heap.size 2 ip (.int .i64 0) 1 8 Try.underlying112 hip hip0 hip1 hip2 rfl (by decide) _ _ _ rfl (HO.out.alloc _) ⟨wr.heap.size, 0, none⟩ 1 1 [.int .i64 len] rfl rfl (cell_one_new _ _ _) (one_int _ _) (by unfold maxLen; omega) (by omega) (le_alloc hsz _) ?_; intro v' w1 hown1 hgrow1 _; rw [← HPl.out] at hown1; obtain ⟨gp, cp, rfl⟩ := Go.Joins.ownsRow_form hown1 (by omega); have HO1 := Lib.hid hown1; have HB1 := Lib.hid (own_next HB.out HO.out hgrow1); clear hown1 hgrow1)
        have hown2 : (w1.alloc (.cells #[] 84)).ownsRow w.heap.size 84 5 (.slice (some ⟨w1.heap.size, 0, none⟩) 0 0) 0 [] := World.ownsRow_lit (base := w.heap.size) (e := 84) (size := 5) w1 #[] 0 HB1.out.size (small_row (by omega)) (by simp)
        go_loopw [9, 10] (fun v i wr => ∃ k : Nat, k ≤ q + 1 ∧ i = .int .i64 k ∧ Below w.heap.size w wr ∧ wr.ownsRow w.heap.size 84 5 v k (gcells f0 f1 f2 f3 f4 k) ∧ wr.ownsRow w.heap.size 2 1 (.slice (some ⟨gp, 0, none⟩) (q + 1) cp) (q + 1) (places sp len (q + 1)) ∧ Hid (∀ i, i < k → ok i = true)) (fun _ i _ => q + 1 - (intOf i).toNat)
        case atStart => exact ⟨0, by omega, rfl, HB1.out.alloc HB1.out.size _, hown2, HO1.out.alloc _, Lib.hid (fun i hi => by omega)⟩
        case round =>
          obtain ⟨k, hk, rfl, hbel, hown, hpl, hall⟩ := hrel
          clear hown2 HO1 HB1 HO HB
          have HO := Lib.hid hown
          have HP := Lib.hid hpl
          have HB := Lib.hid hbel
          have hsz := hbel.size
          by_cases hlt : k < q + 1
          · have hcell : wr.cell? ⟨gp, k, none⟩ = some (.int .i64 (f0 k)) := by rw [HD.out k, hpl.cellAt k (by omega), HPA.out k hlt]
            have HG := Lib.hid (HGt.out k wr ⟨⟨wr, hbel⟩, rfl⟩)
            have HK := Lib.hid (HG5.out k)
            clear hbel hown hpl
            cases v1 : okP (f1 k) (f2 k)
            · skip
              go_wp2_with fail
              refine HG.out.mono ?_
              rintro e w2 ⟨rfl, hb2⟩
              have HO3 := Lib.hid (own_below HO.out hb2)
              have HP3 := Lib.hid (own_below HP.out hb2)
              have HB3 := Lib.hid (held_next HB.out hb2)
              have g0 : ∀ y : Aft (w2.alloc (.cells #[.int .i64 (f0 k), .int .i64 (f1 k), .int .i64 (f2 k), .int .i64 (f3 k), .int .i64 (f4 k)] 84)), y.w1.cell? ⟨w2.heap.size, 0, none⟩ = some (.int .i64 (f0 k)) := fun y => y.new rfl
              have g1 : ∀ y : Aft (w2.alloc (.cells #[.int .i64 (f0 k), .int .i64 (f1 k), .int .i64 (f2 k), .int .i64 (f3 k), .int .i64 (f4 k)] 84)), y.w1.cell? ⟨w2.heap.size, 1, none⟩ = some (.int .i64 (f1 k)) := fun y => y.new rfl
              have g2 : ∀ y : Aft (w2.alloc (.cells #[.int .i64 (f0 k), .int .i64 (f1 k), .int .i64 (f2 k), .int .i64 (f3 k), .int .i64 (f4 k)] 84)), y.w1.cell? ⟨w2.heap.size, 2, none⟩ = some (.int .i64 (f2 k)) := fun y => y.new rfl
              have g3 : ∀ y : Aft (w2.alloc (.cells #[.int .i64 (f0 k), .int .i64 (f1 k), .int .i64 (f2 k), .int .i64 (f3 k), .int .i64 (f4 k)] 84)), y.w1.cell? ⟨w2.heap.size, 3, none⟩ = some (.int .i64 (f3 k)) := fun y => y.new rfl
              have g4 : ∀ y : Aft (w2.alloc (.cells #[.int .i64 (f0 k), .int .i64 (f1 k), .int .i64 (f2 k), .int .i64 (f3 k), .int .i64 (f4 k)] 84)), y.w1.cell? ⟨w2.heap.size, 4, none⟩ = some (.int .i64 (f4 k)) := fun y => y.new rfl
              have hbb : Below w2.heap.size w2 (w2.alloc (.cells #[.int .i64 (f0 k), .int .i64 (f1 k), .int .i64 (f2 k), .int .i64 (f3 k), .int .i64 (f4 k)] 84)) := (by repeat (first | exact Below.refl _ _ | refine Below.alloc ?_ (by simp; try omega) _ | refine Below.drew ?_))
              clear hcell hb2 HG
              go_wp2_with fail
              refine (Aft.first (l02Ok_c _ _ _ v1 _)).mono ?_
              rintro e _ ⟨rfl, y3, rfl⟩
              have hno : ok k = false := by rw [HK.out, v1]; rfl
              have hcode : code = 6 := by rw [HC.out, if_neg (by rw [allB_no hlt hno]; simp)]
              have hm : m = 0 := by rw [HM.out, if_neg (by omega)]
              subst hcode hm
              go_wp2
              go_ret2
              exact ⟨none, 0, rfl, SO.nil, held_next HB3.out (held_next hbb y3.below)⟩
            · cases v2 : okP (f3 k) (f4 k)
              · skip
                go_wp2_with fail
                refine HG.out.mono ?_
                rintro e w2 ⟨rfl, hb2⟩
                have HO3 := Lib.hid (own_below HO.out hb2)
                have HP3 := Lib.hid (own_below HP.out hb2)
                have HB3 := Lib.hid (held_next HB.out hb2)
                have g0 : ∀ y : Aft (w2.alloc (.cells #[.int .i64 (f0 k), .int .i64 (f1 k), .int .i64 (f2 k), .int .i64 (f3 k), .int .i64 (f4 k)] 84)), y.w1.cell? ⟨w2.heap.size, 0, none⟩ = some (.int .i64 (f0 k)) := fun y => y.new rfl
                have g1 : ∀ y : Aft (w2.alloc (.cells #[.int .i64 (f0 k), .int .i64 (f1 k), .int .i64 (f2 k), .int .i64 (f3 k), .int .i64 (f4 k)] 84)), y.w1.cell? ⟨w2.heap.size, 1, none⟩ = some (.int .i64 (f1 k)) := fun y => y.new rfl
                have g2 : ∀ y : Aft (w2.alloc (.cells #[.int .i64 (f0 k), .int .i64 (f1 k), .int .i64 (f2 k), .int .i64 (f3 k), .int .i64 (f4 k)] 84)), y.w1.cell? ⟨w2.heap.size, 2, none⟩ = some (.int .i64 (f2 k)) := fun y => y.new rfl
                have g3 : ∀ y : Aft (w2.alloc (.cells #[.int .i64 (f0 k), .int .i64 (f1 k), .int .i64 (f2 k), .int .i64 (f3 k), .int .i64 (f4 k)] 84)), y.w1.cell? ⟨w2.heap.size, 3, none⟩ = some (.int .i64 (f3 k)) := fun y => y.new rfl
                have g4 : ∀ y : Aft (w2.alloc (.cells #[.int .i64 (f0 k), .int .i64 (f1 k), .int .i64 (f2 k), .int .i64 (f3 k), .int .i64 (f4 k)] 84)), y.w1.cell? ⟨w2.heap.size, 4, none⟩ = some (.int .i64 (f4 k)) := fun y => y.new rfl
                have hbb : Below w2.heap.size w2 (w2.alloc (.cells #[.int .i64 (f0 k), .int .i64 (f1 k), .int .i64 (f2 k), .int .i64 (f3 k), .int .i64 (f4 k)] 84)) := (by repeat (first | exact Below.refl _ _ | refine Below.alloc ?_ (by simp; try omega) _ | refine Below.drew ?_))
                clear hcell hb2 HG
                go_wp2_with fail
                refine (Aft.first (l02Ok_c _ _ _ v1 _)).mono ?_
                rintro e _ ⟨rfl, y3, rfl⟩
                go_wp2_with fail
                refine (Aft.call (l02Ok_c _ _ _ v2 _)).mono ?_
                rintro e _ ⟨rfl, y4, rfl⟩
                have hno : ok k = false := by rw [HK.out, v1, v2]; rfl
                have hcode : code = 6 := by rw [HC.out, if_neg (by rw [allB_no hlt hno]; simp)]
                have hm : m = 0 := by rw [HM.out, if_neg (by omega)]
                subst hcode hm
                go_wp2
                go_ret2
                exact ⟨none, 0, rfl, SO.nil, held_next HB3.out (held_next hbb y4.below)⟩
              · skip
                go_wp2_with fail
                refine HG.out.mono ?_
                rintro e w2 ⟨rfl, hb2⟩
                have HO3 := Lib.hid (own_below HO.out hb2)
                have HP3 := Lib.hid (own_below HP.out hb2)
                have HB3 := Lib.hid (held_next HB.out hb2)
                have g0 : ∀ y : Aft (w2.alloc (.cells #[.int .i64 (f0 k), .int .i64 (f1 k), .int .i64 (f2 k), .int .i64 (f3 k), .int .i64 (f4 k)] 84)), y.w1.cell? ⟨w2.heap.size, 0, none⟩ = some (.int .i64 (f0 k)) := fun y => y.new rfl
                have g1 : ∀ y : Aft (w2.alloc (.cells #[.int .i64 (f0 k), .int .i64 (f1 k), .int .i64 (f2 k), .int .i64 (f3 k), .int .i64 (f4 k)] 84)), y.w1.cell? ⟨w2.heap.size, 1, none⟩ = some (.int .i64 (f1 k)) := fun y => y.new rfl
                have g2 : ∀ y : Aft (w2.alloc (.cells #[.int .i64 (f0 k), .int .i64 (f1 k), .int .i64 (f2 k), .int .i64 (f3 k), .int .i64 (f4 k)] 84)), y.w1.cell? ⟨w2.heap.size, 2, none⟩ = some (.int .i64 (f2 k)) := fun y => y.new rfl
                have g3 : ∀ y : Aft (w2.alloc (.cells #[.int .i64 (f0 k), .int .i64 (f1 k), .int .i64 (f2 k), .int .i64 (f3 k), .int .i64 (f4 k)] 84)), y.w1.cell? ⟨w2.heap.size, 3, none⟩ = some (.int .i64 (f3 k)) := fun y => y.new rfl
                have g4 : ∀ y : Aft (w2.alloc (.cells #[.int .i64 (f0 k), .int .i64 (f1 k), .int .i64 (f2 k), .int .i64 (f3 k), .int .i64 (f4 k)] 84)), y.w1.cell? ⟨w2.heap.size, 4, none⟩ = some (.int .i64 (f4 k)) := fun y => y.new rfl
                have hbb : Below w2.heap.size w2 (w2.alloc (.cells #[.int .i64 (f0 k), .int .i64 (f1 k), .int .i64 (f2 k), .int .i64 (f3 k), .int .i64 (f4 k)] 84)) := (by repeat (first | exact Below.refl _ _ | refine Below.alloc ?_ (by simp; try omega) _ | refine Below.drew ?_))
                clear hcell hb2 HG
                go_wp2_with fail
                refine (Aft.first (l02Ok_c _ _ _ v1 _)).mono ?_
                rintro e _ ⟨rfl, y3, rfl⟩
                go_wp2_with fail
                refine (Aft.call (l02Ok_c _ _ _ v2 _)).mono ?_
                rintro e _ ⟨rfl, y4, rfl⟩
                have HO4 := Lib.hid (own_below (own_below HO3.out hbb) y4.below)
                have HP4 := Lib.hid (own_below (own_below HP3.out hbb) y4.below)
                have HB4 := Lib.hid (held_next HB3.out (held_next hbb y4.below))
                have hsz4 := HB4.out.size
                go_wp2_with (at_builtin; refine wpList_append_own _ rfl _ _ 43 rfl w.heap.size 84 ig _ 5 40 Try.underlying43 hig hig0 hig1 hig2 rfl (by decide) _ _ _ rfl (HO4.out.alloc _) ⟨y4.w1.heap.size, 0, none⟩ 1 1 [.int .i64 (f0 k), .int .i64 (f1 k), .int .i64 (f2 k), .int .i64 (f3 k), .int .i64 (f4 k)] rfl rfl (World.news_of_block (cs := #[.int .i64 (f0 k), .int .i64 (f1 k), .int .i64 (f2 k), .int .i64 (f3 k), .int .i64 (f4 k)]) (t := 84) (fr := (0, 0)) (heap_alloc_new y4.w1 _)) (by simp [Value.oneCell']) (by unfold maxLen; omega) (by omega) (le_alloc hsz4 _) ?_; intro v6 w6 hown6 hgrow6 _)
                have HO6 := Lib.hid hown6
                have HG6 := Lib.hid hgrow6
                clear hown6 hgrow6
                go_roundw
                case rel => exact ⟨k + 1, by omega, by go_num, own_next HB4.out HO4.out HG6.out, by rw [gcells_succ]; exact HO6.out, (HP4.out.alloc (.cells #[.int .i64 (f0 k), .int .i64 (f1 k), .int .i64 (f2 k), .int .i64 (f3 k), .int .i64 (f4 k)] 84)).kept HG6.out (own_apart (HP4.out.alloc (.cells #[.int .i64 (f0 k), .int .i64 (f1 k), .int .i64 (f2 k), .int .i64 (f3 k), .int .i64 (f4 k)] 84)) (HO4.out.alloc (.cells #[.int .i64 (f0 k), .int .i64 (f1 k), .int .i64 (f2 k), .int .i64 (f3 k), .int .i64 (f4 k)] 84)) (by decide)), Lib.hid (fun i hi => by
                  by_cases e : i = k
                  · rw [e, HK.out, v1, v2]; rfl
                  · exact hall.out i (by omega))⟩
                case measure => simp [intOf]; omega
          · obtain rfl : k = q + 1 := by omega
            have hcode : code = 0 := by rw [HC.out, if_pos (allB_yes hall.out)]
            have hm : m = q + 1 := by rw [HM.out, if_pos hcode]
            subst hcode hm
            obtain ⟨go, co, rfl⟩ := Go.Joins.ownsRow_form hown (by omega)
            go_wp2
            go_ret2
            exact ⟨_, _, rfl, ⟨_, HO.out, fun i hi j hj => gcells_at f0 f1 f2 f3 f4 _ i j hi hj⟩, HB.out⟩
end Go.Proofs.Ytimfpnmcdicldaa
