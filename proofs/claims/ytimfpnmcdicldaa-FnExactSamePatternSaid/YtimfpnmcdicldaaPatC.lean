/- Patterns: joined phases, and the reference's normal pattern. -/
import Derived.Test.YtimfpnmcdicldaaPatB
import Derived.Lib.SlBytesRow
import Derived.Deep.AppendLies
namespace Go.Proofs.Ytimfpnmcdicldaa
open Go Go.RowKit Go.Shelf
/-- Joined phases as a row. -/
def phV (out : List (UInt8 × Nat)) : List Value := out.flatMap fun p => [.string (lampB p.1), .int .i64 (p.2 : Int)]
theorem phV_len (out : List (UInt8 × Nat)) : (phV out).length = out.length * 2 := by
  induction out with
  | nil => rfl
  | cons p l ih =>
    have : phV (p :: l) = [.string (lampB p.1), .int .i64 (p.2 : Int)] ++ phV l := rfl
    rw [this, List.length_append, ih, List.length_cons]
    simp only [List.length_cons, List.length_nil]
    omega
theorem phV_snoc (out : List (UInt8 × Nat)) (p : UInt8 × Nat) : phV (out ++ [p]) = phV out ++ [.string (lampB p.1), .int .i64 (p.2 : Int)] := by simp [phV]
theorem phV_at : ∀ (out : List (UInt8 × Nat)) (i : Nat) (p : UInt8 × Nat), out[i]? = some p → (phV out)[i * 2]? = some (.string (lampB p.1)) ∧ (phV out)[i * 2 + 1]? = some (.int .i64 (p.2 : Int))
  | [], i, p, h => by simp at h
  | q :: l, 0, p, h => by
    have : q = p := by simpa using h
    subst this
    exact ⟨rfl, rfl⟩
  | q :: l, i + 1, p, h => by
    have h1 := phV_at l i p (by simpa using h)
    have e : phV (q :: l) = .string (lampB q.1) :: .int .i64 (q.2 : Int) :: phV l := rfl
    rw [e, show (i + 1) * 2 = i * 2 + 1 + 1 by omega, show i * 2 + 1 + 1 + 1 = (i * 2 + 1) + 1 + 1 by omega]
    simpa using h1
theorem count_le : ∀ (out : List (UInt8 × Nat)) (p : UInt8 × Nat), p ∈ out → p.2 ≤ (expand out).length
  | [], p, h => by simp at h
  | q :: l, p, h => by
    have e : expand (q :: l) = List.replicate q.2 q.1 ++ expand l := rfl
    rw [e, List.length_append, List.length_replicate]
    rcases List.mem_cons.1 h with rfl | h
    · omega
    · have := count_le l p h
      omega
/-- The joined phases of the first j letters. -/
def JJ (r : Nat → UInt8) (j : Nat) : List (UInt8 × Nat) := joinJ ((List.range j).map r)
theorem JJ_step (r : Nat → UInt8) (j : Nat) : JJ r (j + 1) = stepJ (JJ r j) (r j) := by
  unfold JJ
  rw [List.range_succ, List.map_append]
  exact joinJ_snoc _ _
theorem JJ_len (r : Nat → UInt8) : ∀ j, (JJ r j).length ≤ j
  | 0 => Nat.le_refl _
  | j + 1 => by
    have := stepJ_len (JJ r j) (r j)
    have := JJ_len r j
    rw [JJ_step]
    omega
theorem JJ_count (r : Nat → UInt8) (j : Nat) (p : UInt8 × Nat) (h : p ∈ JJ r j) : p.2 ≤ j := by
  have := count_le _ p h
  unfold JJ at this
  rw [expand_join] at this
  simpa using this
theorem JJ_congr {r r' : Nat → UInt8} {j : Nat} (h : ∀ i, i < j → r i = r' i) : JJ r j = JJ r' j := by
  unfold JJ
  congr 1
  exact List.map_congr_left (fun i hi => h i (List.mem_range.1 hi))
/-- Joined by one more: nothing yet; one run more; a longer run. -/
theorem stepJ_nil (c : UInt8) : stepJ [] c = [(c, 1)] := rfl
theorem stepJ_same (ini : List (UInt8 × Nat)) (c : UInt8) (m : Nat) : stepJ (ini ++ [(c, m)]) c = ini ++ [(c, m + 1)] := by simp [stepJ]
theorem stepJ_other (ini : List (UInt8 × Nat)) {d c : UInt8} (m : Nat) (h : d ≠ c) : stepJ (ini ++ [(d, m)]) c = (ini ++ [(d, m)]) ++ [(c, 1)] := by simp [stepJ, h]
theorem phV_more (ini : List (UInt8 × Nat)) (c : UInt8) (m : Nat) : (phV (ini ++ [(c, m)])).set (ini.length * 2 + 1) (.int .i64 ((m : Int) + 1)) = phV (ini ++ [(c, m + 1)]) := by
  rw [phV_snoc, phV_snoc, List.set_append_right _ _ (by rw [phV_len]; omega), phV_len, show ini.length * 2 + 1 - ini.length * 2 = 1 by omega]
  rfl
theorem lamp_beq (a b : UInt8) : ((lampB a).toList == (lampB b).toList) = decide (a = b) := by
  by_cases h : a = b
  · subst h; simp
  · rw [decide_eq_false h, beq_eq_false_iff_ne]
    intro e
    rw [ByteArray.toList_eq, ByteArray.toList_eq] at e
    apply h
    apply lamp_inj
    apply ByteArray.ext
    exact Array.toList_inj.1 e
theorem own_cap1 {w : World} {base n g cap m : Nat} {e : TypeId} {xs : List Value} (h : w.ownsRow base e m (.slice (some ⟨g, 0, none⟩) n cap) n xs) : n ≤ cap := by
  rcases h.2 with ⟨h0, _⟩ | ⟨g', cap', cur, h1, _, _, h4, _⟩
  · cases h0
  · injection h1 with _ _ h1c
    omega
set_option maxHeartbeats 4000000 in
theorem l06Once_c (A : Option Addr) (n cap : Nat) (C : Nat → ByteArray) (L : Nat → Int) (w : World) (hn : n ≤ 40) (hok : ∀ i, i < n → okPh C L i = true) (h1 : 1 ≤ (tensL C L n).length) (h6 : (tensL C L n).length ≤ 600) (hR : Rec 2 w A n (vPhase C L)) :
    Calls Try.prog 93 #[.slice A n cap] w fun e w' => ∃ (g q c : Nat), e = .returned (.slice (some ⟨g, 0, none⟩) q c) ∧ PerS (tensL C L n).length (fun i => (tensL C L n).getD i 0) q ∧ ByR w' g q (fun i => (tensL C L n).getD i 0) ∧ Below w.heap.size w w' := by
  have HT := Lib.hid (l06Tenths_c A n cap C L w hn hok hR)
  generalize tensL C L n = l at *
  go_enter Try.func93, Try.ntmps93
  go_wp2_with fail
  refine HT.out.mono ?_
  rintro e w1 ⟨v, rfl, hown, hb1⟩
  obtain ⟨g, c, rfl⟩ := Go.Joins.ownsRow_form hown h1
  have hB := ByR.of hown
  have hcap := own_cap1 hown
  have HBy := Lib.hid hB
  have HP := Lib.hid (fun c W hB => l06Period_c g l.length c (fun i => l.getD i 0) W h1 h6 hB)
  clear hown hB HT
  go_wp2_with (go_at_call 116; refine (HP.out _ _ HBy.out).mono ?_; rintro e w2 ⟨q, rfl, hper, hb2⟩; have HPer := Lib.hid hper; obtain ⟨pq1, pq2, _⟩ := hper)
  go_ret
  exact ⟨g, q, _, rfl, HPer.out, fun i hi => HBy.out.below hb2 i (by omega), held_next hb1 hb2⟩
set_option maxHeartbeats 1000000 in
theorem l06Name_c (b : UInt8) (w : World) :
    Calls Try.prog 117 #[.int .u8 (b.toNat : Int)] w fun e w' => e = .returned (.string (lampB b)) ∧ Below w.heap.size w w' := by
  by_cases h : b = 0
  · subst h
    have e : lampB 0 = ⟨#[]⟩ := rfl
    rw [e]
    go_enter Try.func117, Try.ntmps117
    go_wp2
    go_ret
    exact ⟨rfl, Below.refl _ _⟩
  · have e : lampB b = ⟨#[b]⟩ := if_neg h
    rw [e]
    have hne : ((b.toNat : Int) == 0) = false := by
      rw [beq_eq_false_iff_ne]
      intro e
      apply h
      apply UInt8.toNat_inj.1
      show b.toNat = 0
      omega
    have hcv : (convert 116 9 (.slice (some ⟨w.heap.size, 0, none⟩) 1 1)).run Try.prog (w.alloc (.cells #[.int .u8 (b.toNat : Int)] 5)) = .ok (.string ⟨#[b]⟩) (w.alloc (.cells #[.int .u8 (b.toNat : Int)] 5)) := by
      have hb : Lib.Bytes (w.alloc (.cells #[.int .u8 (b.toNat : Int)] 5)) w.heap.size 0 ⟨#[b]⟩ := fun i hi => by
        have hi0 : i = 0 := by
          have : i < 1 := hi
          omega
        subst hi0
        rw [cell_new]
        rfl
      exact Lib.run_convert_whole (P := Try.prog) _ 116 5 9 Try.underlying116 Try.underlying5 Try.underlying9 w.heap.size 0 ⟨#[b]⟩ hb 1
    go_enter Try.func117, Try.ntmps117
    go_wp2
    go_ret
    exact ⟨rfl, (by repeat (first | exact Below.refl _ _ | refine Below.alloc ?_ (by simp; try omega) _ | refine Below.drew ?_))⟩
set_option maxHeartbeats 8000000 in
theorem l06Join_c (g n cap b : Nat) (t : Nat → UInt8) (w : World) (h1 : 1 ≤ n) (hn : n ≤ 600) (hb : b < n) (hR : ByR w g n t) :
    Calls Try.prog 94 #[.slice (some ⟨g, 0, none⟩) n cap, .int .i64 b] w fun e w' => ∃ v, e = .returned v ∧ w'.ownsRow w.heap.size 100 2 v (JJ (rotF t n b) n).length (phV (JJ (rotF t n b) n)) ∧ Below w.heap.size w w' := by
  obtain ⟨ip, hip, hip0, hip1, hip2⟩ := info_parts infoPhase
  have hown0 : (w.alloc (.cells #[] 100)).ownsRow w.heap.size 100 2 (.slice (some ⟨w.heap.size, 0, none⟩) 0 0) 0 [] := by
    have h := World.ownsRow_lit (base := w.heap.size) (e := 100) (size := 2) w #[] 0 (Nat.le_refl _) (by unfold maxLen; omega) rfl
    exact h
  have HR := Lib.hid (fun (y : Aft w) => hR.below y.below)
  have HJ := Lib.hid (JJ_step (rotF t n b))
  have HJL := Lib.hid (JJ_len (rotF t n b))
  have HJC := Lib.hid (JJ_count (rotF t n b))
  have HJ0 := Lib.hid (show JJ (rotF t n b) 0 = [] from rfl)
  have HRF : Hid (∀ k, rotF t n b k = t ((b + k) % n)) := Lib.hid (fun k => rfl)
  have hn0 : (n : Int) ≠ 0 := by omega
  generalize JJ (rotF t n b) = J at *
  generalize rotF t n b = r at *
  clear hR
  go_enter Try.func94, Try.ntmps94
  go_wp2
  go_loopw [5, 6] (fun v i wr => ∃ (k : Nat) (x : Aft w), k ≤ n ∧ i = .int .i64 k ∧ wr = x.w1 ∧ (∃ gj cj, v = .slice (some ⟨gj, 0, none⟩) (J k).length cj) ∧ wr.ownsRow w.heap.size 100 2 v (J k).length (phV (J k))) (fun _ i _ => n - (intOf i).toNat)
  case atStart => exact ⟨0, ⟨_, (Below.refl _ _).alloc (Nat.le_refl _) _⟩, by omega, rfl, rfl, ⟨w.heap.size, 0, by rw [HJ0.out]; rfl⟩, by rw [HJ0.out]; exact hown0⟩
  case round =>
    obtain ⟨k, x, hk, rfl, rfl, ⟨gj, cj, rfl⟩, hown⟩ := hrel
    have HO := Lib.hid hown
    clear hown hown0
    by_cases hlt : k < n
    · have hr1 : ((b : Int) + (k : Int)) % (n : Int) = (((b + k) % n : Nat) : Int) := by rw [← Int.natCast_add, ← Int.natCast_emod]
      have hl1 : (b + k) % n < n := Nat.mod_lt _ (by omega)
      have c1 := HR.out x _ hl1
      rw [← HRF.out k] at c1
      have HJk := Lib.hid (HJ.out k)
      have HLk := HJL.out k
      have HCk := Lib.hid (HJC.out k)
      generalize (b + k) % n = r1 at *
      have hi1 : ((r1 : Int)) < (n : Int) := by omega
      generalize r k = c at *
      clear HRF
      generalize J k = out at *
      rcases List.eq_nil_or_concat out with h0 | ⟨ini, p, h0⟩
      · subst h0
        rw [stepJ_nil] at HJk
        have hlen : ([] : List (UInt8 × Nat)).length = 0 := rfl
        rw [hlen] at HO ⊢
        go_wp2_with fail
        refine (l06Name_c c _).mono ?_
        rintro e w2 ⟨rfl, hb2⟩
        have HO2 := Lib.hid (own_below HO.out hb2)
        have hb3 := held_next x.below hb2
        go_wp2_with (at_builtin; refine wpList_append_own _ rfl _ _ 56 rfl w.heap.size 100 ip _ 2 24 Try.underlying56 hip hip0 hip1 hip2 rfl (by decide) _ _ _ rfl (HO2.out.alloc _) ⟨w2.heap.size, 0, none⟩ 1 1 [.string (lampB c), .int .i64 1] rfl rfl (World.news_of_block (cs := #[.string (lampB c), .int .i64 1]) (t := 100) (fr := (0, 0)) (heap_alloc_new w2 _)) (by simp [Value.oneCell']) (small_row (by omega)) (by omega) (le_alloc hb3.size _) ?_; intro v' w4 hown4 hgrow4 _)
        have HO4 := Lib.hid hown4
        have HG4 := Lib.hid hgrow4
        clear hown4 hgrow4
        go_roundw
        case rel =>
          obtain ⟨g4, c4, rfl⟩ := Go.Joins.ownsRow_form HO4.out (by omega)
          refine ⟨k + 1, ⟨w4, own_next hb3 HO2.out HG4.out⟩, by omega, by go_num, rfl, ?_, ?_⟩
          · rw [HJk.out]; exact ⟨g4, c4, rfl⟩
          · rw [HJk.out]; exact HO4.out
        case measure => simp [intOf]; omega
      · obtain ⟨d, m⟩ := p
        rw [List.concat_eq_append] at h0
        subst h0
        have hm : m ≤ k := HCk.out (d, m) (by simp)
        have hlen : (ini ++ [(d, m)]).length = ini.length + 1 := by simp
        have hat := phV_at (ini ++ [(d, m)]) ini.length (d, m) (by simp)
        rw [hlen] at HO HLk ⊢
        generalize hi : ini.length = q at *
        go_wp2_with fail
        refine (l06Name_c c _).mono ?_
        rintro e w2 ⟨rfl, hb2⟩
        have HO2 := Lib.hid (own_below HO.out hb2)
        have hb3 := held_next x.below hb2
        have d0 : w2.cell? ⟨gj, q * 2, none⟩ = some (.string (lampB d)) := (HO2.out.cellAt (q * 2) (by omega)).trans hat.1
        have d1 : w2.cell? ⟨gj, q * 2 + 1, none⟩ = some (.int .i64 (m : Int)) := (HO2.out.cellAt (q * 2 + 1) (by omega)).trans hat.2
        have f1 := HO2.out.frozenAt (q * 2 + 1)
        have hgl := (HO2.out.lt gj rfl).1
        have hbq := lamp_beq d c
        clear hat
        by_cases hdc : d = c
        · rw [decide_eq_true hdc] at hbq
          subst hdc
          rw [stepJ_same] at HJk
          go_wp2
          go_roundw
          case rel =>
            obtain ⟨o1, b1⟩ := own_put HO2.out hb3 hgl (q * 2 + 1) (.int .i64 ((m : Int) + 1))
            have hpm := phV_more ini d m
            rw [hi] at hpm
            rw [hpm] at o1
            have hlen2 : (ini ++ [(d, m + 1)]).length = q + 1 := by simp [hi]
            refine ⟨k + 1, ⟨_, b1⟩, by omega, by go_num, rfl, ?_, ?_⟩
            · rw [HJk.out, hlen2]; exact ⟨gj, cj, rfl⟩
            · rw [HJk.out, hlen2]; exact o1
          case measure => simp [intOf]; omega
        · rw [decide_eq_false hdc] at hbq
          rw [stepJ_other ini m hdc] at HJk
          go_wp2_with (at_builtin; refine wpList_append_own _ rfl _ _ 56 rfl w.heap.size 100 ip _ 2 24 Try.underlying56 hip hip0 hip1 hip2 rfl (by decide) _ _ _ rfl (HO2.out.alloc _) ⟨w2.heap.size, 0, none⟩ 1 1 [.string (lampB c), .int .i64 1] rfl rfl (World.news_of_block (cs := #[.string (lampB c), .int .i64 1]) (t := 100) (fr := (0, 0)) (heap_alloc_new w2 _)) (by simp [Value.oneCell']) (small_row (by omega)) (by omega) (le_alloc hb3.size _) ?_; intro v' w4 hown4 hgrow4 _)
          have HO4 := Lib.hid hown4
          have HG4 := Lib.hid hgrow4
          clear hown4 hgrow4
          go_roundw
          case rel =>
            obtain ⟨g4, c4, rfl⟩ := Go.Joins.ownsRow_form HO4.out (by omega)
            have hlen2 : ((ini ++ [(d, m)]) ++ [(c, 1)]).length = q + 1 + 1 := by simp [hi]
            refine ⟨k + 1, ⟨w4, own_next hb3 HO2.out HG4.out⟩, by omega, by go_num, rfl, ?_, ?_⟩
            · rw [HJk.out, hlen2]; exact ⟨g4, c4, rfl⟩
            · rw [HJk.out, hlen2, phV_snoc]; exact HO4.out
          case measure => simp [intOf]; omega
    · obtain rfl : k = n := by omega
      go_wp2
      go_ret
      exact ⟨_, rfl, HO.out, x.below⟩
/-- The normal pattern of the reference: what its period and its least rotation are. -/
def LeastS (n : Nat) (t : Nat → UInt8) (b : Nat) : Prop := b < n ∧ ∀ j, j < n → ¬ LtF n (rotF t n j) (rotF t n b)
set_option maxHeartbeats 4000000 in
theorem l06Normal_c (A : Option Addr) (n cap : Nat) (C : Nat → ByteArray) (L : Nat → Int) (w : World) (hn : n ≤ 40) (hok : ∀ i, i < n → okPh C L i = true) (h1 : 1 ≤ (tensL C L n).length) (h6 : (tensL C L n).length ≤ 600) (hR : Rec 2 w A n (vPhase C L)) :
    Calls Try.prog 69 #[.slice A n cap] w fun e w' => ∃ (v : Value) (q b : Nat), e = .returned v ∧ PerS (tensL C L n).length (fun i => (tensL C L n).getD i 0) q ∧ LeastS q (fun i => (tensL C L n).getD i 0) b ∧
      w'.ownsRow w.heap.size 100 2 v (JJ (rotF (fun i => (tensL C L n).getD i 0) q b) q).length (phV (JJ (rotF (fun i => (tensL C L n).getD i 0) q b) q)) ∧ Below w.heap.size w w' := by
  have HO := Lib.hid (l06Once_c A n cap C L w hn hok h1 h6 hR)
  generalize (fun i => (tensL C L n).getD i 0) = t at *
  go_enter Try.func69, Try.ntmps69
  go_wp2_with fail
  refine HO.out.mono ?_
  rintro e w1 ⟨g, q, c, rfl, hper, hB, hb1⟩
  have hq1 := hper.1
  have hq6 : q ≤ 600 := Nat.le_trans hper.2.1 h6
  have HPer := Lib.hid hper
  have HB := Lib.hid hB
  have HL := Lib.hid (fun W hB => l06Least_c g q c t W hq1 hq6 hB)
  have HJ := Lib.hid (fun b hb W hB => l06Join_c g q c b t W hq1 hq6 hb hB)
  clear hper hB HO
  go_wp2_with (first
    | (go_at_call 95; refine (HL.out _ HB.out).mono ?_; rintro e w2 ⟨⟨b, rfl, hb, hmin⟩, rfl⟩; have HM := Lib.hid hmin; clear hmin)
    | (go_at_call 94; refine (HJ.out _ hb _ HB.out).mono ?_; rintro e w3 ⟨v, rfl, hown, hb3⟩))
  go_ret
  refine ⟨v, q, b, rfl, HPer.out, ⟨hb, HM.out⟩, ?_, held_next hb1 hb3⟩
  refine ⟨hown.1, ?_⟩
  rcases hown.2 with h0 | ⟨g', cap', cur, e1, e2, e3⟩
  · exact .inl h0
  · exact .inr ⟨g', cap', cur, e1, Nat.le_trans hb1.size e2, e3⟩
end Go.Proofs.Ytimfpnmcdicldaa
