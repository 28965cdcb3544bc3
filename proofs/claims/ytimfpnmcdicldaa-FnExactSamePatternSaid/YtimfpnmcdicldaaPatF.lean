/- Patterns: the program's normal pattern. -/
import Derived.Test.YtimfpnmcdicldaaPatE
namespace Go.Proofs.Ytimfpnmcdicldaa
open Go Go.RowKit Go.Shelf
/-- The least of the rotations that the program looks at. -/
def LeastI (n : Nat) (t : Nat → UInt8) (b : Nat) : Prop := b < n ∧ ∀ j, j < n → (j = 0 ∨ t j ≠ t ((j + n - 1) % n)) → ¬ LtF n (rotF t n j) (rotF t n b)
theorem StR.congr {w : World} {g n : Nat} {r r' : Nat → UInt8} (h : StR w g n r) (he : ∀ i, i < n → r i = r' i) : StR w g n r' := fun i hi => by rw [← he i hi]; exact h i hi
set_option maxHeartbeats 8000000 in
theorem normal_c (A : Option Addr) (n cap : Nat) (C : Nat → ByteArray) (L : Nat → Int) (w : World) (hn : n ≤ 40) (hok : ∀ i, i < n → okPh C L i = true) (h1 : 1 ≤ (tensL C L n).length) (h6 : (tensL C L n).length ≤ 600) (hR : Rec 2 w A n (vPhase C L)) :
    Calls Try.prog 73 #[.slice A n cap] w fun e w' => ∃ (g q c b : Nat), e = .returned (.slice (some ⟨g, 0, none⟩) q c) ∧ PerI (tensL C L n).length (fun i => (tensL C L n).getD i 0) q ∧ q ≤ (tensL C L n).length ∧ LeastI q (fun i => (tensL C L n).getD i 0) b ∧
      StR w' g q (rotF (fun i => (tensL C L n).getD i 0) q b) ∧ Below w.heap.size w w' := by
  have HT := Lib.hid (onePeriod_c A n cap C L w hn hok h1 h6 hR)
  generalize (fun i => (tensL C L n).getD i 0) = t at *
  go_enter Try.func73, Try.ntmps73
  go_wp2_with fail
  refine HT.out.mono ?_
  rintro e w1 ⟨g, q, c, rfl, hper, hqN, ⟨hqc, hcm⟩, hB, hb1⟩
  have hq1 := hper.1
  have hq6 : q ≤ 600 := Nat.le_trans hqN h6
  have HPer := Lib.hid hper
  have HB := Lib.hid (fun (y : Aft w1) => hB.below y.below)
  have HRot := Lib.hid (fun i (hi : i < q) W (hR : StR W g q t) => (show Calls Try.prog 98 #[.slice (some ⟨g, 0, none⟩) q c, .int .i64 i] W fun e w' => ∃ v, e = .returned v ∧ w'.ownsRow W.heap.size 9 1 v q (lampRow (rotF t q i) 0 q) ∧ Below W.heap.size W w' by
    have e : i + (q - i) = q := by omega
    have := rotated_c g i (q - i) c t W (by omega) (by omega) (by omega) hcm (by rw [e]; exact hR)
    rw [e] at this
    exact this))
  have HCmp := Lib.hid (fun go gb co cb i b W hU hV => compare_c go gb q co cb (rotF t q i) (rotF t q b) W hq6 hU hV)
  have HSt : Hid (StR w1 g q (rotF t q 0)) := Lib.hid (hB.congr (fun i hi => by unfold rotF; rw [Nat.zero_add, Nat.mod_eq_of_lt hi]))
  have hq0 : (q : Int) ≠ 0 := by omega
  clear hper hB HT
  go_wp2
  go_loopw [4, 12] (fun v i wr => ∃ (k b gb cb : Nat) (x : Aft w1), k ≤ q ∧ b < q ∧ v = .slice (some ⟨gb, 0, none⟩) q cb ∧ i = .int .i64 k ∧ wr = x.w1 ∧ Hid (StR wr gb q (rotF t q b)) ∧ Hid (∀ j, (j < k ∨ j = 0) → j < q → (j = 0 ∨ t j ≠ t ((j + q - 1) % q)) → ¬ LtF q (rotF t q j) (rotF t q b))) (fun _ i _ => q - (intOf i).toNat)
  case atStart => exact ⟨0, 0, g, _, ⟨w1, Below.refl _ _⟩, by omega, hq1, rfl, rfl, rfl, HSt, Lib.hid (fun j hj _ _ h => by
    obtain rfl : j = 0 := by omega
    exact ltF_irrefl h (fun _ _ => rfl))⟩
  case round =>
    obtain ⟨k, b, gb, cb, x, hk, hb, rfl, rfl, rfl, hrow, hmin⟩ := hrel
    by_cases hlt : k < q
    · have hr1 : ((k : Int) + (q : Int) - 1) % (q : Int) = (((k + q - 1) % q : Nat) : Int) := by
        rw [Int.natCast_emod]
        congr 1
        omega
      have hl1 : (k + q - 1) % q < q := Nat.mod_lt _ (by omega)
      have hT := lamp_beq (t k) (t ((k + q - 1) % q))
      have m0 : ∀ z : Aft x.w1, z.w1.cell? ⟨g, k, none⟩ = some (.string (lampB (t k))) := fun z => HB.out ⟨z.w1, held_next x.below z.below⟩ k hlt
      have m1 : ∀ z : Aft x.w1, z.w1.cell? ⟨g, (k + q - 1) % q, none⟩ = some (.string (lampB (t ((k + q - 1) % q)))) := fun z => HB.out ⟨z.w1, held_next x.below z.below⟩ _ hl1
      by_cases hd : t k = t ((k + q - 1) % q)
      · rw [decide_eq_true hd] at hT
        have hn' : Hid (∀ j, (j < k + 1 ∨ j = 0) → j < q → (j = 0 ∨ t j ≠ t ((j + q - 1) % q)) → ¬ LtF q (rotF t q j) (rotF t q b)) := Lib.hid (fun j hj hjq hor => by
          by_cases e : j = k
          · rcases hor with h | h
            · exact hmin.out j (.inr h) hjq (.inl h)
            · rw [e] at h; exact absurd hd h
          · exact hmin.out j (by omega) hjq hor)
        clear hd
        generalize (k + q - 1) % q = r1 at *
        have hi1 : ((r1 : Int)) < (q : Int) := by omega
        go_wp2
        refine wp_region_aft (by kernel_rfl) (by kernel_rfl) ?_
        repeat (go_big_quiet_step (fail))
        refine wpQuiet_nil ?_
        intro w7 hb7
        go_wp2
        go_roundw
        case rel => exact ⟨k + 1, b, gb, cb, ⟨w7, held_next x.below hb7⟩, by omega, hb, rfl, by go_num, rfl, Lib.hid (hrow.out.below hb7), hn'⟩
        case measure => simp [intOf]; omega
      · rw [decide_eq_false hd] at hT
        clear hd
        generalize (k + q - 1) % q = r1 at *
        have hi1 : ((r1 : Int)) < (q : Int) := by omega
        go_wp2
        refine wp_region_aft (by kernel_rfl) (by kernel_rfl) ?_
        repeat (go_big_quiet_step (fail))
        refine wpQuiet_nil ?_
        intro w7 hb7
        have hb17 := held_next x.below hb7
        go_wp2_with fail
        refine (HRot.out k hlt _ (HB.out ⟨w7, hb17⟩)).mono ?_
        rintro e w8 ⟨v, rfl, hown, hb8⟩
        obtain ⟨go, co, rfl⟩ := Go.Joins.ownsRow_form hown hq1
        have hU := Lib.hid (StR.of_row hown)
        have hV := Lib.hid (hrow.out.below (held_next hb7 hb8))
        clear hown
        go_wp2_with fail
        refine (HCmp.out go gb co cb k b _ hU.out hV.out).mono ?_
        rintro e _ ⟨⟨y, rfl, hy⟩, rfl⟩
        rcases hy with ⟨rfl, hL⟩ | ⟨y0, y1, hL⟩
        · have hn' : Hid (∀ j, (j < k + 1 ∨ j = 0) → j < q → (j = 0 ∨ t j ≠ t ((j + q - 1) % q)) → ¬ LtF q (rotF t q j) (rotF t q k)) := Lib.hid (fun j hj hjq hor h => by
            by_cases e : j = k
            · rw [e] at h
              exact ltF_irrefl h (fun _ _ => rfl)
            · exact hmin.out j (by omega) hjq hor (ltF_trans h hL))
          clear hL
          go_wp2
          go_roundw
          case rel => exact ⟨k + 1, k, go, co, ⟨_, held_next hb17 hb8⟩, by omega, hlt, rfl, by go_num, rfl, hU, hn'⟩
          case measure => simp [intOf]; omega
        · have hn' : Hid (∀ j, (j < k + 1 ∨ j = 0) → j < q → (j = 0 ∨ t j ≠ t ((j + q - 1) % q)) → ¬ LtF q (rotF t q j) (rotF t q b)) := Lib.hid (fun j hj hjq hor h => by
            by_cases e : j = k
            · rw [e] at h
              exact hL h
            · exact hmin.out j (by omega) hjq hor h)
          have y0' : ¬ (y < 0) := by omega
          clear hL
          go_wp2
          go_roundw
          case rel => exact ⟨k + 1, b, gb, cb, ⟨_, held_next hb17 hb8⟩, by omega, hb, rfl, by go_num, rfl, hV, hn'⟩
          case measure => simp [intOf]; omega
    · obtain rfl : k = q := by omega
      go_wp2
      go_ret
      exact ⟨gb, k, cb, b, rfl, HPer.out, hqN, ⟨hb, fun j hj hor => hmin.out j (.inl hj) hj hor⟩, hrow.out, held_next hb1 x.below⟩
set_option maxHeartbeats 8000000 in
theorem join_c (g n cap : Nat) (r : Nat → UInt8) (w : World) (hn : n ≤ 600) (hR : StR w g n r) :
    Calls Try.prog 72 #[.slice (some ⟨g, 0, none⟩) n cap] w fun e w' => ∃ v, e = .returned v ∧ w'.ownsRow w.heap.size 100 2 v (JJ r n).length (phV (JJ r n)) ∧ Below w.heap.size w w' := by
  obtain ⟨ip, hip, hip0, hip1, hip2⟩ := info_parts infoPhase
  have hown0 : (w.alloc (.cells #[] 100)).ownsRow w.heap.size 100 2 (.slice (some ⟨w.heap.size, 0, none⟩) 0 0) 0 [] := by
    have h := World.ownsRow_lit (base := w.heap.size) (e := 100) (size := 2) w #[] 0 (Nat.le_refl _) (by unfold maxLen; omega) rfl
    exact h
  have HR := Lib.hid (fun (y : Aft w) => hR.below y.below)
  have HJ := Lib.hid (JJ_step r)
  have HJL := Lib.hid (JJ_len r)
  have HJC := Lib.hid (JJ_count r)
  have HJ0 := Lib.hid (show JJ r 0 = [] from rfl)
  generalize JJ r = J at *
  clear hR
  go_enter Try.func72, Try.ntmps72
  go_wp2
  go_loopw [3, 10] (fun v i wr => ∃ (k : Nat) (x : Aft w), k ≤ n ∧ i = .int .i64 k ∧ wr = x.w1 ∧ (∃ gj cj, v = .slice (some ⟨gj, 0, none⟩) (J k).length cj) ∧ wr.ownsRow w.heap.size 100 2 v (J k).length (phV (J k))) (fun _ i _ => n - (intOf i).toNat)
  case atStart => exact ⟨0, ⟨_, (Below.refl _ _).alloc (Nat.le_refl _) _⟩, by omega, rfl, rfl, ⟨w.heap.size, 0, by rw [HJ0.out]; rfl⟩, by rw [HJ0.out]; exact hown0⟩
  case round =>
    obtain ⟨k, x, hk, rfl, rfl, ⟨gj, cj, rfl⟩, hown⟩ := hrel
    have HO := Lib.hid hown
    clear hown hown0
    by_cases hlt : k < n
    · have c1 := HR.out x _ hlt
      have HJk := Lib.hid (HJ.out k)
      have HLk := HJL.out k
      have HCk := Lib.hid (HJC.out k)
      generalize r k = c at *
      generalize J k = out at *
      have hsz := x.below.size
      rcases List.eq_nil_or_concat out with h0 | ⟨ini, p, h0⟩
      · subst h0
        rw [stepJ_nil] at HJk
        have hlen : ([] : List (UInt8 × Nat)).length = 0 := rfl
        rw [hlen] at HO ⊢
        go_wp2_with (at_builtin; refine wpList_append_own _ rfl _ _ 56 rfl w.heap.size 100 ip _ 2 24 Try.underlying56 hip hip0 hip1 hip2 rfl (by decide) _ _ _ rfl (HO.out.alloc _) ⟨x.w1.heap.size, 0, none⟩ 1 1 [.string (lampB c), .int .i64 1] rfl rfl (World.news_of_block (cs := #[.string (lampB c), .int .i64 1]) (t := 100) (fr := (0, 0)) (heap_alloc_new x.w1 _)) (by simp [Value.oneCell']) (small_row (by omega)) (by omega) (le_alloc hsz _) ?_; intro v' w4 hown4 hgrow4 _)
        have HO4 := Lib.hid hown4
        have HG4 := Lib.hid hgrow4
        clear hown4 hgrow4
        go_roundw
        case rel =>
          obtain ⟨g4, c4, rfl⟩ := Go.Joins.ownsRow_form HO4.out (by omega)
          refine ⟨k + 1, ⟨w4, own_next x.below HO.out HG4.out⟩, by omega, by go_num, rfl, ?_, ?_⟩
          · rw [HJk.out]; exact ⟨g4, c4, rfl⟩
          · rw [HJk.out]; exact HO4.out
        case measure => simp [intOf]; omega
      · obtain ⟨d, m⟩ := p
        rw [List.concat_eq_append] at h0
        subst h0
        have hm : m ≤ k := HCk.out (d, m) (by simp)
        have hlen : (ini ++ [(d, m)]).length = ini.length + 1 := by simp
        have hat := phV_at (ini ++ [(d, m)]) ini.length (d, m) (by simp)
        rw [hlen] at HO HLk ⊢
        generalize hi : ini.length = q at *
        have d0 : x.w1.cell? ⟨gj, q * 2, none⟩ = some (.string (lampB d)) := (HO.out.cellAt (q * 2) (by omega)).trans hat.1
        have d1 : x.w1.cell? ⟨gj, q * 2 + 1, none⟩ = some (.int .i64 (m : Int)) := (HO.out.cellAt (q * 2 + 1) (by omega)).trans hat.2
        have f1 := HO.out.frozenAt (q * 2 + 1)
        have hgl := (HO.out.lt gj rfl).1
        have hbq := lamp_beq d c
        clear hat
        by_cases hdc : d = c
        · rw [decide_eq_true hdc] at hbq
          subst hdc
          rw [stepJ_same] at HJk
          go_wp2
          go_roundw
          case rel =>
            obtain ⟨o1, b1⟩ := own_put HO.out x.below hgl (q * 2 + 1) (.int .i64 ((m : Int) + 1))
            have hpm := phV_more ini d m
            rw [hi] at hpm
            rw [hpm] at o1
            have hlen2 : (ini ++ [(d, m + 1)]).length = q + 1 := by simp [hi]
            refine ⟨k + 1, ⟨_, b1⟩, by omega, by go_num, rfl, ?_, ?_⟩
            · rw [HJk.out, hlen2]; exact ⟨gj, cj, rfl⟩
            · rw [HJk.out, hlen2]; exact o1
          case measure => simp [intOf]; omega
        · rw [decide_eq_false hdc] at hbq
          rw [stepJ_other ini m hdc] at HJk
          go_wp2_with (at_builtin; refine wpList_append_own _ rfl _ _ 56 rfl w.heap.size 100 ip _ 2 24 Try.underlying56 hip hip0 hip1 hip2 rfl (by decide) _ _ _ rfl (HO.out.alloc _) ⟨x.w1.heap.size, 0, none⟩ 1 1 [.string (lampB c), .int .i64 1] rfl rfl (World.news_of_block (cs := #[.string (lampB c), .int .i64 1]) (t := 100) (fr := (0, 0)) (heap_alloc_new x.w1 _)) (by simp [Value.oneCell']) (small_row (by omega)) (by omega) (le_alloc hsz _) ?_; intro v' w4 hown4 hgrow4 _)
          have HO4 := Lib.hid hown4
          have HG4 := Lib.hid hgrow4
          clear hown4 hgrow4
          go_roundw
          case rel =>
            obtain ⟨g4, c4, rfl⟩ := Go.Joins.ownsRow_form HO4.out (by omega)
            have hlen2 : ((ini ++ [(d, m)]) ++ [(c, 1)]).length = q + 1 + 1 := by simp [hi]
            refine ⟨k + 1, ⟨w4, own_next x.below HO.out HG4.out⟩, by omega, by go_num, rfl, ?_, ?_⟩
            · rw [HJk.out, hlen2]; exact ⟨g4, c4, rfl⟩
            · rw [HJk.out, hlen2, phV_snoc]; exact HO4.out
          case measure => simp [intOf]; omega
    · obtain rfl : k = n := by omega
      go_wp2
      go_ret
      exact ⟨_, rfl, HO.out, x.below⟩
end Go.Proofs.Ytimfpnmcdicldaa
