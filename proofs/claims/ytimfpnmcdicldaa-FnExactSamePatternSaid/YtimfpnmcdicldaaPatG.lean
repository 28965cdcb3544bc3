/- Patterns: NormalPattern and SamePattern on both sides. -/
import Derived.Test.YtimfpnmcdicldaaPatF
import Derived.Test.YtimfpnmcdicldaaMarkPg
import Derived.Shelf.Slices.Equal
import Derived.Shelf.Lays
namespace Go.Proofs.Ytimfpnmcdicldaa
open Go Go.RowKit Go.Shelf
/-- The normal form of phases, as each side finds it. -/
def NfS (l0 l : List UInt8) : Prop := ∃ q b, PerS l0.length (fun i => l0.getD i 0) q ∧ LeastS q (fun i => l0.getD i 0) b ∧ l = (List.range q).map (rotF (fun i => l0.getD i 0) q b)
def NfI (l0 l : List UInt8) : Prop := ∃ q b, PerI l0.length (fun i => l0.getD i 0) q ∧ LeastI q (fun i => l0.getD i 0) b ∧ l = (List.range q).map (rotF (fun i => l0.getD i 0) q b)
theorem nf_same {l0 l l' : List UInt8} (hS : NfS l0 l) (hI : NfI l0 l') : l' = l := by
  obtain ⟨q, b, ⟨h1, h2, h3, h4⟩, ⟨hb, hm⟩, rfl⟩ := hS
  obtain ⟨p, c, ⟨k1, k2, k3⟩, ⟨hc, hn⟩, rfl⟩ := hI
  obtain rfl : p = q := period_same k1 k2 k3 h1 h2 h3 h4
  refine List.map_congr_left fun k hk => ?_
  exact (least_same hb hc hm hn k (List.mem_range.1 hk)).symm
theorem nf_len {l0 l : List UInt8} (h : NfS l0 l) : l.length ≤ l0.length := by
  obtain ⟨q, b, ⟨_, h2, _⟩, _, rfl⟩ := h
  simpa using h2
/-- Joined phases as the values of a row. -/
def fC (P : List (UInt8 × Nat)) (i : Nat) : ByteArray := lampB (P.getD i (0, 0)).1
def fL (P : List (UInt8 × Nat)) (i : Nat) : Int := ((P.getD i (0, 0)).2 : Int)
theorem phV_so {w : World} {base : Nat} {v : Value} {P : List (UInt8 × Nat)} (h : w.ownsRow base 100 2 v P.length (phV P)) : SO w base 100 2 v P.length (vPhase (fC P) (fL P)) :=
  ⟨_, h, fun i hi j hj => by
    have := phV_at P i P[i] (List.getElem?_eq_getElem hi)
    have hj : j = 0 ∨ j = 1 := by omega
    have e := List.getElem?_eq_getElem hi
    rcases hj with rfl | rfl
    · simpa [vPhase, fC, e] using this.1
    · simpa [vPhase, fL, e] using this.2⟩
theorem joinJ_len (l : List UInt8) : (joinJ l).length ≤ l.length := by
  have h : l = (List.range l.length).map (fun i => l.getD i 0) := by
    apply List.ext_getElem
    · simp
    · intro i h1 h2
      simp [h1]
  have := JJ_len (fun i => l.getD i 0) l.length
  unfold JJ at this
  rwa [← h] at this
/-- What NormalPattern answers: P: the phases. -/
def NpPost (l0 : List UInt8) (ok : Bool) (R : List UInt8 → List UInt8 → Prop) (w : World) (e : Ending) (w' : World) : Prop :=
  ∃ (P : List (UInt8 × Nat)) (A : Option Addr) (c : Nat) (code : Int), e = .returned (.tuple #[.slice A P.length c, .int .i64 code]) ∧ SO w' w.heap.size 100 2 (.slice A P.length c) P.length (vPhase (fC P) (fL P)) ∧ Below w.heap.size w w' ∧
    Hid (if ok = true then ∃ l, R l0 l ∧ P = joinJ l ∧ code = 0 else P = [] ∧ code = 1)
theorem okPhs_parts {n : Nat} {C : Nat → ByteArray} {L : Nat → Int} (h : okPhs n C L = true) : n ≤ 40 ∧ (∀ i, i < n → okPh C L i = true) ∧ 1 ≤ (tensL C L n).length ∧ (tensL C L n).length ≤ 600 := by
  unfold okPhs at h
  simp only [Bool.and_eq_true, decide_eq_true_eq] at h
  have h1 := inR_iff.1 h.2.1
  have hall := allB_at h.1
  have hl := tens_len (C := C) (L := L) n hall
  have hb := (sumL_bd (C := C) (L := L) n hall).1
  exact ⟨by omega, hall, by omega, by omega⟩
set_option maxHeartbeats 4000000 in
theorem specNP_c (A : Option Addr) (n cap : Nat) (C : Nat → ByteArray) (L : Nat → Int) (w : World) (hn : n ≤ 1048576) (hR : Rec 2 w A n (vPhase C L)) :
    Calls Try.prog 33 #[.slice A n cap] w (NpPost (tensL C L n) (okPhs n C L) NfS w) := by
  have HV := Lib.hid (l06Ok_c A n cap C L w hn hR)
  cases hv : okPhs n C L
  · rw [hv] at HV
    clear hv
    go_enter Try.func33, Try.ntmps33
    go_wp2_with fail
    refine HV.out.mono ?_
    rintro e _ ⟨rfl, rfl⟩
    go_wp2
    go_ret2
    exact ⟨[], none, 0, 1, rfl, SO.nil, Below.refl _ _, Lib.hid (by rw [if_neg (by simp)]; exact ⟨rfl, rfl⟩)⟩
  · rw [hv] at HV
    obtain ⟨h1, h2, h3, h4⟩ := okPhs_parts hv
    have HN := Lib.hid (l06Normal_c A n cap C L w h1 h2 h3 h4 hR)
    clear hv h2
    go_enter Try.func33, Try.ntmps33
    go_wp2_with fail
    refine HV.out.mono ?_
    rintro e _ ⟨rfl, rfl⟩
    go_wp2_with fail
    refine HN.out.mono ?_
    rintro e w1 ⟨v, q, b, rfl, hper, hle, hown, hb1⟩
    have hs := phV_so hown
    have HQ := Lib.hid (show NfS (tensL C L n) ((List.range q).map (rotF (fun i => (tensL C L n).getD i 0) q b)) from ⟨q, b, hper, hle, rfl⟩)
    have HP := Lib.hid (show JJ (rotF (fun i => (tensL C L n).getD i 0) q b) q = joinJ ((List.range q).map (rotF (fun i => (tensL C L n).getD i 0) q b)) from rfl)
    generalize JJ (rotF (fun i => (tensL C L n).getD i 0) q b) q = P at *
    obtain ⟨A1, c1, rfl⟩ := hs.form
    have HS := Lib.hid hs
    clear hs hown hper hle
    go_wp2
    go_ret2
    exact ⟨P, A1, c1, 0, rfl, HS.out, hb1, Lib.hid (by rw [if_pos rfl]; exact ⟨_, HQ.out, HP.out, rfl⟩)⟩
set_option maxHeartbeats 4000000 in
theorem implNP_c (A : Option Addr) (n cap : Nat) (C : Nat → ByteArray) (L : Nat → Int) (w : World) (hn : n ≤ 1048576) (hz : ∀ i, i < n → (C i).size ≤ maxLen) (hR : Rec 2 w A n (vPhase C L)) :
    Calls Try.prog 35 #[.slice A n cap] w (NpPost (tensL C L n) (okPhs n C L) NfI w) := by
  have HV := Lib.hid (validPhases_c A n cap C L w hn hz hR)
  cases hv : okPhs n C L
  · rw [hv] at HV
    clear hv
    go_enter Try.func35, Try.ntmps35
    go_wp2_with fail
    refine HV.out.mono ?_
    rintro e w1 ⟨rfl, hb1⟩
    go_wp2
    go_ret2
    exact ⟨[], none, 0, 1, rfl, SO.nil, hb1, Lib.hid (by rw [if_neg (by simp)]; exact ⟨rfl, rfl⟩)⟩
  · rw [hv] at HV
    obtain ⟨h1, h2, h3, h4⟩ := okPhs_parts hv
    have HN := Lib.hid (fun W hR => normal_c A n cap C L W h1 h2 h3 h4 hR)
    clear hv h2
    go_enter Try.func35, Try.ntmps35
    go_wp2_with fail
    refine HV.out.mono ?_
    rintro e w1 ⟨rfl, hb1⟩
    have hR1 := hR.below hb1
    clear hR
    go_wp2_with fail
    refine (HN.out _ hR1).mono ?_
    rintro e w2 ⟨g, q, c, b, rfl, hper, hqN, hle, hrow, hb2⟩
    have hq6 : q ≤ 600 := by omega
    have HJ := Lib.hid (join_c g q c (rotF (fun i => (tensL C L n).getD i 0) q b) w2 hq6 hrow)
    have HQ := Lib.hid (show NfI (tensL C L n) ((List.range q).map (rotF (fun i => (tensL C L n).getD i 0) q b)) from ⟨q, b, hper, hle, rfl⟩)
    have HP := Lib.hid (show JJ (rotF (fun i => (tensL C L n).getD i 0) q b) q = joinJ ((List.range q).map (rotF (fun i => (tensL C L n).getD i 0) q b)) from rfl)
    generalize JJ (rotF (fun i => (tensL C L n).getD i 0) q b) q = P at *
    clear hper hle hrow
    go_wp2_with fail
    refine HJ.out.mono ?_
    rintro e w3 ⟨v, rfl, hown, hb3⟩
    have hs := phV_so (own_lower hown (Nat.le_trans hb1.size hb2.size))
    obtain ⟨A1, c1, rfl⟩ := hs.form
    have HS := Lib.hid hs
    clear hs hown
    go_wp2
    go_ret2
    exact ⟨P, A1, c1, 0, rfl, HS.out, held_next hb1 (held_next hb2 hb3), Lib.hid (by rw [if_pos rfl]; exact ⟨_, HQ.out, HP.out, rfl⟩)⟩
end Go.Proofs.Ytimfpnmcdicldaa
