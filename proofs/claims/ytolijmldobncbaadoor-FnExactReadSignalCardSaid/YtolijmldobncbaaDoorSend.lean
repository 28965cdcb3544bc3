/- A text that can be sent: contracts of the program's canSend and of the reference's l07Text. -/
import Derived.Test.YtolijmldobncbaaDoorWords
import Derived.Test.YtolijmldobncbaaDoorFind
import Derived.Lib.OthersKept
namespace Go.Proofs.YtolijmldobncbaaDoor
open Go Go.RowKit Go.Shelf
def isUp (c : UInt8) : Bool := decide (65 ≤ c.toNat) && decide (c.toNat ≤ 90)
theorem isUp_iff {c : UInt8} : isUp c = true ↔ 65 ≤ c.toNat ∧ c.toNat ≤ 90 := by simp [isUp]
def okW (p : List UInt8) : Bool := !p.isEmpty && p.all isUp
/-- A text that can be sent. -/
def okText (s : ByteArray) : Bool := (spl 32 s.data.toList).all okW && decide (s.size ≤ 12)
/-- The same, byte by byte; st: a word has yet to begin. -/
def chk : Bool → List UInt8 → Bool
  | st, [] => !st
  | st, c :: l => if c = 32 then !st && chk true l else isUp c && chk false l
theorem chk_spl : ∀ (l p : List UInt8) (ps : List (List UInt8)), spl 32 l = p :: ps → chk true l = (okW p && ps.all okW) ∧ chk false l = (p.all isUp && ps.all okW)
  | [], p, ps, h => by
    simp only [spl, List.cons.injEq] at h
    obtain ⟨rfl, rfl⟩ := h
    exact ⟨rfl, rfl⟩
  | c :: l, p, ps, h => by
    obtain ⟨q, qs, hq⟩ : ∃ q qs, spl 32 l = q :: qs := by
      cases hs : spl 32 l with
      | nil => exact absurd hs (spl_ne 32 l)
      | cons q qs => exact ⟨q, qs, rfl⟩
    obtain ⟨h1, h2⟩ := chk_spl l q qs hq
    by_cases hc : c = 32
    · subst hc
      rw [spl_hit, hq] at h
      simp only [List.cons.injEq] at h
      obtain ⟨rfl, rfl⟩ := h
      simp [chk, h1, okW]
    · rw [spl_miss hc hq] at h
      simp only [List.cons.injEq] at h
      obtain ⟨rfl, rfl⟩ := h
      simp [chk, hc, h2, okW, Bool.and_assoc]
theorem chk_all (l : List UInt8) : (spl 32 l).all okW = chk true l := by
  cases hs : spl 32 l with
  | nil => exact absurd hs (spl_ne 32 l)
  | cons q qs => rw [(chk_spl l q qs hs).1]; rfl
theorem drop_at (s : ByteArray) (i : Nat) (h : i < s.size) : s.data.toList.drop i = s[i] :: s.data.toList.drop (i + 1) := by
  have h' : i < s.data.toList.length := by rw [Array.length_toList]; exact h
  rw [List.drop_eq_getElem_cons h']
  rfl
theorem drop_end (s : ByteArray) : s.data.toList.drop s.size = [] := List.drop_eq_nil_of_le (by rw [Array.length_toList]; exact Nat.le_refl _)
set_option maxHeartbeats 4000000 in
theorem l07Text_c (s : ByteArray) (hs : s.size ≤ maxLen) (w : World) :
    Calls Tryd.prog 59 #[.string s] w fun e w' => e = .returned (.bool (okText s)) ∧ w = w' := by
  unfold maxLen at hs
  have HO := Lib.hid (show okText s = (chk true s.data.toList && decide (s.size ≤ 12)) by unfold okText; rw [chk_all])
  go_enter Tryd.func59, Tryd.ntmps59
  go_wp2
  go_loop [3] (fun i => ∃ (k : Nat) (st : Bool), k ≤ s.size ∧ i = .int .i64 k ∧ Hid (chk true s.data.toList = chk st (s.data.toList.drop k)) ∧ (st = true → k = 0 ∨ k < s.size) ∧ (k = 0 → st = true) ∧ (∀ h : k - 1 < s.size, 0 < k → (st = true ↔ s[k - 1] = 32))) (fun i => s.size - (intOf i).toNat)
  case atStart => exact ⟨0, true, by omega, rfl, Lib.hid rfl, fun _ => .inl rfl, fun _ => rfl, fun _ h => by omega⟩
  case round =>
    obtain ⟨k, st, hk, rfl, hch, hst, hst0, hpr⟩ := hrel
    by_cases hlt : k < s.size
    · have hd := drop_at s k hlt
      rw [hd] at hch
      have hc1 : chk st (s[k] :: s.data.toList.drop (k + 1)) = (if s[k] = 32 then !st && chk true (s.data.toList.drop (k + 1)) else isUp s[k] && chk false (s.data.toList.drop (k + 1))) := by rw [chk]
      rw [hc1] at hch
      have HD := Lib.hid hch
      clear hch hd hc1
      by_cases h32 : s[k] = 32
      · have b0 : ((s[k].toNat : Int) == 32) = true := by rw [h32]; rfl
        have HD2 := Lib.hid (show chk true s.data.toList = (!st && chk true (s.data.toList.drop (k + 1))) by rw [HD.out, if_pos h32])
        have H32 := Lib.hid h32
        clear HD h32
        rcases Nat.eq_zero_or_pos k with hk0 | hk0
        · subst hk0
          have hs0 := hst0 rfl
          have HF := Lib.hid (show okText s = false by rw [HO.out, HD2.out, hs0]; rfl)
          clear hpr
          go_wp2
          go_ret
          exact ⟨ret_bool HF.out.symm, rfl⟩
        · obtain ⟨q, rfl⟩ : ∃ q, k = q + 1 := ⟨k - 1, by omega⟩
          have hp := hpr (by omega) hk0
          have hp' : st = true ↔ s[q]'(by omega) = 32 := by simpa using hp
          clear hp hpr
          by_cases hl : q + 1 = s.size - 1
          · have e : s.data.toList.drop (q + 1 + 1) = [] := List.drop_eq_nil_of_le (by rw [Array.length_toList]; show s.size ≤ _; omega)
            have HF := Lib.hid (show okText s = false by rw [HO.out, HD2.out, e]; simp [chk])
            have b1 : (((q : Int) + 1) == (s.size : Int) - 1) = true := by simp; omega
            clear hp' hl e
            go_wp2
            go_ret
            exact ⟨ret_bool HF.out.symm, rfl⟩
          · have b1 : (((q : Int) + 1) == (s.size : Int) - 1) = false := by simp; omega
            have hq : q < s.size := by omega
            by_cases hs2 : s[q] = 32
            · have b2 : ((s[q].toNat : Int) == 32) = true := by rw [hs2]; rfl
              have HF := Lib.hid (show okText s = false by rw [HO.out, HD2.out, hp'.2 hs2]; rfl)
              clear hs2 hp'
              go_wp2
              go_ret
              exact ⟨ret_bool HF.out.symm, rfl⟩
            · have b2 : ((s[q].toNat : Int) == 32) = false := by
                have : s[q].toNat ≠ 32 := fun e => hs2 (UInt8.toNat_inj.1 e)
                simp; omega
              have hst' : st = false := by
                cases st
                · rfl
                · exact absurd (hp'.1 rfl) hs2
              have HN := Lib.hid (show chk true s.data.toList = chk true (s.data.toList.drop (q + 1 + 1)) by rw [HD2.out, hst']; rfl)
              clear hs2 hp'
              go_wp2
              go_round
              case rel => exact ⟨q + 1 + 1, true, by omega, by go_num, HN, fun _ => .inr (by omega), fun h => by omega, fun h _ => ⟨fun _ => H32.out, fun _ => rfl⟩⟩
              case measure => simp [intOf]; omega
      · have b0 : ((s[k].toNat : Int) == 32) = false := by
          have : s[k].toNat ≠ 32 := fun e => h32 (UInt8.toNat_inj.1 e)
          simp; omega
        have HD2 := Lib.hid (show chk true s.data.toList = (isUp s[k] && chk false (s.data.toList.drop (k + 1))) by rw [HD.out, if_neg h32])
        have H32 := Lib.hid h32
        clear HD h32 hpr hst hst0
        by_cases hlo : s[k].toNat < 65
        · have HF := Lib.hid (show okText s = false by rw [HO.out, HD2.out]; simp [isUp]; omega)
          have q1 : ((s[k].toNat : Int) < 65) := by omega
          go_wp2
          go_ret
          exact ⟨ret_bool HF.out.symm, rfl⟩
        by_cases hhi : 90 < s[k].toNat
        · have HF := Lib.hid (show okText s = false by rw [HO.out, HD2.out]; simp [isUp]; omega)
          go_wp2
          go_ret
          exact ⟨ret_bool HF.out.symm, rfl⟩
        have HN := Lib.hid (show chk true s.data.toList = chk false (s.data.toList.drop (k + 1)) by rw [HD2.out, isUp_iff.2 ⟨by omega, by omega⟩]; rfl)
        go_wp2
        go_round
        case rel => exact ⟨k + 1, false, by omega, by go_num, HN, fun h => by (cases h), fun h => by omega, fun h _ => ⟨fun h => by (cases h), fun h => absurd h H32.out⟩⟩
        case measure => simp [intOf]; omega
    · obtain rfl : k = s.size := by omega
      rw [drop_end] at hch
      have HC := Lib.hid hch
      clear hch hpr
      by_cases h0 : s.size = 0
      · have HF := Lib.hid (show okText s = false by rw [HO.out, HC.out, hst0 h0]; rfl)
        clear hst hst0
        go_wp2
        go_ret
        exact ⟨ret_bool HF.out.symm, rfl⟩
      · have hs1 : st = false := by
          cases st
          · rfl
          · rcases hst rfl with h | h <;> omega
        have HF := Lib.hid (show okText s = decide ((s.size : Int) ≤ 12) by
          rw [HO.out, HC.out, hs1]
          show (true && _) = _
          rw [Bool.true_and]
          by_cases h : s.size ≤ 12
          · rw [decide_eq_true h, decide_eq_true (by omega : (s.size : Int) ≤ 12)]
          · rw [decide_eq_false h, decide_eq_false (by omega : ¬ (s.size : Int) ≤ 12)])
        clear hst hst0
        go_wp2
        go_ret
        exact ⟨ret_bool HF.out.symm, rfl⟩
theorem spl_size (c : UInt8) : ∀ l, (spl c l).length ≤ l.length + 1 ∧ ∀ p ∈ spl c l, p.length ≤ l.length
  | [] => by simp [spl]
  | b :: l => by
    obtain ⟨h1, h2⟩ := spl_size c l
    obtain ⟨q, qs, hq⟩ : ∃ q qs, spl c l = q :: qs := by
      cases hs : spl c l with
      | nil => exact absurd hs (spl_ne c l)
      | cons q qs => exact ⟨q, qs, rfl⟩
    rw [hq] at h1 h2
    simp only [List.length_cons] at h1
    by_cases hc : b = c
    · subst hc
      rw [spl_hit, hq]
      refine ⟨by simp only [List.length_cons]; omega, fun p hp => ?_⟩
      rcases List.mem_cons.1 hp with rfl | hp
      · simp
      · have := h2 p hp
        simp only [List.length_cons]; omega
    · rw [spl_miss hc hq]
      refine ⟨by simp only [List.length_cons]; omega, fun p hp => ?_⟩
      rcases List.mem_cons.1 hp with rfl | hp
      · have := h2 q (by simp)
        simp only [List.length_cons]; omega
      · have := h2 p (by simp [hp])
        simp only [List.length_cons]; omega
theorem pieces_len (c : UInt8) (s : ByteArray) : (pieces c s).length ≤ s.size + 1 := by
  have := (spl_size c s.data.toList).1
  rw [Array.length_toList] at this
  unfold pieces
  rw [List.length_map]
  exact this
theorem pieces_size {c : UInt8} {s p : ByteArray} (h : p ∈ pieces c s) : p.size ≤ s.size := by
  unfold pieces at h
  obtain ⟨l, hl, rfl⟩ := List.mem_map.1 h
  have := (spl_size c s.data.toList).2 l hl
  rw [Array.length_toList] at this
  exact this
theorem sigS_byte {p : ByteArray} {i : Nat} (h : i < p.size) : sigS (p.extract i (i + 1)) = codeB ((p[i]'h).toNat : Int) := by
  have e : (p.extract i (i + 1)).data.toList = [p[i]] := by
    rw [Lib.extract_data]
    have hd := drop_at p i h
    have e2 : (p.data.toList.take (i + 1)).drop i = (p.data.toList.drop i).take 1 := by rw [List.drop_take]; congr 1; omega
    first
      | (rw [e2, hd]; rfl)
      | (simp only [hd]; simp)
  have hz : (p.extract i (i + 1)).size = 1 := by
    have := congrArg List.length e
    rw [Array.length_toList] at this
    exact this
  unfold sigS
  rw [if_pos hz, e]
  rfl
theorem codeB_up {c : UInt8} (h : isUp c = true) : (codeB (c.toNat : Int)).toList.isEmpty = false := by
  obtain ⟨h0, h1⟩ := isUp_iff.1 h
  exact codeB_ne (by omega) (by omega)
theorem codeB_low {c : UInt8} (h : isUp c = false) : codeB (c.toNat : Int) = ⟨#[]⟩ := by
  refine codeB_out ?_
  by_cases h0 : 65 ≤ c.toNat ∧ c.toNat ≤ 90
  · rw [isUp_iff.2 h0] at h; cases h
  · omega
theorem fewS_c (n m : Int) (w : World) :
    Calls Tryd.prog 96 #[.int .i64 n, .int .i64 m] w fun e w' => e = .returned (.bool (decide (n ≤ m))) ∧ w = w' := by
  go_enter Tryd.func96, Tryd.ntmps96
  go_wp2
  go_ret
  exact ⟨rfl, rfl⟩
set_option maxRecDepth 100000 in
set_option maxHeartbeats 8000000 in
theorem canSend_c (s : ByteArray) (hs : s.size ≤ 4000000) (w : World) (hM : MaxL w) :
    Calls Tryd.prog 60 #[.string s] w fun e w' => e = .returned (.bool (okText s)) ∧ Below w.heap.size w w' := by
  have HO := Lib.hid (show okText s = ((pieces 32 s).all (fun p => okW p.data.toList) && decide (s.size ≤ 12)) by
    unfold okText pieces
    rw [List.all_map]
    rfl)
  have HS := Lib.hid (fun W hW => splitc_c 32 s W (by omega) hW)
  have hlen : (pieces 32 s).length ≤ 4000001 := by have := pieces_len 32 s; omega
  have HZ := Lib.hid (fun p hp => Nat.le_trans (pieces_size (c := 32) (s := s) (p := p) hp) hs)
  generalize pieces 32 s = ps at *
  go_enter Tryd.func60, Tryd.ntmps60
  go_wp2_with fail
  refine (HS.out _ hM).mono ?_
  rintro e _ ⟨rfl, rfl⟩
  have HR := Lib.hid (fun y : Aft (w.alloc (.cells (ps.map Value.string).toArray 9)) => rowS_aft (rowS_new w ps 9) (by simp) y)
  have hbW : Below w.heap.size w (w.alloc (.cells (ps.map Value.string).toArray 9)) := (by repeat (first | exact Below.refl _ _ | refine Below.alloc ?_ (by simp; try omega) _ | refine Below.drew ?_))
  generalize w.alloc (.cells (ps.map Value.string).toArray 9) = W at *
  go_wp2
  go_loopw [9] (fun i wr => ∃ (q : Nat) (x : Aft W), q ≤ ps.length ∧ i = .int .i64 q ∧ wr = x.w1 ∧ Hid (∀ j, j < q → okW ((ps.getD j ⟨#[]⟩).data.toList) = true)) (fun i _ => ps.length - (intOf i).toNat)
  case atStart => exact ⟨0, ⟨W, Below.refl _ _⟩, by omega, rfl, rfl, Lib.hid (fun j hj => by omega)⟩
  case round =>
    obtain ⟨q, x, hq, rfl, rfl, hall⟩ := hrel
    by_cases hlt : q < ps.length
    · have hc := HR.out x q hlt
      obtain ⟨p, hp⟩ : ∃ p, ps.getD q ⟨#[]⟩ = p := ⟨_, rfl⟩
      rw [hp] at hc
      have HP := Lib.hid hp
      have hpz : p.size ≤ 4000000 := HZ.out p (by
        rw [← HP.out, List.getD_eq_getElem?_getD, List.getElem?_eq_getElem hlt]
        exact List.getElem_mem hlt)
      clear hp
      have HNO : okW p.data.toList = false → okText s = false := by
        intro h
        rw [HO.out, List.all_eq_false.2 ⟨p, ?_, by simp [h]⟩]
        · rfl
        · rw [← HP.out, List.getD_eq_getElem?_getD, List.getElem?_eq_getElem hlt]
          exact List.getElem_mem hlt
      by_cases he : p.toList.isEmpty = true
      · have HF := Lib.hid (HNO (by rw [ByteArray.toList_eq] at he; simp [okW, he]))
        clear HNO
        go_wp2
        go_ret
        exact ⟨ret_bool HF.out.symm, held_next hbW x.below⟩
      · have he1 : p.toList.isEmpty = false := by simpa using he
        have HE := Lib.hid he1
        have HN := Lib.hid HNO
        clear HNO he
        go_wp2
        go_loopw [17] (fun _ wr => ∃ pos : Nat, pos ≤ p.size ∧ wr.heap[x.w1.heap.size]? = some (.stringIter p pos) ∧ Below x.w1.heap.size x.w1 wr ∧ Hid (∀ j (h : j < p.size), j < pos → isUp p[j] = true)) (fun _ wr => p.size - wr.iterPos x.w1.heap.size)
        case atStart => exact ⟨0, by omega, World.iter_heap x.w1 p 0, (Below.refl _ _).alloc (Nat.le_refl _) _, Lib.hid (fun j h hj => by omega)⟩
        case round =>
          obtain ⟨pos, hpos, hit, hbw, hup⟩ := hrel
          have hpos0 := iterPos_of hit
          by_cases hlt2 : pos < p.size
          · have hsg := sigS_byte hlt2
            have hez : (p.extract pos (pos + 1)).size ≤ 4000000 := by rw [ByteArray.size_extract]; omega
            have HSG := Lib.hid (fun W' => signsOf_c (p.extract pos (pos + 1)) (by omega) W')
            rw [hsg] at HSG
            clear hsg
            cases hu : isUp p[pos]
            · have hcb := codeB_low hu
              rw [hcb] at HSG
              have HF := Lib.hid (HN.out (by
                rw [okW, Bool.and_eq_false_iff]
                right
                rw [List.all_eq_false]
                exact ⟨p[pos], by rw [← Array.mem_def]; exact Array.getElem_mem _, by simp [hu]⟩))
              have hnx := fun ty => Lib.run_next_any_at (P := Tryd.prog) wr x.w1.heap.size p pos ty hit hlt2
              have hbw2 := Lib.below_iterAt hbw (k := x.w1.heap.size) (Nat.le_refl _) p (pos + (Utf8.decode p pos).2)
              generalize wr.iterAt x.w1.heap.size p (pos + (Utf8.decode p pos).2) = W1 at *
              generalize (Utf8.decode p pos).1 = ru at *
              clear hcb hpos0 hit hbw hu
              go_wp2_with (go_at_call 55; refine (HSG.out _).mono ?_; rintro e w' ⟨rfl, rfl⟩)
              go_ret
              exact ⟨ret_bool HF.out.symm, held_next hbW (held_next x.below hbw2)⟩
            · have hcb := codeB_up hu
              have hl := isUp_iff.1 hu
              have HU := Lib.hid hu
              have hnx := fun ty => Lib.run_next_ascii_at (P := Tryd.prog) wr x.w1.heap.size p pos ty hit hlt2 (by omega)
              have hit2 := Lib.iterAt_heap wr x.w1.heap.size p pos (pos + 1) hit
              have hbw2 := Lib.below_iterAt hbw (k := x.w1.heap.size) (Nat.le_refl _) p (pos + 1)
              generalize wr.iterAt x.w1.heap.size p (pos + 1) = W1 at *
              generalize codeB (p[pos].toNat : Int) = cb at *
              have HI2 := Lib.hid hit2
              have HQ := Lib.hid hpos0
              have HB2 := Lib.hid hbw2
              clear hl hit hit2 hpos0 hbw hbw2 hu
              go_wp2_with (go_at_call 55; refine (HSG.out _).mono ?_; rintro e w' ⟨rfl, rfl⟩)
              refine ⟨⟨pos + 1, by omega, HI2.out, HB2.out, Lib.hid (fun j h hj => by
                by_cases e : j = pos
                · subst e; exact HU.out
                · exact hup.out j h (by omega))⟩, ?_⟩
              rw [iterPos_of HI2.out, HQ.out]
              omega
          · have hnx := fun ty => Lib.run_next_end_at (P := Tryd.prog) wr x.w1.heap.size p pos ty hit (by omega)
            clear hpos0 hit
            go_wp2
            go_roundw
            case rel => exact ⟨q + 1, ⟨wr, held_next x.below hbw⟩, by omega, by go_num, rfl, Lib.hid (fun j hj => by
              by_cases e : j = q
              · rw [e, HP.out]
                have e1 := HE.out
                rw [ByteArray.toList_eq] at e1
                rw [okW, e1]
                simp only [Bool.not_false, Bool.true_and]
                rw [List.all_eq_true]
                intro c hc
                rw [← Array.mem_def] at hc
                obtain ⟨i, hi, rfl⟩ := Array.mem_iff_getElem.1 hc
                exact hup.out i hi (by have : i < p.size := hi; omega)
              · exact hall.out j (by omega))⟩
            case measure => simp [intOf]; omega
    · obtain rfl : q = ps.length := by omega
      have HA : Hid (okText s = decide ((s.size : Int) ≤ 12)) := by
        refine Lib.hid ?_
        rw [HO.out, List.all_eq_true.2 (fun p hp => by
          obtain ⟨i, hi, rfl⟩ := List.getElem_of_mem hp
          have := hall.out i hi
          rw [List.getD_eq_getElem?_getD, List.getElem?_eq_getElem hi] at this
          exact this)]
        show (true && _) = _
        rw [Bool.true_and]
        by_cases h : s.size ≤ 12
        · rw [decide_eq_true h, decide_eq_true (by omega : (s.size : Int) ≤ 12)]
        · rw [decide_eq_false h, decide_eq_false (by omega : ¬ (s.size : Int) ≤ 12)]
      go_wp2_with (go_at_call 96; refine (Aft.same (fewS_c _ _ _)).mono ?_; rintro e _ ⟨rfl, y, rfl⟩)
      go_ret
      exact ⟨ret_bool HA.out.symm, held_next hbW (Aft.below _)⟩
end Go.Proofs.YtolijmldobncbaaDoor
