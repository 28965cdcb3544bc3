/- Reading a number in decimal form: the walks. -/
import Derived.Test.YtimfpnmcdicldaaDoorNumR
import Derived.Test.YtimfpnmcdicldaaDoorDoorE
import Derived.Shelf.LaysC
import Derived.Shelf.Strconv.ParseIntPublic10
import Derived.Shelf.Strings.Prefix
import Derived.Shelf.Lays
namespace Go.Proofs.YtimfpnmcdicldaaDoor
open Go Go.RowKit Go.Shelf
set_option maxRecDepth 100000 in
set_option maxHeartbeats 8000000 in
theorem l01Number_c (s : ByteArray) (hs : s.size ≤ 1048576) (w : World) :
    Calls Tryd.prog 49 #[.string s] w fun e w' => e = .returned (.tuple #[.int .i64 ((num s).getD 0), .bool (num s).isSome]) ∧ w = w' := by
  by_cases h0 : s.size = 0
  · have hv := num_empty (s := s) (by have := (signN_le s).2; omega)
    rw [hv]
    have hl : (s.size : Int) = 0 := by omega
    go_enter Tryd.func49, Tryd.ntmps49
    go_wp2
    go_ret2
    exact ⟨rfl, rfl⟩
  · have hpos : 0 < s.size := by omega
    have hpos2 : (0 : Int) < (s.size : Int) := by omega
    have hsg : (signN s = 1 ∧ (((s[0].toNat : Int)) == 45) = true) ∨ (signN s = 0 ∧ (((s[0].toNat : Int)) == 45) = false) := by
      by_cases h : s[0].toNat = 45
      · exact .inl ⟨sign_yes hpos h, by rw [h]; rfl⟩
      · exact .inr ⟨sign_no hpos h, by rw [beq_eq_false_iff_ne]; omega⟩
    have HB := Lib.hid (fun k hk h0 hb => num_bad (s := s) (k := k) hk h0 hb)
    have HE := Lib.hid (num_empty (s := s))
    have HL := Lib.hid (num_long (s := s))
    have HN := Lib.hid (num_naught (s := s))
    have HY1 := Lib.hid (fun hsg m h h18 h0 hd => num_end1 (s := s) (m := m) hsg h h18 h0 hd)
    have HY0 := Lib.hid (fun hsg m h h18 h0 hd => num_end0 (s := s) (m := m) hsg h h18 h0 hd)
    have HI0 := Lib.hid (nInv_start s)
    have HIS := Lib.hid (fun q m h hq h0 hb => nInv_step (s := s) (q := q) (m := m) h hq h0 hb)
    have HIL := Lib.hid (fun q m h h17 => nInv_lt17 (s := s) (q := q) (m := m) h h17)
    have HIL2 := Lib.hid (fun q m h h18 => nInv_lt (s := s) (q := q) (m := m) h h18)
    generalize num s = v at *
    rcases hsg with ⟨hsg, h45⟩ | ⟨hsg, h45⟩
    · have HY := Lib.hid (HY1.out hsg)
      clear HY0 HY1
      rw [hsg] at HB HE HL HN HI0 HIS HIL HIL2
      by_cases e1 : s.size = 1
      · have hv := HE.out e1
        have hl : ((s.size : Int) == 1) = true := by rw [e1]; rfl
        have hl2 : (s.size : Int) = 1 := by omega
        subst hv
        clear HB HE HL HN HY HI0 HIS HIL HIL2
        go_enter Tryd.func49, Tryd.ntmps49
        go_wp2
        go_ret2
        exact ⟨rfl, rfl⟩
      · have h1n : 1 < s.size := by omega
        have h1i : (1 : Int) < (s.size : Int) := by omega
        have hl : ((s.size : Int) == 1) = false := by rw [beq_eq_false_iff_ne]; omega
        by_cases e18 : 18 < s.size - 1
        · have hv := HL.out e18
          have hl18 : (18 : Int) < (s.size : Int) - 1 := by omega
          subst hv
          clear HB HE HL HN HY HI0 HIS HIL HIL2
          go_enter Tryd.func49, Tryd.ntmps49
          go_wp2
          go_ret2
          exact ⟨rfl, rfl⟩
        · have hl18 : ¬ (18 : Int) < (s.size : Int) - 1 := by omega
          by_cases e48 : s[1].toNat = 48
          · have hv := HN.out h1n e48 h1n
            have h48 : (((s[1].toNat : Int)) == 48) = true := by rw [e48]; rfl
            subst hv
            clear HB HE HL HN HY HI0 HIS HIL HIL2
            go_enter Tryd.func49, Tryd.ntmps49
            go_wp2
            go_ret2
            exact ⟨rfl, rfl⟩
          · have h48 : (((s[1].toNat : Int)) == 48) = false := by rw [beq_eq_false_iff_ne]; omega
            have HYm := Lib.hid (fun m hd => HY.out m h1n (by omega) e48 hd)
            clear e48 HE HL HN HY
            go_enter Tryd.func49, Tryd.ntmps49
            go_wp2
            go_loop [5, 6] (fun nv iv => ∃ q m : Nat, 1 ≤ q ∧ q ≤ s.size ∧ nv = .int .i64 m ∧ iv = .int .i64 q ∧ Hid (NInv s q m)) (fun _ iv => s.size - (intOf iv).toNat)
            case atStart => exact ⟨1, 0, by omega, by omega, rfl, rfl, HI0⟩
            case round =>
              obtain ⟨q, m, hq1, hq, rfl, rfl, hinv⟩ := hrel
              by_cases hlt : q < s.size
              · have hm := HIL.out q m hinv.out (by omega)
                cases v1 : inR (s[q].toNat : Int) 48 57
                · have hv := HB.out q hlt hq1 v1
                  have HV1 := Lib.hid v1
                  subst hv
                  clear v1
                  go_wp2_with (go_at_call 82; refine (l01Digit_c _ _ HV1.out _).mono ?_; rintro e _ ⟨rfl, rfl⟩)
                  go_ret2
                  exact ⟨rfl, rfl⟩
                · have hn' := Lib.hid (HIS.out q m hinv.out hlt hq1 v1)
                  have hd := inR_iff.1 v1
                  have HV1 := Lib.hid v1
                  clear v1 hinv
                  go_wp2_with (go_at_call 82; refine (l01Digit_c _ _ HV1.out _).mono ?_; rintro e _ ⟨rfl, rfl⟩)
                  go_round
                  case rel => exact ⟨q + 1, m * 10 + (s[q].toNat - 48), by omega, by omega, by congr 1; omega, by go_num, hn'⟩
                  case measure => simp [intOf]; omega
              · obtain rfl : q = s.size := by omega
                have hm := HIL2.out _ m hinv.out (by omega)
                have hv := HYm.out m hinv.out
                subst hv
                go_wp2
                go_ret2
                exact ⟨rfl, rfl⟩
    · have HY := Lib.hid (HY0.out hsg)
      clear HY0 HY1
      rw [hsg] at HB HE HL HN HI0 HIS HIL HIL2
      have hl : ((s.size : Int) == 0) = false := by rw [beq_eq_false_iff_ne]; omega
      by_cases e18 : 18 < s.size - 0
      · have hv := HL.out e18
        have hl18 : (18 : Int) < (s.size : Int) := by omega
        subst hv
        clear HB HE HL HN HY HI0 HIS HIL HIL2
        go_enter Tryd.func49, Tryd.ntmps49
        go_wp2
        go_ret2
        exact ⟨rfl, rfl⟩
      · have hl18 : ¬ (18 : Int) < (s.size : Int) := by omega
        by_cases e48 : s[0].toNat = 48 ∧ 1 < s.size
        · have hv := HN.out hpos e48.1 e48.2
          have h48 : (((s[0].toNat : Int)) == 48) = true := by rw [e48.1]; rfl
          have h1i : (1 : Int) < (s.size : Int) := by omega
          subst hv
          clear HB HE HL HN HY HI0 HIS HIL HIL2
          go_enter Tryd.func49, Tryd.ntmps49
          go_wp2
          go_ret2
          exact ⟨rfl, rfl⟩
        · have h48 : ((((s[0].toNat : Int)) == 48) = false) ∨ ((((s[0].toNat : Int)) == 48) = true ∧ ¬ (1 : Int) < (s.size : Int)) := by
            by_cases h : s[0].toNat = 48
            · right
              exact ⟨by rw [h]; rfl, by omega⟩
            · left
              rw [beq_eq_false_iff_ne]
              omega
          have HYm := Lib.hid (fun m hd => HY.out m hpos (by omega) e48 hd)
          clear e48 HE HL HN HY
          rcases h48 with h48 | ⟨h48, h1i⟩
          all_goals
            go_enter Tryd.func49, Tryd.ntmps49
            go_wp2
            go_loop [5, 6] (fun nv iv => ∃ q m : Nat, 0 ≤ q ∧ q ≤ s.size ∧ nv = .int .i64 m ∧ iv = .int .i64 q ∧ Hid (NInv s q m)) (fun _ iv => s.size - (intOf iv).toNat)
            case atStart => exact ⟨0, 0, by omega, by omega, rfl, rfl, HI0⟩
            case round =>
              obtain ⟨q, m, hq1, hq, rfl, rfl, hinv⟩ := hrel
              by_cases hlt : q < s.size
              · have hm := HIL.out q m hinv.out (by omega)
                cases v1 : inR (s[q].toNat : Int) 48 57
                · have hv := HB.out q hlt hq1 v1
                  have HV1 := Lib.hid v1
                  subst hv
                  clear v1
                  go_wp2_with (go_at_call 82; refine (l01Digit_c _ _ HV1.out _).mono ?_; rintro e _ ⟨rfl, rfl⟩)
                  go_ret2
                  exact ⟨rfl, rfl⟩
                · have hn' := Lib.hid (HIS.out q m hinv.out hlt hq1 v1)
                  have hd := inR_iff.1 v1
                  have HV1 := Lib.hid v1
                  clear v1 hinv
                  go_wp2_with (go_at_call 82; refine (l01Digit_c _ _ HV1.out _).mono ?_; rintro e _ ⟨rfl, rfl⟩)
                  go_round
                  case rel => exact ⟨q + 1, m * 10 + (s[q].toNat - 48), by omega, by omega, by congr 1; omega, by go_num, hn'⟩
                  case measure => simp [intOf]; omega
              · obtain rfl : q = s.size := by omega
                have hm := HIL2.out _ m hinv.out (by omega)
                have hv := HYm.out m hinv.out
                subst hv
                go_wp2
                go_ret2
                exact ⟨rfl, rfl⟩
def laysC174_ren : Go.Shelf.Ren := ⟨fun | 174 => 85 | 247 => 102 | 245 => 103 | 287 => 116 | 279 => 117 | 280 => 118 | 281 => 119 | 282 => 120 | 321 => 131 | 322 => 132 | 316 => 133 | 171 => 135 | 205 => 134 | 243 => 140 | 246 => 91 | 283 => 106 | 284 => 107 | 285 => 108 | 286 => 109 | 129 => 126 | 317 => 125 | 318 => 127 | 319 => 128 | 320 => 129 | 337 => 138 | 338 => 139 | n => n, fun | 9 => 9 | 3 => 3 | 2 => 2 | 75 => 105 | 85 => 111 | 4 => 4 | 167 => 135 | 5 => 5 | 53 => 122 | 175 => 136 | 46 => 138 | 168 => 139 | 37 => 100 | 0 => 0 | 210 => 152 | 21 => 21 | 127 => 116 | 145 => 163 | 143 => 161 | 171 => 121 | 173 => 125 | 212 => 144 | 51 => 145 | 20 => 20 | 213 => 146 | 232 => 164 | 233 => 165 | 80 => 108 | n => n, fun | 15 => 2 | 16 => 3 | 17 => 1 | 18 => 6 | 19 => 7 | n => n⟩
theorem laysC174 : LaysC.n174 Tryd.prog laysC174_ren where
  mixed := by kernel_rfl
  f129 := Tryd.func126.trans (congrArg some (by kernel_rfl))
  f171 := Tryd.func135.trans (congrArg some (by kernel_rfl))
  f174 := Tryd.func85.trans (congrArg some (by kernel_rfl))
  f205 := Tryd.func134.trans (congrArg some (by kernel_rfl))
  f243 := Tryd.func140.trans (congrArg some (by kernel_rfl))
  f245 := Tryd.func103.trans (congrArg some (by kernel_rfl))
  f246 := Tryd.func91.trans (congrArg some (by kernel_rfl))
  f247 := Tryd.func102.trans (congrArg some (by kernel_rfl))
  f279 := Tryd.func117.trans (congrArg some (by kernel_rfl))
  f280 := Tryd.func118.trans (congrArg some (by kernel_rfl))
  f281 := Tryd.func119.trans (congrArg some (by kernel_rfl))
  f282 := Tryd.func120.trans (congrArg some (by kernel_rfl))
  f283 := Tryd.func106.trans (congrArg some (by kernel_rfl))
  f284 := Tryd.func107.trans (congrArg some (by kernel_rfl))
  f285 := Tryd.func108.trans (congrArg some (by kernel_rfl))
  f286 := Tryd.func109.trans (congrArg some (by kernel_rfl))
  f287 := Tryd.func116.trans (congrArg some (by kernel_rfl))
  f316 := Tryd.func133.trans (congrArg some (by kernel_rfl))
  f317 := Tryd.func125.trans (congrArg some (by kernel_rfl))
  f318 := Tryd.func127.trans (congrArg some (by kernel_rfl))
  f319 := Tryd.func128.trans (congrArg some (by kernel_rfl))
  f320 := Tryd.func129.trans (congrArg some (by kernel_rfl))
  f321 := Tryd.func131.trans (congrArg some (by kernel_rfl))
  f322 := Tryd.func132.trans (congrArg some (by kernel_rfl))
  f337 := Tryd.func138.trans (congrArg some (by kernel_rfl))
  f338 := Tryd.func139.trans (congrArg some (by kernel_rfl))
  t0 := Tryd.underlying0
  a0 := Tryd.isAgg0
  z0 := Tryd.sizeOf0
  v0 := Tryd.zeroValue0
  t2 := Tryd.underlying2
  a2 := Tryd.isAgg2
  z2 := Tryd.sizeOf2
  v2 := Tryd.zeroValue2
  t3 := Tryd.underlying3
  a3 := Tryd.isAgg3
  z3 := Tryd.sizeOf3
  v3 := Tryd.zeroValue3
  t4 := Tryd.underlying4
  a4 := Tryd.isAgg4
  z4 := Tryd.sizeOf4
  v4 := Tryd.zeroValue4
  t5 := Tryd.underlying5
  a5 := Tryd.isAgg5
  z5 := Tryd.sizeOf5
  v5 := Tryd.zeroValue5
  t9 := Tryd.underlying9
  a9 := Tryd.isAgg9
  z9 := Tryd.sizeOf9
  v9 := Tryd.zeroValue9
  t20 := Tryd.underlying20
  a20 := Tryd.isAgg20
  z20 := Tryd.sizeOf20
  v20 := Tryd.zeroValue20
  t21 := Tryd.underlying21
  a21 := Tryd.isAgg21
  z21 := Tryd.sizeOf21
  v21 := Tryd.zeroValue21
  t37 := Tryd.underlying100
  a37 := Tryd.isAgg100
  z37 := Tryd.sizeOf100
  v37 := Tryd.zeroValue100
  t46 := Tryd.underlying138
  a46 := Tryd.isAgg138
  z46 := Tryd.sizeOf138
  v46 := Tryd.zeroValue138
  t51 := Tryd.underlying145
  a51 := Tryd.isAgg145
  z51 := Tryd.sizeOf145
  v51 := Tryd.zeroValue145
  t53 := Tryd.underlying122
  a53 := Tryd.isAgg122
  z53 := Tryd.sizeOf122
  v53 := Tryd.zeroValue122
  t75 := Tryd.underlying105
  a75 := Tryd.isAgg105
  z75 := Tryd.sizeOf105
  v75 := Tryd.zeroValue105
  t85 := Tryd.underlying111
  a85 := Tryd.isAgg111
  z85 := Tryd.sizeOf111
  v85 := Tryd.zeroValue111
  t127 := Tryd.underlying116
  a127 := Tryd.isAgg116
  z127 := Tryd.sizeOf116
  v127 := Tryd.zeroValue116
  t143 := Tryd.underlying161
  a143 := Tryd.isAgg161
  z143 := Tryd.sizeOf161
  v143 := Tryd.zeroValue161
  t145 := Tryd.underlying163
  a145 := Tryd.isAgg163
  z145 := Tryd.sizeOf163
  v145 := Tryd.zeroValue163
  t167 := Tryd.underlying135
  a167 := Tryd.isAgg135
  z167 := Tryd.sizeOf135
  v167 := Tryd.zeroValue135
  t168 := Tryd.underlying139
  a168 := Tryd.isAgg139
  z168 := Tryd.sizeOf139
  v168 := Tryd.zeroValue139
  t171 := Tryd.underlying121
  a171 := Tryd.isAgg121
  z171 := Tryd.sizeOf121
  v171 := Tryd.zeroValue121
  t173 := Tryd.underlying125
  a173 := Tryd.isAgg125
  z173 := Tryd.sizeOf125
  v173 := Tryd.zeroValue125
  t175 := Tryd.underlying136
  a175 := Tryd.isAgg136
  z175 := Tryd.sizeOf136
  v175 := Tryd.zeroValue136
  t210 := Tryd.underlying152
  a210 := Tryd.isAgg152
  z210 := Tryd.sizeOf152
  v210 := Tryd.zeroValue152
  t212 := Tryd.underlying144
  a212 := Tryd.isAgg144
  z212 := Tryd.sizeOf144
  v212 := Tryd.zeroValue144
  t213 := Tryd.underlying146
  a213 := Tryd.isAgg146
  z213 := Tryd.sizeOf146
  t232 := Tryd.underlying164
  a232 := Tryd.isAgg164
  z232 := Tryd.sizeOf164
  v232 := Tryd.zeroValue164
  t233 := Tryd.underlying165
  a233 := Tryd.isAgg165
  z233 := Tryd.sizeOf165
  v233 := Tryd.zeroValue165
  g15 := by kernel_rfl
  g16 := by kernel_rfl
  g17 := by kernel_rfl
  g18 := by kernel_rfl
  g19 := by kernel_rfl
  t80 := Tryd.underlying108
  a80 := Tryd.isAgg108
  z80 := Tryd.sizeOf108
  v80 := Tryd.zeroValue108
  i0 := by kernel_rfl
  i2 := by kernel_rfl
  i3 := by kernel_rfl
  i4 := by kernel_rfl
  i5 := by kernel_rfl
  i9 := by kernel_rfl
  i20 := by kernel_rfl
  i21 := by kernel_rfl
  i37 := by kernel_rfl
  i46 := by kernel_rfl
  i51 := by kernel_rfl
  i53 := by kernel_rfl
  i75 := by kernel_rfl
  i80 := by kernel_rfl
  i85 := by kernel_rfl
  i127 := by kernel_rfl
  i143 := by kernel_rfl
  i145 := by kernel_rfl
  i167 := by kernel_rfl
  i168 := by kernel_rfl
  i171 := by kernel_rfl
  i173 := by kernel_rfl
  i175 := by kernel_rfl
  i210 := by kernel_rfl
  i212 := by kernel_rfl
  i232 := by kernel_rfl
  i233 := by kernel_rfl
  m15 := by kernel_rfl
  m16 := by kernel_rfl
  m17 := by kernel_rfl
  m18 := by kernel_rfl
  m19 := by kernel_rfl
  c0 := by kernel_rfl
  c2 := by kernel_rfl
  c3 := by kernel_rfl
  c4 := by kernel_rfl
  c5 := by kernel_rfl
  c9 := by kernel_rfl
  c20 := by kernel_rfl
  c21 := by kernel_rfl
  c37 := by kernel_rfl
  c46 := by kernel_rfl
  c51 := by kernel_rfl
  c53 := by kernel_rfl
  c75 := by kernel_rfl
  c80 := by kernel_rfl
  c85 := by kernel_rfl
  c127 := by kernel_rfl
  c143 := by kernel_rfl
  c145 := by kernel_rfl
  c167 := by kernel_rfl
  c168 := by kernel_rfl
  c171 := by kernel_rfl
  c173 := by kernel_rfl
  c175 := by kernel_rfl
  c210 := by kernel_rfl
  c212 := by kernel_rfl
  c213 := by kernel_rfl
  c232 := by kernel_rfl
  c233 := by kernel_rfl
def lays101_ren : Go.Shelf.Ren := ⟨fun | 101 => 84 | 208 => 101 | 206 => 115 | n => n, fun | 9 => 9 | 4 => 4 | 3 => 3 | n => n, fun  | n => n⟩
theorem lays101 : Lays.n101 Tryd.prog lays101_ren where
  mixed := by kernel_rfl
  f101 := Tryd.func84.trans (congrArg some (by kernel_rfl))
  f206 := Tryd.func115.trans (congrArg some (by kernel_rfl))
  f208 := Tryd.func101.trans (congrArg some (by kernel_rfl))
  t3 := Tryd.underlying3
  a3 := Tryd.isAgg3
  z3 := Tryd.sizeOf3
  v3 := Tryd.zeroValue3
  t4 := Tryd.underlying4
  a4 := Tryd.isAgg4
  z4 := Tryd.sizeOf4
  v4 := Tryd.zeroValue4
  t9 := Tryd.underlying9
  a9 := Tryd.isAgg9
  z9 := Tryd.sizeOf9
  v9 := Tryd.zeroValue9
theorem trim_len (l : List UInt8) : (Lib.trimPrefix l [45]).length = (bodyL l).length := by
  unfold Lib.trimPrefix bodyL
  cases l with
  | nil => simp [Lib.hasPrefix]
  | cons a t =>
    by_cases h : a = 45
    · subst h
      simp [Lib.hasPrefix]
    · have h' : ¬ 45 = a := fun e => h e.symm
      simp [Lib.hasPrefix, h, h']
theorem num_none_parse {s : ByteArray} (hs : (bodyL s.data.toList).length ≤ 18) (h : ∀ n, Lib.parseIntB 64 s.data.toList = .ok n → Lib.itoa n = s.data.toList → False) : num s = none := by
  cases hn : num s with
  | none => rfl
  | some n =>
    have := (parse_num hs).2 hn
    exact (h n this.1 this.2).elim
set_option maxRecDepth 100000 in
set_option maxHeartbeats 8000000 in
theorem readDecimal_c (s : ByteArray) (hs : s.size ≤ 1048576) (w : World) (hT : Pows w) (hE : Errs w) :
    Calls Tryd.prog 53 #[.string s] w fun e w' => e = .returned (.tuple #[.int .i64 ((num s).getD 0), .bool (num s).isSome]) ∧ Below w.heap.size w w' := by
  have HT := Lib.hid (fun W => (Any.strings_TrimPrefix lays101 s (⟨#[45]⟩ : ByteArray) W).mono fun _ _ h => (⟨h.1, h.2.symm⟩ : _ ∧ W = _))
  have hlen : (⟨(Lib.trimPrefix s.data.toList ((⟨#[45]⟩ : ByteArray)).data.toList).toArray⟩ : ByteArray).size = s.size - signN s := by
    show (Lib.trimPrefix s.data.toList [45]).toArray.size = _
    rw [List.size_toArray, trim_len, body_size]
  generalize (⟨(Lib.trimPrefix s.data.toList ((⟨#[45]⟩ : ByteArray)).data.toList).toArray⟩ : ByteArray) = tp at *
  by_cases h18 : 18 < s.size - signN s
  · rw [num_long h18]
    have hlt : ((tp.size : Int)) > 18 := by omega
    go_enter Tryd.func53, Tryd.ntmps53
    go_wp2_with fail
    refine (HT.out _).mono ?_
    rintro e _ ⟨rfl, rfl⟩
    go_wp2
    go_ret2
    exact ⟨rfl, Below.refl _ _⟩
  · have hbl : (bodyL s.data.toList).length ≤ 18 := by rw [body_size]; omega
    have hlt : ¬ ((tp.size : Int)) > 18 := by omega
    obtain ⟨⟨te, pe, hv1⟩, te2, pe2, hv2⟩ := hE
    cases hp : Lib.parseIntB 64 s.data.toList with
    | ok v =>
      have hbd := Lib.parseIntB_bounds hp
      have e63 : (2 : Nat) ^ (64 - 1) = 9223372036854775808 := by decide
      rw [e63] at hbd
      have HP := Lib.hid (Any.strconv_ParseInt_10_at64_ok laysC174 s (by omega) v hp w)
      have HD := Lib.hid (fun W hW => decimal_c v (by omega) (by omega) W hW)
      have hdec : (Lib.itoa v = s.data.toList ∧ ((dec v).toList == s.toList) = true ∧ num s = some v) ∨ (((dec v).toList == s.toList) = false ∧ num s = none) := by
        by_cases he : Lib.itoa v = s.data.toList
        · left
          refine ⟨he, ?_, (parse_num hbl).1 ⟨hp, he⟩⟩
          rw [ByteArray.toList_eq, ByteArray.toList_eq, dec, he]
          simp
        · right
          refine ⟨?_, num_none_parse hbl (fun n h1 h2 => ?_)⟩
          · rw [ByteArray.toList_eq, ByteArray.toList_eq, dec, beq_eq_false_iff_ne]
            intro h
            exact he (by simpa using h)
          · rw [hp] at h1
            injection h1 with h1
            exact he (h1 ▸ h2)
      generalize dec v = d at *
      clear hp hbl hbd
      rcases hdec with ⟨_, hd, hnum⟩ | ⟨hd, hnum⟩
      all_goals
        rw [hnum]
        clear hnum
        go_enter Tryd.func53, Tryd.ntmps53
        go_wp2_with fail
        refine (HT.out _).mono ?_
        rintro e _ ⟨rfl, rfl⟩
        go_wp2_with fail
        refine HP.out.mono ?_
        rintro e w2 ⟨rfl, hw2⟩
        have hb2 : Below w.heap.size w w2 := by
          rcases hw2 with rfl | ⟨t, rfl⟩
          · exact Below.refl _ _
          · exact Lib.bytesWorld_below _ _ _
        have hT2 := hT.below hb2
        clear hw2
        go_wp2_with (go_at_call 33; refine (HD.out _ hT2).mono ?_; rintro e w3 ⟨rfl, hb3⟩)
        go_ret2
        exact ⟨rfl, held_next hb2 hb3⟩
    | «syntax» =>
      rw [num_none_parse hbl (fun n h1 _ => by rw [hp] at h1; cases h1)]
      have HP := Lib.hid (Any.strconv_ParseInt_10_at64_syntax laysC174 s (by omega) hp _ w hv1 (.inr ⟨_, _, rfl⟩))
      clear hp hbl
      go_enter Tryd.func53, Tryd.ntmps53
      go_wp2_with fail
      refine (HT.out _).mono ?_
      rintro e _ ⟨rfl, rfl⟩
      go_wp2_with fail
      refine HP.out.mono ?_
      rintro e w2 ⟨NN, rfl, _, _, hb2⟩
      go_wp2
      go_ret2
      exact ⟨rfl, hb2⟩
    | range =>
      rw [num_none_parse hbl (fun n h1 _ => by rw [hp] at h1; cases h1)]
      have HP := Lib.hid (Any.strconv_ParseInt_10_at64_range laysC174 s (by omega) hp _ w hv2 (.inr ⟨_, _, rfl⟩))
      clear hp hbl
      go_enter Tryd.func53, Tryd.ntmps53
      go_wp2_with fail
      refine (HT.out _).mono ?_
      rintro e _ ⟨rfl, rfl⟩
      go_wp2_with fail
      refine HP.out.mono ?_
      rintro e w2 ⟨NN, rfl, _, _, hb2⟩
      go_wp2
      go_ret2
      exact ⟨rfl, hb2⟩
end Go.Proofs.YtimfpnmcdicldaaDoor
