/- The program's SendText answers as the reference's, for all arguments, and keeps nothing of what it hands out, where the listed tables of Go's library hold what its text lays (the card ties them). -/
import Derived.Test.YtolijmldobncbaaDoorSendB
import Derived.Test.YtolijmldobncbaaDoorMarkPh
namespace Go.Proofs.YtolijmldobncbaaDoor
open Go Go.RowKit Go.Shelf
set_option maxHeartbeats 1000000 in
theorem l05Color_c (s : ByteArray) (v : Bool) (hv : isC s = v) (w : World) :
    Calls Tryd.prog 61 #[.string s] w fun e w' => e = .returned (.bool v) ∧ w = w' := by
  subst hv
  have hE : isC s = (s.toList == [87] || s.toList == [82] || s.toList == [71] || s.toList == [89]) := by rw [isC_eq]; simp only [ByteArray.toList_eq]
  rw [hE]
  clear hE
  cases h1 : (s.toList == [87])
  · cases h2 : (s.toList == [82])
    · cases h3 : (s.toList == [71])
      · go_enter Tryd.func61, Tryd.ntmps61
        go_wp2
        go_ret
        exact ⟨ret_bool (by simp), rfl⟩
      · go_enter Tryd.func61, Tryd.ntmps61
        go_wp2
        go_ret
        exact ⟨ret_bool (by simp), rfl⟩
    · go_enter Tryd.func61, Tryd.ntmps61
      go_wp2
      go_ret
      exact ⟨ret_bool (by simp), rfl⟩
  · go_enter Tryd.func61, Tryd.ntmps61
    go_wp2
    go_ret
    exact ⟨ret_bool (by simp), rfl⟩
theorem l07Unit_c (n : Int) (v : Bool) (hv : inR n 1 50 = v) (w : World) :
    Calls Tryd.prog 62 #[.int .i64 n] w fun e w' => e = .returned (.bool v) ∧ w = w' := by
  subst hv
  go_enter Tryd.func62, Tryd.ntmps62
  go_wp2_with (go_at_call 77; refine (l00In_c _ _ _ _).mono ?_; rintro e w' ⟨rfl, rfl⟩)
  go_ret
  exact ⟨rfl, rfl⟩
def sendL (s color : ByteArray) (unit : Int) : List (ByteArray × Int) := if okText s = true ∧ isC color = true ∧ inR unit 1 50 = true then (sendTo s color unit s.size).1 else []
def sendCode (s color : ByteArray) (unit : Int) : Int := if okText s = true ∧ isC color = true then (if inR unit 1 50 = true then 0 else 2) else 1
theorem sendL_len (s color : ByteArray) (unit : Int) : (sendL s color unit).length ≤ 96 := by
  unfold sendL
  split
  · rename_i h
    have h1 := sendTo_len s color unit s.size (Nat.le_refl _)
    have h2 := (okText_parts h.1).2.1
    omega
  · simp
theorem phs_at : ∀ (L : List (ByteArray × Int)) (i j : Nat), i < L.length → j < 2 → (phs L)[i * 2 + j]? = some (vPhase (fun i => (L.getD i (⟨#[]⟩, 0)).1) (fun i => (L.getD i (⟨#[]⟩, 0)).2) i j)
  | [], i, j, hi, _ => by simp at hi
  | p :: L, 0, j, _, hj => by
    have e : phs (p :: L) = [Value.string p.1, Value.int .i64 p.2] ++ phs L := by simp [phs]
    have hj : j = 0 ∨ j = 1 := by omega
    rcases hj with rfl | rfl <;> simp [e, vPhase]
  | p :: L, i + 1, j, hi, hj => by
    have e : phs (p :: L) = [Value.string p.1, Value.int .i64 p.2] ++ phs L := by simp [phs]
    rw [e, List.getElem?_append_right (by simp; omega)]
    have h := phs_at L i j (by simpa using hi) hj
    have e2 : (i + 1) * 2 + j - [Value.string p.1, Value.int .i64 p.2].length = i * 2 + j := by simp; omega
    rw [e2, h]
    simp [vPhase]
def SendPost (L : List (ByteArray × Int)) (code : Int) (w : World) (e : Ending) (w' : World) : Prop :=
  ∃ A cap, e = .returned (.tuple #[.slice A L.length cap, .int .i64 code]) ∧ SO w' w.heap.size 70 2 (.slice A L.length cap) L.length (vPhase (fun i => (L.getD i (⟨#[]⟩, 0)).1) (fun i => (L.getD i (⟨#[]⟩, 0)).2)) ∧ Below w.heap.size w w'
theorem send_post {L : List (ByteArray × Int)} {code : Int} {w w' : World} {v : Value} {e : Ending} (he : e = .returned (.tuple #[v, .int .i64 code])) (h : w'.ownsRow w.heap.size 70 2 v L.length (phs L)) (hb : Below w.heap.size w w') : SendPost L code w e w' := by
  have hs : SO w' w.heap.size 70 2 v L.length (vPhase (fun i => (L.getD i (⟨#[]⟩, 0)).1) (fun i => (L.getD i (⟨#[]⟩, 0)).2)) := ⟨_, h, fun i hi j hj => phs_at L i j hi hj⟩
  obtain ⟨A, cap, rfl⟩ := hs.form
  exact ⟨A, cap, he, hs, hb⟩
set_option maxHeartbeats 4000000 in
theorem specSend_c (s color : ByteArray) (unit : Int) (hs : s.size ≤ maxLen) (w : World) :
    Calls Tryd.prog 30 #[.string s, .string color, .int .i64 unit] w (SendPost (sendL s color unit) (sendCode s color unit) w) := by
  have HT := Lib.hid (fun W => l07Text_c s hs W)
  have HCol := Lib.hid (fun W => l05Color_c color _ rfl W)
  have HUn := Lib.hid (fun W => l07Unit_c unit _ rfl W)
  by_cases h1 : okText s = true ∧ isC color = true
  · by_cases h2 : inR unit 1 50 = true
    · have hu := inR_iff.1 h2
      have HS := Lib.hid (fun W => l07Send_c s color unit hu.1 hu.2 h1.1 W)
      have HL := Lib.hid (show sendL s color unit = (sendTo s color unit s.size).1 from if_pos ⟨h1.1, h1.2, h2⟩)
      have HCo := Lib.hid (show sendCode s color unit = 0 by unfold sendCode; rw [if_pos h1, if_pos h2])
      rw [h1.1] at HT
      rw [h1.2] at HCol
      rw [h2] at HUn
      clear h1 h2 hu
      go_enter Tryd.func30, Tryd.ntmps30
      go_wp2_with (first
        | (go_at_call 59; refine (HT.out _).mono ?_; rintro e w' ⟨rfl, rfl⟩)
        | (go_at_call 61; refine (HCol.out _).mono ?_; rintro e w' ⟨rfl, rfl⟩)
        | (go_at_call 62; refine (HUn.out _).mono ?_; rintro e w' ⟨rfl, rfl⟩))
      refine (HS.out _).mono ?_
      rintro e w2 ⟨v, rfl, hown, hb2⟩
      have HO := Lib.hid hown
      clear hown
      go_wp2
      go_ret2
      rw [HL.out, HCo.out]
      exact send_post rfl HO.out hb2
    · have h2' : inR unit 1 50 = false := by simpa using h2
      have HL := Lib.hid (show sendL s color unit = [] from if_neg (fun h => h2 h.2.2))
      have HCo := Lib.hid (show sendCode s color unit = 2 by unfold sendCode; rw [if_pos h1, if_neg h2])
      rw [h1.1] at HT
      rw [h1.2] at HCol
      rw [h2'] at HUn
      clear h1 h2 h2'
      go_enter Tryd.func30, Tryd.ntmps30
      go_wp2_with (first
        | (go_at_call 59; refine (HT.out _).mono ?_; rintro e w' ⟨rfl, rfl⟩)
        | (go_at_call 61; refine (HCol.out _).mono ?_; rintro e w' ⟨rfl, rfl⟩)
        | (go_at_call 62; refine (HUn.out _).mono ?_; rintro e w' ⟨rfl, rfl⟩))
      go_ret2
      rw [HL.out, HCo.out]
      exact ⟨none, 0, rfl, SO.nil, (by repeat (first | exact Below.refl _ _ | refine Below.alloc ?_ (by simp; try omega) _ | refine Below.drew ?_))⟩
  · have HL := Lib.hid (show sendL s color unit = [] from if_neg (fun h => h1 ⟨h.1, h.2.1⟩))
    have HCo := Lib.hid (show sendCode s color unit = 1 from if_neg h1)
    cases hk : okText s
    · rw [hk] at HT
      clear h1
      go_enter Tryd.func30, Tryd.ntmps30
      go_wp2_with (go_at_call 59; refine (HT.out _).mono ?_; rintro e w' ⟨rfl, rfl⟩)
      go_ret2
      rw [HL.out, HCo.out]
      exact ⟨none, 0, rfl, SO.nil, (by repeat (first | exact Below.refl _ _ | refine Below.alloc ?_ (by simp; try omega) _ | refine Below.drew ?_))⟩
    · have hc : isC color = false := by
        cases h : isC color
        · rfl
        · exact absurd ⟨hk, h⟩ h1
      rw [hk] at HT
      rw [hc] at HCol
      clear h1 hk hc
      go_enter Tryd.func30, Tryd.ntmps30
      go_wp2_with (first
        | (go_at_call 59; refine (HT.out _).mono ?_; rintro e w' ⟨rfl, rfl⟩)
        | (go_at_call 61; refine (HCol.out _).mono ?_; rintro e w' ⟨rfl, rfl⟩))
      go_ret2
      rw [HL.out, HCo.out]
      exact ⟨none, 0, rfl, SO.nil, (by repeat (first | exact Below.refl _ _ | refine Below.alloc ?_ (by simp; try omega) _ | refine Below.drew ?_))⟩
set_option maxHeartbeats 4000000 in
theorem implSend_c (s color : ByteArray) (unit : Int) (hs : s.size ≤ 1048576) (hcz0 : (color.size : Int) ≤ 9223372036854775807) (w : World) (hM : MaxL w) :
    Calls Tryd.prog 31 #[.string s, .string color, .int .i64 unit] w (SendPost (sendL s color unit) (sendCode s color unit) w) := by
  by_cases h1 : okText s = true ∧ isC color = true
  · by_cases h2 : inR unit 1 50 = true
    · have hu := inR_iff.1 h2
      have HL : sendL s color unit = (sendTo s color unit s.size).1 := if_pos ⟨h1.1, h1.2, h2⟩
      have HCo : sendCode s color unit = 0 := by unfold sendCode; rw [if_pos h1, if_pos h2]
      rw [HL, HCo]
      exact (implSend_good s color unit hs hcz0 h1.1 h1.2 hu.1 hu.2 w hM).mono fun e w' ⟨v, he, ho, hb⟩ => send_post he ho hb
    · have h2' : inR unit 1 50 = false := by simpa using h2
      have HL := Lib.hid (show sendL s color unit = [] from if_neg (fun h => h2 h.2.2))
      have HCo := Lib.hid (show sendCode s color unit = 2 by unfold sendCode; rw [if_pos h1, if_neg h2])
      have HT := Lib.hid (canSend_c s hs w hM)
      have HCol := Lib.hid (fun W => isColor_c color hcz0 true h1.2 W)
      have HUn := Lib.hid (fun W => isUnit_c unit false h2' W)
      rw [h1.1] at HT
      clear h1 h2 h2'
      go_enter Tryd.func31, Tryd.ntmps31
      go_wp2_with fail
      refine HT.out.mono ?_
      rintro e w1 ⟨rfl, hb1⟩
      go_wp2_with (first
        | (go_at_call 64; refine (HCol.out _).mono ?_; rintro e w' ⟨rfl, rfl⟩)
        | (go_at_call 65; refine (HUn.out _).mono ?_; rintro e w' ⟨rfl, rfl⟩))
      go_ret2
      rw [HL.out, HCo.out]
      exact ⟨none, 0, rfl, SO.nil, hb1⟩
  · have HL := Lib.hid (show sendL s color unit = [] from if_neg (fun h => h1 ⟨h.1, h.2.1⟩))
    have HCo := Lib.hid (show sendCode s color unit = 1 from if_neg h1)
    have HT := Lib.hid (canSend_c s hs w hM)
    cases hk : okText s
    · rw [hk] at HT
      clear h1
      go_enter Tryd.func31, Tryd.ntmps31
      go_wp2_with fail
      refine HT.out.mono ?_
      rintro e w1 ⟨rfl, hb1⟩
      go_wp2
      go_ret2
      rw [HL.out, HCo.out]
      exact ⟨none, 0, rfl, SO.nil, hb1⟩
    · have hc : isC color = false := by
        cases h : isC color
        · rfl
        · exact absurd ⟨hk, h⟩ h1
      have HCol := Lib.hid (fun W => isColor_c color hcz0 false hc W)
      rw [hk] at HT
      clear h1 hk hc
      go_enter Tryd.func31, Tryd.ntmps31
      go_wp2_with fail
      refine HT.out.mono ?_
      rintro e w1 ⟨rfl, hb1⟩
      go_wp2_with (go_at_call 64; refine (HCol.out _).mono ?_; rintro e w' ⟨rfl, rfl⟩)
      go_ret2
      rw [HL.out, HCo.out]
      exact ⟨none, 0, rfl, SO.nil, hb1⟩
set_option maxRecDepth 100000 in
set_option maxHeartbeats 8000000 in
theorem fnExactSendText_walk {w : World} (s : ByteArray) (hs : s.size ≤ maxLen) (color : ByteArray) (hcz : color.size ≤ maxLen) (unit : Int) (_wu : (Lit.int .i64 unit).wf = true) (hM : MaxL w) :
    Calls Tryd.prog 9 #[.string s, .string color, .int .i64 unit] w fun e w' => e = .returned (.bool true) ∧ Below w.heap.size w w' := by
  clear _wu
  have HM := Lib.hid hs
  unfold maxLen at hs hcz
  by_cases l1 : 1048576 < (s.size : Int)
  · go_enter Tryd.func9, Tryd.ntmps9
    go_wp2
    go_ret
    exact ⟨rfl, Below.refl _ _⟩
  by_cases l2 : 1048576 < (color.size : Int)
  · go_enter Tryd.func9, Tryd.ntmps9
    go_wp2
    go_ret
    exact ⟨rfl, Below.refl _ _⟩
  have HP := Lib.hid (fun W => specSend_c s color unit HM.out W)
  have HI := Lib.hid (fun W hW => implSend_c s color unit (by omega) (by omega) W hW)
  have hnn : (sendL s color unit).length ≤ 1048576 := by have := sendL_len s color unit; omega
  have hn96 : ((sendL s color unit).length : Int) ≤ 96 := by have := sendL_len s color unit; omega
  generalize sendCode s color unit = code at *
  unfold SendPost at HP HI
  generalize sendL s color unit = L at *
  generalize hX : (fun i => (L.getD i (⟨#[]⟩, 0)).1) = X at *
  generalize hY : (fun i => (L.getD i (⟨#[]⟩, 0)).2) = Y at *
  clear hX hY
  go_enter Tryd.func9, Tryd.ntmps9
  go_wp2_with fail
  refine (HP.out _).mono ?_
  rintro e w3 ⟨A3, c3, rfl, R3, b3⟩
  have HM3 := Lib.hid (hM.below b3)
  have R3 := Lib.hid R3.rec
  go_wp2_with fail
  refine (HI.out _ HM3.out).mono ?_
  rintro e w4 ⟨A4, c4, rfl, R4, b4⟩
  obtain ⟨y4, rfl⟩ : ∃ y : Aft w3, w4 = y.w1 := ⟨⟨w4, b4⟩, rfl⟩
  have R4 := Lib.hid R4
  have RW : Hid (∀ y : Aft w3, Rec 2 y.w1 _ _ _) := Lib.hid (fun y : Aft w3 => R3.out.aft y)
  go_wp2_with fail
  refine (eqPhaseS_same _ _ L.length _ _ X Y _ hnn R4.out.rec (RW.out y4)).mono ?_
  rintro e w5 ⟨rfl, b5⟩
  have R5 := Lib.hid (R4.out.below b5)
  obtain ⟨y5, rfl⟩ : ∃ y : Aft w3, w5 = y.w1 := ⟨⟨w5, held_next y4.below b5⟩, rfl⟩
  clear R4
  go_wp2_with fail
  refine (markPhaseS_c _ L.length _ 1 w3.heap.size _ _ hnn (by omega) (by omega) R5.out y5.below.size).mono ?_
  rintro e w6 ⟨rfl, b6, R6⟩
  obtain ⟨y6, rfl⟩ : ∃ y : Aft w3, w6 = y.w1 := ⟨⟨w6, y5.below.trans b6⟩, rfl⟩
  have R6 := Lib.hid R6
  clear R5
  go_wp2_with fail
  refine (heldPhaseS_c _ L.length _ 1 _ hnn (by omega) (by omega) R6.out.rec).mono ?_
  rintro e w7 ⟨rfl, b7⟩
  have R7 := Lib.hid (R6.out.below b7)
  obtain ⟨y7, rfl⟩ : ∃ y : Aft w3, w7 = y.w1 := ⟨⟨w7, held_next y6.below b7⟩, rfl⟩
  clear R6
  have HM7 := Lib.hid (HM3.out.below y7.below)
  go_wp2_with fail
  refine (HI.out _ HM7.out).mono ?_
  rintro e w8 ⟨A8, c8, rfl, R8, b8⟩
  have R8 := Lib.hid R8
  have R9 := Lib.hid (R7.out.below b8)
  obtain ⟨y8, rfl⟩ : ∃ y : Aft w3, w8 = y.w1 := ⟨⟨w8, held_next y7.below b8⟩, rfl⟩
  clear R7
  go_wp2_with fail
  refine (eqPhaseS_same _ _ L.length _ _ X Y _ hnn R8.out.rec (RW.out y8)).mono ?_
  rintro e w9 ⟨rfl, b9⟩
  have R10 := Lib.hid (R9.out.below b9)
  obtain ⟨y9, rfl⟩ : ∃ y : Aft w3, w9 = y.w1 := ⟨⟨w9, held_next y8.below b9⟩, rfl⟩
  clear R8 R9
  go_wp2_with fail
  refine (heldPhaseS_c _ L.length _ 1 _ hnn (by omega) (by omega) R10.out.rec).mono ?_
  rintro e w10 ⟨rfl, b10⟩
  go_wp2
  go_ret
  exact ⟨rfl, held_next b3 (held_next y9.below b10)⟩
namespace fnExactSendTextDone
open Go.ChangeShapes Go.WideShapes Go.ChangeAt Go.RowKit Go.Joins
open Go.ChangeMaps (open_string shut_string)
set_option maxRecDepth 100000 in
theorem lifted (os : Os) (started : os.Started) (H : Type) (enc : TypeId × Value → H) :
    ReturnsInHanded {} Tryd.checked os 9 .any (fun w args => (Rows.fnExactSendTextSpec.pre enc Tryd.prog Tryd.f9 Rows.fnExactSendTextRow.domain false w args ∧ laidMetH Tryd.prog Rows.fnExactSendTextRow.laid w) ∧ sizedMet enc Tryd.prog Tryd.f9 (OpenSpec.ofChange Rows.fnExactSendTextSpec) false w args)
      (Rows.fnExactSendTextSpec.post enc Tryd.prog Tryd.f9 false true false false) := by
  refine returnsAndShaped (C := Tryd.checked) (X := fun w _ => laidMetH Tryd.prog Rows.fnExactSendTextRow.laid w) (fun _ _ _ hh h => h.of_heap hh) lawOwn started (by kernel_rfl) Tryd.func9
    (ChangeSpec.witness_shaped (enc := enc) (C := Tryd.checked) (os := os) (X := fun w _ => laidMetH Tryd.prog Rows.fnExactSendTextRow.laid w) false (World.laidAll Tryd.prog os Rows.fnExactSendTextRow.laid) #[.string ByteArray.empty, .string ByteArray.empty, .int .i64 0] 8 (World.laidAll_os _ _ _)
      (World.shaped_of_ZipB (by kernel_rfl) (by kernel_rfl)) (by kernel_rfl) (by kernel_rfl) (by kernel_rfl)
      (by rw [MakeChecks.laidMetH_plain _ _ _ (by kernel_rfl)]; exact laidMet_laidAll _ (by kernel_rfl) (by kernel_rfl))) ?_
  intro W base args ds gs before hval0 hW hsh hL
  have hval : ∀ (j : Nat) t v, Tryd.f9.params[j]? = some t → args[j]? = some v → Value.okWide Tryd.prog W .any base t v := hval0
  have hW' := hW
  obtain ⟨p, q, hA0, hV, rfl, hfz, hnd⟩ := hW
  have hA : DataW.TrodAll enc Tryd.prog W 0 (fun _ => true) true Tryd.f9.params.toList args.toList ds p := hA0
  rw [Tryd.params9] at hA hval
  obtain ⟨v0, vs0, d0, ds0, p0, q0, hargs, rfl, rfl, h0, r0⟩ := trodAll_cons hA
  obtain ⟨v1, vs1, d1, ds1, p1, q1, rfl, rfl, rfl, h1, r1⟩ := trodAll_cons r0
  obtain ⟨v2, vs2, d2, ds2, p2, q2, rfl, rfl, rfl, h2, r2⟩ := trodAll_cons r1
  obtain ⟨rfl, rfl, rfl⟩ := trodAll_nil r2
  obtain rfl : args = #[v0, v1, v2] := by cases args; simp_all
  obtain ⟨rfl, rfl⟩ := trodVars_none hV
  have k0 := h0
  have lt0 : ∀ x ∈ p0, x.block < W.heap.size := by obtain ⟨m, hm⟩ := k0; exact DataW.trod_lt m _ _ _ hm
  have k1 := h1
  have lt1 : ∀ x ∈ p1, x.block < W.heap.size := by obtain ⟨m, hm⟩ := k1; exact DataW.trod_lt m _ _ _ hm
  have k2 := h2
  have lt2 : ∀ x ∈ p2, x.block < W.heap.size := by obtain ⟨m, hm⟩ := k2; exact DataW.trod_lt m _ _ _ hm
  suffices hwalk : Calls Tryd.prog 9 #[v0, v1, v2] W fun e w' => e = .returned (.bool true) ∧ Below W.heap.size W w' by
    refine hwalk.mono fun e W' ⟨he, bel⟩ => ?_
    subst he
    exact ⟨_, rfl, _, _, _, [], _, [], hW', trodAll_mk1 (shut_bool Tryd.underlying4 _), (trodAll_cons_mk (Below.trod lawLaid (by kernel_rfl) (of_decide_eq_true (by kernel_rfl)) k0 bel lt0) (trodAll_cons_mk (Below.trod lawLaid (by kernel_rfl) (of_decide_eq_true (by kernel_rfl)) k1 bel lt1) (trodAll_cons_mk (Below.trod lawLaid (by kernel_rfl) (of_decide_eq_true (by kernel_rfl)) k2 bel lt2) trodAll_mk0))), rfl, bel.frame _, fun h => by cases h⟩
  clear hA0 hval0
  obtain ⟨s0, rfl, rfl, rfl, w0⟩ := open_string Tryd.underlying9 (hval 0 9 v0 rfl rfl) h0
  obtain ⟨s1, rfl, rfl, rfl, w1⟩ := open_string Tryd.underlying9 (hval 1 9 v1 rfl rfl) h1
  obtain ⟨a2, rfl, rfl, rfl, w2⟩ := open_int Tryd.underlying2 (hval 2 2 v2 rfl rfl) h2
  have hMax := maxL_of hsh
  exact fnExactSendText_walk (w := W) s0 w0 s1 w1 a2 w2 hMax

theorem over : Rows.fnExactSendTextRow.holds Tryd.pinned (OpenSpec.ofChange Rows.fnExactSendTextSpec) :=
  OpenClaim.holds_of_wide 9 Tryd.f9 rfl rfl rfl rfl rfl rfl rfl ⟨rfl, rfl, rfl, rfl, rfl⟩ rfl rfl rfl rfl rfl (by kernel_rfl) Tryd.func9 (by kernel_rfl)
    (of_decide_eq_true (by kernel_rfl)) (by unfold Func.isWrapper; first | (rw [if_pos (by decide +kernel)]; kernel_rfl) | (rw [if_neg (by decide +kernel)]; exact ⟨rfl, rfl⟩))
    (fun os started H enc _ => lifted os started H enc)

theorem proved : Rows.FnExactSendTextCardSaid :=
  Claim7.holds_tied_plain_at .later [] [.data, .pinned] true (true, "a6357595bf9999fd0109d346879aa51bdc7c32d128cba37b7695526da005853e") false over (fun _ h => by cases h) (by kernel_rfl) (fun _ h => by cases h) fnExactSendText_row_tie rfl ⟨rfl, rfl⟩ (by kernel_rfl) rfl
    (fun f fn hf hfn => by
      obtain rfl : f = 9 := Option.some.inj ((show Tryd.prog.funcNamed "loop.example/g00953/laws.FnExactSendText" = some 9 by kernel_rfl).symm.trans hf) |>.symm
      obtain rfl : fn = Tryd.f9 := (Option.some.inj (Tryd.func9.symm.trans hfn)).symm
      exact ⟨by kernel_rfl, fun j t ht => by
        rw [Tryd.params9] at ht
        have hm : t ∈ [9, 9, 2] := by simpa using Array.mem_of_getElem? ht
        have hall : ([9, 9, 2].all fun u => !Tryd.prog.wantsStandIn u) = true := by kernel_rfl
        exact (show Tryd.prog.wantsStandIn t = false by simpa using List.all_eq_true.1 hall t hm)⟩)
    (by kernel_rfl)
#print axioms proved
end fnExactSendTextDone
end Go.Proofs.YtolijmldobncbaaDoor
