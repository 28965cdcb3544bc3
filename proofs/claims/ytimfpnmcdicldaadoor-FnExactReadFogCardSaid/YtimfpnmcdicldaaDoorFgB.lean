/- Reading fog signals: the program's. -/
import Derived.Test.YtimfpnmcdicldaaDoorFgA
import Derived.Test.YtimfpnmcdicldaaDoorFogU
import Derived.Shelf.Strings.Cut
import Derived.Shelf.Strings.Prefix
import Derived.Shelf.Lays
namespace Go.Proofs.YtimfpnmcdicldaaDoor
open Go Go.RowKit Go.Shelf
def lays145_ren : Go.Shelf.Ren := ⟨fun | 145 => 60 | 220 => 87 | 219 => 104 | 217 => 121 | 225 => 122 | 224 => 123 | 267 => 124 | 266 => 136 | 314 => 137 | n => n, fun | 9 => 9 | 4 => 4 | 59 => 86 | 3 => 3 | 5 => 5 | 46 => 138 | 146 => 154 | 51 => 145 | n => n, fun | 1 => 0 | n => n⟩
theorem lays145 : Lays.n145 Tryd.prog lays145_ren where
  mixed := by kernel_rfl
  f145 := Tryd.func60.trans (congrArg some (by kernel_rfl))
  f217 := Tryd.func121.trans (congrArg some (by kernel_rfl))
  f219 := Tryd.func104.trans (congrArg some (by kernel_rfl))
  f220 := Tryd.func87.trans (congrArg some (by kernel_rfl))
  f224 := Tryd.func123.trans (congrArg some (by kernel_rfl))
  f225 := Tryd.func122.trans (congrArg some (by kernel_rfl))
  f266 := Tryd.func136.trans (congrArg some (by kernel_rfl))
  f267 := Tryd.func124.trans (congrArg some (by kernel_rfl))
  f314 := Tryd.func137.trans (congrArg some (by kernel_rfl))
  t3 := Tryd.underlying3
  a3 := Tryd.isAgg3
  z3 := Tryd.sizeOf3
  v3 := Tryd.zeroValue3
  t4 := Tryd.underlying4
  a4 := Tryd.isAgg4
  z4 := Tryd.sizeOf4
  v4 := Tryd.zeroValue4
  t5 := Tryd.underlying5
  a5 := Tryd.isAgg5
  z5 := Tryd.sizeOf5
  v5 := Tryd.zeroValue5
  t9 := Tryd.underlying9
  a9 := Tryd.isAgg9
  z9 := Tryd.sizeOf9
  v9 := Tryd.zeroValue9
  t46 := Tryd.underlying138
  a46 := Tryd.isAgg138
  z46 := Tryd.sizeOf138
  v46 := Tryd.zeroValue138
  t51 := Tryd.underlying145
  a51 := Tryd.isAgg145
  z51 := Tryd.sizeOf145
  v51 := Tryd.zeroValue145
  t59 := Tryd.underlying86
  a59 := Tryd.isAgg86
  z59 := Tryd.sizeOf86
  v59 := Tryd.zeroValue86
  t146 := Tryd.underlying154
  a146 := Tryd.isAgg154
  z146 := Tryd.sizeOf154
  v146 := Tryd.zeroValue154
  g1 := by kernel_rfl
def lays102_ren : Go.Shelf.Ren := ⟨fun | 102 => 61 | 209 => 88 | 207 => 105 | n => n, fun | 9 => 9 | 4 => 4 | 3 => 3 | n => n, fun  | n => n⟩
theorem lays102 : Lays.n102 Tryd.prog lays102_ren where
  mixed := by kernel_rfl
  f102 := Tryd.func61.trans (congrArg some (by kernel_rfl))
  f207 := Tryd.func105.trans (congrArg some (by kernel_rfl))
  f209 := Tryd.func88.trans (congrArg some (by kernel_rfl))
  t3 := Tryd.underlying3
  a3 := Tryd.isAgg3
  z3 := Tryd.sizeOf3
  v3 := Tryd.zeroValue3
  t4 := Tryd.underlying4
  a4 := Tryd.isAgg4
  z4 := Tryd.sizeOf4
  v4 := Tryd.zeroValue4
  t9 := Tryd.underlying9
  a9 := Tryd.isAgg9
  z9 := Tryd.sizeOf9
  v9 := Tryd.zeroValue9
/-- A text cut at its first c; a text without its last c. -/
def cut1 (c : UInt8) (s : ByteArray) : ByteArray := ⟨(Lib.cut s.data.toList [c]).1.toArray⟩
def cut2 (c : UInt8) (s : ByteArray) : ByteArray := ⟨(Lib.cut s.data.toList [c]).2.1.toArray⟩
def cut3 (c : UInt8) (s : ByteArray) : Bool := (Lib.cut s.data.toList [c]).2.2
def trimS (c : UInt8) (s : ByteArray) : ByteArray := ⟨(Lib.trimSuffix s.data.toList [c]).toArray⟩
theorem cut1_le (c : UInt8) (s : ByteArray) : (cut1 c s).size ≤ s.size := by
  have := (cut_le s.data.toList [c]).1
  rw [data_len] at this
  exact this
theorem cut2_le (c : UInt8) (s : ByteArray) : (cut2 c s).size ≤ s.size := by
  have := (cut_le s.data.toList [c]).2
  rw [data_len] at this
  exact this
theorem trimS_size (c : UInt8) (s : ByteArray) : (trimS c s).size ≤ s.size := by
  have := trimS_le s.data.toList [c]
  rw [data_len] at this
  exact this
theorem cutC (c : UInt8) (s : ByteArray) (w : World) (hs : s.size ≤ 1048576) (hM : MaxL w) :
    Calls Tryd.prog 60 #[.string s, .string ⟨#[c]⟩] w fun e w' => e = .returned (.tuple #[.string (cut1 c s), .string (cut2 c s), .bool (cut3 c s)]) ∧ Below w.heap.size w w' := by
  obtain ⟨m, hm⟩ := hM
  exact (Any.strings_Cut lays145 s ⟨#[c]⟩ m w (by omega) hm).mono fun e w' ⟨he, n, hw⟩ => ⟨he, hw ▸ ⟨rfl, rfl, rfl, Nat.le_refl _, fun _ _ => rfl⟩⟩
theorem trimC (c : UInt8) (s : ByteArray) (w : World) (hs : s.size ≤ 1048576) :
    Calls Tryd.prog 61 #[.string s, .string ⟨#[c]⟩] w fun e w' => e = .returned (.string (trimS c s)) ∧ w = w' :=
  (Any.strings_TrimSuffix lays102 s ⟨#[c]⟩ w (by omega)).mono fun _ _ h => ⟨h.1, h.2.symm⟩
theorem trimS_of {c : UInt8} {s a : ByteArray} (h : s.data.toList = a.data.toList ++ [c]) : trimS c s = a := by
  unfold trimS
  rw [h, trimS_app]
/-- The seconds, read. -/
theorem sec_cut {p : Int} (h : 0 ≤ p ∧ p ≤ 1200) : num (cut1 46 (secT p)) = some (p / 10) ∧ num (if cut3 46 (secT p) = true then cut2 46 (secT p) else (⟨#[48]⟩ : ByteArray)) = some (p % 10) := by
  have f1 : (46 : UInt8) ∉ (dec (p / 10)).data.toList := dec_free (by omega) (.inl (by decide))
  unfold cut1 cut2 cut3
  rw [sec_data]
  by_cases hz : p % 10 = 0
  · rw [if_pos hz, cut_none f1, hz]
    refine ⟨num_dec (by omega) (by omega), ?_⟩
    rw [if_neg (by simp), ← dec_zero]
    exact num_dec (by omega) (by omega)
  · rw [if_neg hz, cut_app f1]
    refine ⟨num_dec (by omega) (by omega), ?_⟩
    rw [if_pos rfl]
    exact num_dec (by omega) (by omega)
set_option maxRecDepth 100000 in
set_option maxHeartbeats 4000000 in
theorem readSeconds_c (s : ByteArray) (hs : s.size ≤ 1048576) (w : World) (hT : Pows w) (hE : Errs w) (hM : MaxL w) :
    Calls Tryd.prog 62 #[.string s] w fun e w' => ∃ (n : Int) (v : Bool), e = .returned (.tuple #[.int .i64 n, .bool v]) ∧ Below w.heap.size w w' ∧ Hid (∀ p : Int, 0 ≤ p ∧ p ≤ 1200 → s = secT p → n = p ∧ v = true) := by
  have HCut := Lib.hid (cutC 46 s w hs hM)
  have HTE := Lib.hid (And.intro hT hE)
  have hz1 := Nat.le_trans (cut1_le 46 s) hs
  have hz2 := Nat.le_trans (cut2_le 46 s) hs
  have HRS : Hid (∀ p : Int, 0 ≤ p ∧ p ≤ 1200 → s = secT p → num (cut1 46 s) = some (p / 10) ∧ num (if cut3 46 s = true then cut2 46 s else (⟨#[48]⟩ : ByteArray)) = some (p % 10)) := Lib.hid (fun p hp h => by rw [h]; exact sec_cut hp)
  generalize cut1 46 s = wh at *
  generalize cut2 46 s = te at *
  generalize cut3 46 s = fd at *
  obtain ⟨te', hte, hzt⟩ : ∃ te' : ByteArray, (if fd = true then te else (⟨#[48]⟩ : ByteArray)) = te' ∧ te'.size ≤ 1048576 := by
    refine ⟨_, rfl, ?_⟩
    split
    · exact hz2
    · decide
  rw [hte] at HRS
  have HN1 := Lib.hid (fun W hW hE => readDecimal_c wh hz1 W hW hE)
  have HN2 := Lib.hid (fun W hW hE => readDecimal_c te' hzt W hW hE)
  have HA : Hid (∀ p : Int, 0 ≤ p ∧ p ≤ 1200 → s = secT p → (num wh).getD 0 = p / 10 ∧ (num wh).isSome = true ∧ (num te').getD 0 = p % 10 ∧ (num te').isSome = true) := Lib.hid (fun p hp h => by
    obtain ⟨h1, h2⟩ := HRS.out p hp h
    rw [h1, h2]
    exact ⟨rfl, rfl, rfl, rfl⟩)
  generalize (num wh).getD 0 = a at *
  generalize (num wh).isSome = o1 at *
  generalize (num te').getD 0 = b at *
  generalize (num te').isSome = o2 at *
  clear HRS hz1 hz2 hzt hT hE hM
  have hv1 : (inR a 0 1200 = true ∧ 0 ≤ a ∧ a ≤ 1200) ∨ inR a 0 1200 = false := by
    cases h : inR a 0 1200
    · exact .inr rfl
    · exact .inl ⟨rfl, inR_iff.1 h⟩
  have hv2 : (inR b 0 9 = true ∧ 0 ≤ b ∧ b ≤ 9) ∨ inR b 0 9 = false := by
    cases h : inR b 0 9
    · exact .inr rfl
    · exact .inl ⟨rfl, inR_iff.1 h⟩
  rcases hv1 with ⟨v1, l0, l1⟩ | v1
  · rcases hv2 with ⟨v2, m0, m1⟩ | v2
    · have HS := Lib.hid (fun W hW => secondsText_c (10 * a + b) (by omega) (by omega) W hW)
      have HV1 := Lib.hid v1
      have HV2 := Lib.hid v2
      cases he : ((secT (10 * a + b)).toList == s.toList)
      all_goals
        have HEq := Lib.hid he
        clear v1 v2
        generalize hsx : secT (10 * a + b) = sx at *
        have HSX := Lib.hid hsx
        clear hsx
        cases fd
        all_goals
          cases o1 <;> cases o2
          all_goals
            simp only [if_true, if_false, Bool.false_eq_true] at hte
            subst hte
            go_enter Tryd.func62, Tryd.ntmps62
            go_wp2_with fail
            refine HCut.out.mono ?_
            rintro e w1 ⟨rfl, hb1⟩
            go_wp2_with fail
            refine (HN1.out _ (HTE.out.1.below hb1) (HTE.out.2.below hb1)).mono ?_
            rintro e w2 ⟨rfl, hb2'⟩
            have hb2 := held_next hb1 hb2'
            go_wp2_with fail
            refine (HN2.out _ (HTE.out.1.below hb2) (HTE.out.2.below hb2)).mono ?_
            rintro e w3 ⟨rfl, hb3'⟩
            have hb3 := held_next hb2 hb3'
            have hT3 := HTE.out.1.below hb3
            go_wp2_with (first
              | (go_at_call 70; (first | with_reducible refine (within_v HV1.out _).mono ?_ | with_reducible refine (within_v HV2.out _).mono ?_); rintro e _ ⟨rfl, rfl⟩)
              | (go_at_call 40; refine (HS.out _ hT3).mono ?_; rintro e w4 ⟨rfl, hb4⟩))
            go_ret2
            first
              | exact ⟨_, _, rfl, held_next hb3 hb4, Lib.hid (fun p hp h => by
                  obtain ⟨h1, h2, h3, h4⟩ := HA.out p hp h
                  have h5 : 10 * a + b = p := by omega
                  refine ⟨h5, ?_⟩
                  have h6 := HEq.out
                  rw [← HSX.out, h5, ← h] at h6
                  simp at h6)⟩
              | exact ⟨_, _, rfl, held_next hb3 hb4, Lib.hid (fun p hp h => by
                  obtain ⟨h1, h2, h3, h4⟩ := HA.out p hp h
                  have h5 : 10 * a + b = p := by omega
                  exact ⟨h5, rfl⟩)⟩
              | exact ⟨_, _, rfl, hb3, Lib.hid (fun p hp h => by
                  obtain ⟨h1, h2, h3, h4⟩ := HA.out p hp h
                  first | exact (Bool.false_ne_true h4).elim | exact (Bool.false_ne_true h2).elim)⟩
    · have HV1 := Lib.hid v1
      have HV2 := Lib.hid v2
      cases fd
      all_goals
        cases o1 <;> cases o2
        all_goals
          simp only [if_true, if_false, Bool.false_eq_true] at hte
          subst hte
          go_enter Tryd.func62, Tryd.ntmps62
          go_wp2_with fail
          refine HCut.out.mono ?_
          rintro e w1 ⟨rfl, hb1⟩
          go_wp2_with fail
          refine (HN1.out _ (HTE.out.1.below hb1) (HTE.out.2.below hb1)).mono ?_
          rintro e w2 ⟨rfl, hb2'⟩
          have hb2 := held_next hb1 hb2'
          go_wp2_with fail
          refine (HN2.out _ (HTE.out.1.below hb2) (HTE.out.2.below hb2)).mono ?_
          rintro e w3 ⟨rfl, hb3'⟩
          have hb3 := held_next hb2 hb3'
          go_wp2_with (go_at_call 70; (first | with_reducible refine (within_v HV1.out _).mono ?_ | with_reducible refine (within_v HV2.out _).mono ?_); rintro e _ ⟨rfl, rfl⟩)
          go_ret2
          exact ⟨_, _, rfl, hb3, Lib.hid (fun p hp h => by
            obtain ⟨h1, h2, h3, h4⟩ := HA.out p hp h
            exfalso
            first | exact Bool.false_ne_true h4 | exact Bool.false_ne_true h2 | (have := HV2.out; rw [inR_yes (by omega)] at this; cases this))⟩
  · have HV1 := Lib.hid v1
    cases fd
    all_goals
      cases o1 <;> cases o2
      all_goals
        simp only [if_true, if_false, Bool.false_eq_true] at hte
        subst hte
        go_enter Tryd.func62, Tryd.ntmps62
        go_wp2_with fail
        refine HCut.out.mono ?_
        rintro e w1 ⟨rfl, hb1⟩
        go_wp2_with fail
        refine (HN1.out _ (HTE.out.1.below hb1) (HTE.out.2.below hb1)).mono ?_
        rintro e w2 ⟨rfl, hb2'⟩
        have hb2 := held_next hb1 hb2'
        go_wp2_with fail
        refine (HN2.out _ (HTE.out.1.below hb2) (HTE.out.2.below hb2)).mono ?_
        rintro e w3 ⟨rfl, hb3'⟩
        have hb3 := held_next hb2 hb3'
        go_wp2_with (go_at_call 70; with_reducible refine (within_v HV1.out _).mono ?_; rintro e _ ⟨rfl, rfl⟩)
        go_ret2
        exact ⟨_, _, rfl, hb3, Lib.hid (fun p hp h => by
          obtain ⟨h1, h2, h3, h4⟩ := HA.out p hp h
          exfalso
          first | exact Bool.false_ne_true h4 | exact Bool.false_ne_true h2 | (have := HV1.out; rw [inR_yes (by omega)] at this; cases this))⟩
end Go.Proofs.YtimfpnmcdicldaaDoor
