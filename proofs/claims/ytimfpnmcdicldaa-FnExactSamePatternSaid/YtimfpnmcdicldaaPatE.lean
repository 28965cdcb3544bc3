/- Patterns: a list from a place on; the order of lists. -/
import Derived.Test.YtimfpnmcdicldaaPatD
import Derived.Test.YtimfpnmcdicldaaQMix
import Derived.Lib.AppendZerosOnto
import Derived.Lib.SliceRun
import Derived.Lib.Walk
namespace Go.Proofs.Ytimfpnmcdicldaa
open Go Go.RowKit Go.Shelf
set_option maxRecDepth 100000 in
set_option maxHeartbeats 2000000 in
theorem grow_c (n : Nat) (h1 : 1 ≤ n) (hn : n ≤ 600) (w : World) :
    Calls Try.prog 126 #[.slice none 0 0, .int .i64 n] w fun e w' => ∃ c, e = .returned (.slice (some ⟨w.heap.size, 0, none⟩) 0 c) ∧ w'.ownsRow w.heap.size 9 1 (.slice (some ⟨w.heap.size, 0, none⟩) 0 c) 0 [] ∧ Below w.heap.size w w' := by
  obtain ⟨ip, hip, hip0, hip1, hip2⟩ := info_parts (show (Try.prog.info? 9).map (fun i => (i.zero, i.size, i.bytes)) = some (some (.string ByteArray.empty), 1, 16) by kernel_rfl)
  have hrz : ∀ ty, (Builtin.append_ #[103, 3] ty #[.slice none 0 0, .int .i64 (n : Int)]).run Try.prog w =
      .ok (.slice (some ⟨w.heap.size, 0, none⟩) n (grownCap w n 0 9)) (w.drew.alloc (.cells ((([] : List Value).toArray) ++ Builtin.zeroCells (Value.string ByteArray.empty).cells n ++ Builtin.zeroCells (Value.string ByteArray.empty).cells (grownCap w n 0 9 - n)) 9)) := fun ty => by
    have h := Lib.run_append_grow_zeros (P := Try.prog) w 103 3 ty 9 ip (.string ByteArray.empty) .i64 .i64 Try.underlying103 Try.underlying3 hip hip0 none 0 0 [] (run_firstCells_none _ ip.size 0 0 0) n (by omega) (by omega) (by omega) (by omega) (by rw [hip2]; omega) (by rw [hip2, Nat.zero_add]; exact growslice_fits (by omega) (by omega))
    rw [Nat.zero_add] at h
    exact h
  have hGn : n ≤ grownCap w n 0 9 := grownCap_ge w _ _ _
  have hGm := grownCap_le_maxLen w n 0 9 (by unfold maxLen; omega)
  generalize grownCap w n 0 9 = G at *
  have hG63 : (G : Int) ≤ 9223372036854775807 := by unfold maxLen at hGm; omega
  have hn0 : (0 : Int) < (n : Int) := by omega
  have hZ : ((([] : List Value).toArray) ++ Builtin.zeroCells (Value.string ByteArray.empty).cells n ++ Builtin.zeroCells (Value.string ByteArray.empty).cells (G - n)).size = G := by
    simp only [Array.size_append, List.size_toArray, size_zeroCells, Value.cells, List.length_nil]
    simp
    omega
  generalize (([] : List Value).toArray) ++ Builtin.zeroCells (Value.string ByteArray.empty).cells n ++ Builtin.zeroCells (Value.string ByteArray.empty).cells (G - n) = Z at *
  go_enter Try.func126, Try.ntmps126
  go_wp2_with (at_builtin; refine Lib.wpList_append_run _ rfl _ _ _ _ rfl _ _ rfl rfl _ _ (hrz _) ?_)
  all_goals
    go_ret
    refine ⟨G, rfl, ⟨rfl, .inr ⟨w.heap.size, G, Z, rfl, Nat.le_refl _, ?_, Nat.zero_le _, hGm, by rw [hZ]; omega, by simp⟩⟩, ?_⟩
    · exact heap_alloc_new w.drew _
    · exact ((Below.refl _ _).drew).alloc (Nat.le_refl _) _
/-- A stretch of colors as a row. -/
def lampRow (r : Nat → UInt8) (a m : Nat) : List Value := (List.range m).map fun j => .string (lampB (r (a + j)))
theorem lampRow_len (r : Nat → UInt8) (a m : Nat) : (lampRow r a m).length = m := by simp [lampRow]
theorem lampRow_one (r : Nat → UInt8) (a m : Nat) : ∀ u ∈ lampRow r a m, u.oneCell' = true := by
  intro u hu
  obtain ⟨j, _, rfl⟩ := List.mem_map.1 hu
  rfl
theorem lampRow_cells {w : World} {g n : Nat} {r : Nat → UInt8} (h : StR w g n r) {a m : Nat} (ham : a + m ≤ n) : ∀ (j : Nat) u, (lampRow r a m)[j]? = some u → w.cell? ((⟨g, a, none⟩ : Addr).add j) = some u := by
  intro j u hu
  have hj : j < m := by
    have := (List.getElem?_eq_some_iff.1 hu).1
    rwa [lampRow_len] at this
  have e : u = .string (lampB (r (a + j))) := by
    simpa [lampRow, hj] using hu.symm
  rw [e]
  have := h (a + j) (by omega)
  unfold Addr.add
  split
  · rename_i h0
    subst h0
    exact this
  · exact this
theorem lampRow_rot (r : Nat → UInt8) (a b : Nat) : lampRow r a b ++ lampRow r 0 a = lampRow (rotF r (a + b) a) 0 (a + b) := by
  apply List.ext_getElem
  · rw [List.length_append, lampRow_len, lampRow_len, lampRow_len]; omega
  · intro i h1 h2
    rw [lampRow_len] at h2
    by_cases hi : i < b
    · rw [List.getElem_append_left (by rw [lampRow_len]; exact hi)]
      simp only [lampRow, List.getElem_map, List.getElem_range, rotF, Nat.zero_add]
      rw [Nat.mod_eq_of_lt (by omega)]
    · rw [List.getElem_append_right (by rw [lampRow_len]; omega)]
      simp only [lampRow, List.getElem_map, List.getElem_range, rotF, Nat.zero_add]
      have : (a + i) % (a + b) = i - b := by
        rw [Nat.mod_eq_sub_mod (by omega), Nat.mod_eq_of_lt (by omega)]
        omega
      simp only [List.length_map, List.length_range]
      rw [this]
theorem StR.of_row {w : World} {base g cap n : Nat} {r : Nat → UInt8} {e : TypeId} (h : w.ownsRow base e 1 (.slice (some ⟨g, 0, none⟩) n cap) n (lampRow r 0 n)) : StR w g n r := fun i hi => by
  rw [h.cellAt i (by omega)]
  simp [lampRow, hi]
set_option maxRecDepth 100000 in
set_option maxHeartbeats 8000000 in
theorem concat_c (h hc g a b c1 c2 : Nat) (r : Nat → UInt8) (w : World) (h1 : 1 ≤ a + b) (hn : a + b ≤ 600) (hR : StR w g (a + b) r)
    (d0 : w.cell? ⟨h, 0, none⟩ = some (.slice (some ⟨g, a, none⟩) b c1)) (d1 : w.cell? ⟨h, 1, none⟩ = some (.slice (some ⟨g, 0, none⟩) a c2)) :
    Calls Try.prog 121 #[.slice (some ⟨h, 0, none⟩) 2 hc] w fun e w' => ∃ v, e = .returned v ∧ w'.ownsRow w.heap.size 9 1 v (a + b) (lampRow (rotF r (a + b) a) 0 (a + b)) ∧ Below w.heap.size w w' := by
  obtain ⟨ip, hip, hip0, hip1, hip2⟩ := info_parts (show (Try.prog.info? 9).map (fun i => (i.zero, i.size, i.bytes)) = some (some (.string ByteArray.empty), 1, 16) by kernel_rfl)
  have HG := Lib.hid (fun W => grow_c (a + b) h1 hn W)
  have HR := Lib.hid (fun (y : Aft w) => hR.below y.below)
  have k0 : ∀ y : Aft w, y.w1.cell? ⟨h, 0, none⟩ = some (.slice (some ⟨g, a, none⟩) b c1) := fun y => y.cell (cell_lt d0) d0
  have k1 : ∀ y : Aft w, y.w1.cell? ⟨h, 1, none⟩ = some (.slice (some ⟨g, 0, none⟩) a c2) := fun y => y.cell (cell_lt d1) d1
  have HX := Lib.hid (lampRow_rot r a b)
  have HL1 := Lib.hid (lampRow_len r a b)
  have HL0 := Lib.hid (lampRow_len r 0 a)
  have HO1 := Lib.hid (lampRow_one r a b)
  have HO0 := Lib.hid (lampRow_one r 0 a)
  have HC1 := Lib.hid (fun y => lampRow_cells (HR.out y) (a := a) (m := b) (Nat.le_refl _))
  have HC0 := Lib.hid (fun y => lampRow_cells (HR.out y) (a := 0) (m := a) (by omega))
  generalize lampRow (rotF r (a + b) a) 0 (a + b) = X at *
  generalize lampRow r a b = R1 at *
  generalize lampRow r 0 a = R0 at *
  clear hR
  go_enter Try.func121, Try.ntmps121
  go_wp2
  go_loop [3, 11] (fun s i => ∃ (k m : Nat), i = .int .i64 k ∧ s = .int .i64 m ∧ Hid ((k = 0 ∧ m = 0) ∨ (k = 1 ∧ m = b) ∨ (k = 2 ∧ m = a + b))) (fun _ i => 2 - (intOf i).toNat)
  case atStart => exact ⟨0, 0, rfl, rfl, Lib.hid (.inl ⟨rfl, rfl⟩)⟩
  case round =>
    obtain ⟨k, m, rfl, rfl, hkm⟩ := hrel
    rcases hkm.out with ⟨rfl, rfl⟩ | ⟨rfl, rfl⟩ | ⟨rfl, rfl⟩
    · clear hkm
      go_wp2
      go_round
      case rel => exact ⟨1, b, rfl, by go_num, Lib.hid (.inr (.inl ⟨rfl, rfl⟩))⟩
      case measure => simp [intOf]
    · clear hkm
      go_wp2
      go_round
      case rel => exact ⟨2, a + m, rfl, by go_num, Lib.hid (.inr (.inr ⟨rfl, rfl⟩))⟩
      case measure => simp [intOf]
    · clear hkm d0 d1
      have e0 : (((a + b : Nat)) : Int) = (a : Int) + (b : Int) := by omega
      go_wp2_with (go_at_call 126; refine (HG.out _).mono ?_; rintro e w1 ⟨c, rfl, hown, hb1⟩; have HO := Lib.hid hown; clear hown)
      go_loopw [6, 27] (fun v i wr => ∃ (k m : Nat) (xs : List Value) (x : Aft w), i = .int .i64 k ∧ wr = x.w1 ∧ wr.ownsRow w.heap.size 9 1 v m xs ∧ Hid ((k = 0 ∧ m = 0 ∧ xs = []) ∨ (k = 1 ∧ m = b ∧ xs = R1) ∨ (k = 2 ∧ m = a + b ∧ xs = R1 ++ R0))) (fun _ i _ => 2 - (intOf i).toNat)
      case atStart => exact ⟨0, 0, [], ⟨w1, hb1⟩, rfl, rfl, HO.out, Lib.hid (.inl ⟨rfl, rfl, rfl⟩)⟩
      case round =>
        obtain ⟨k, m, xs, x, rfl, rfl, hown, hkm⟩ := hrel
        have HO2 := Lib.hid hown
        clear hown HO
        have z0 := k0 x
        have z1 := k1 x
        rcases hkm.out with ⟨rfl, rfl, rfl⟩ | ⟨rfl, rfl, rfl⟩ | ⟨rfl, rfl, rfl⟩
        · clear hkm
          go_wp2_with (at_builtin; refine wpList_append_own _ rfl _ _ 103 rfl w.heap.size 9 ip (.string ByteArray.empty) 1 16 Try.underlying103 hip hip0 hip1 hip2 rfl (by decide) _ _ _ rfl HO2.out ⟨g, a, none⟩ b c1 R1 rfl (by rw [HL1.out, Nat.mul_one]) (HC1.out x) HO1.out (by unfold maxLen; omega) (by omega) x.below.size ?_; intro v' w2 hown2 hgrow2 _)
          have HO3 := Lib.hid hown2
          have HG3 := Lib.hid hgrow2
          clear hown2 hgrow2
          go_roundw
          case rel => exact ⟨1, b, R1, ⟨w2, own_next0 x.below HO2.out HG3.out⟩, rfl, rfl, by have := HO3.out; rwa [Nat.zero_add, List.nil_append] at this, Lib.hid (.inr (.inl ⟨rfl, rfl, rfl⟩))⟩
          case measure => simp [intOf]
        · clear hkm
          go_wp2_with (at_builtin; refine wpList_append_own _ rfl _ _ 103 rfl w.heap.size 9 ip (.string ByteArray.empty) 1 16 Try.underlying103 hip hip0 hip1 hip2 rfl (by decide) _ _ _ rfl HO2.out ⟨g, 0, none⟩ a c2 R0 rfl (by rw [HL0.out, Nat.mul_one]) (HC0.out x) HO0.out (by unfold maxLen; omega) (by omega) x.below.size ?_; intro v' w2 hown2 hgrow2 _)
          have HO3 := Lib.hid hown2
          have HG3 := Lib.hid hgrow2
          clear hown2 hgrow2
          go_roundw
          case rel => exact ⟨2, a + m, _, ⟨w2, own_next0 x.below HO2.out HG3.out⟩, rfl, rfl, by have := HO3.out; rwa [Nat.add_comm] at this, Lib.hid (.inr (.inr ⟨rfl, rfl, rfl⟩))⟩
          case measure => simp [intOf]
        · clear hkm
          go_wp2
          go_ret
          exact ⟨_, rfl, by rw [← HX.out]; exact HO2.out, x.below⟩
theorem own_lower {w : World} {base base' size n : Nat} {e : TypeId} {v : Value} {xs : List Value} (h : w.ownsRow base' e size v n xs) (hb : base ≤ base') : w.ownsRow base e size v n xs := by
  refine ⟨h.1, ?_⟩
  rcases h.2 with h0 | ⟨g', cap', cur, e1, e2, e3⟩
  · exact .inl h0
  · exact .inr ⟨g', cap', cur, e1, Nat.le_trans hb e2, e3⟩
set_option maxHeartbeats 4000000 in
theorem rotated_c (g a b cap : Nat) (r : Nat → UInt8) (w : World) (hb : 1 ≤ b) (hn : a + b ≤ 600) (hcap : a + b ≤ cap) (hcm : cap ≤ 9223372036854775807) (hR : StR w g (a + b) r) :
    Calls Try.prog 98 #[.slice (some ⟨g, 0, none⟩) (a + b) cap, .int .i64 a] w fun e w' => ∃ v, e = .returned v ∧ w'.ownsRow w.heap.size 9 1 v (a + b) (lampRow (rotF r (a + b) a) 0 (a + b)) ∧ Below w.heap.size w w' := by
  have hcm2 : (cap : Int) ≤ 9223372036854775807 := by omega
  have HC := Lib.hid (fun h hc c1 c2 W hR d0 d1 => concat_c h hc g a b c1 c2 r W (by omega) hn hR d0 d1)
  have hca : ¬ cap = a := by omega
  have HR := Lib.hid (fun (y : Aft w) => hR.below y.below)
  clear hR
  have e1 : a + b - a = b := by omega
  have hab : (a : Int) ≤ (a : Int) + (b : Int) := by omega
  have hac : (a : Int) ≤ (cap : Int) := by omega
  go_enter Try.func98, Try.ntmps98
  go_wp2
  refine wp_region_aft_tail 6 (by kernel_rfl) (by kernel_rfl) ?_
  simp only [List.take_succ_cons, List.take_zero, List.drop_succ_cons, List.drop_zero]
  iterate 6 (go_big_quiet_step (fail))
  refine wpQuiet_nil ?_
  intro z
  go_wp2_with fail
  refine (HC.out z.w1.heap.size _ _ _ _ ((HR.out z).below (by repeat (first | exact Below.refl _ _ | refine Below.alloc ?_ (by simp; try omega) _ | refine Below.drew ?_))) (by rw [cell_new]; rfl) (by rw [cell_new]; rfl)).mono ?_
  rintro e w3 ⟨v, rfl, hown, hb3⟩
  go_wp2
  go_ret
  exact ⟨v, rfl, own_lower hown (by have := z.below.size; simp; omega), held_next z.below (below_box hb3)⟩
theorem lamp_less (a b : UInt8) : Op.bytesLess (lampB a).toList (lampB b).toList = decide (a < b) := by
  have e0 : (⟨#[]⟩ : ByteArray).toList = [] := by rw [ByteArray.toList_eq]
  have e1 : ∀ c : UInt8, (⟨#[c]⟩ : ByteArray).toList = [c] := fun c => by rw [ByteArray.toList_eq]
  unfold lampB
  by_cases ha : a = 0 <;> by_cases hb : b = 0
  · subst ha; subst hb
    simp only [if_true, e0]
    rfl
  · subst ha
    rw [if_pos rfl, if_neg hb, e0, e1]
    symm
    show decide ((0 : UInt8) < b) = true
    rw [decide_eq_true_eq, UInt8.lt_iff_toNat_lt]
    have : b.toNat ≠ 0 := fun h => hb (UInt8.toNat_inj.1 h)
    show 0 < b.toNat
    omega
  · subst hb
    rw [if_neg ha, if_pos rfl, e0, e1]
    symm
    show decide (a < 0) = false
    rw [decide_eq_false_iff_not, UInt8.lt_iff_toNat_lt]
    show ¬ a.toNat < 0
    omega
  · rw [if_neg ha, if_neg hb, e1, e1]
    exact bytesLess_one a b
set_option maxHeartbeats 1000000 in
theorem isNaN_c (s : ByteArray) (w : World) : Calls Try.prog 127 #[.string s] w fun e w' => e = .returned (.bool false) ∧ w = w' := by
  have h : (s.toList == s.toList) = true := by simp
  go_enter Try.func127, Try.ntmps127
  go_wp2
  go_ret
  exact ⟨rfl, rfl⟩
/-- The order of two letters. -/
def cmpI (a b : UInt8) : Int := if a < b then -1 else if b < a then 1 else 0
set_option maxHeartbeats 2000000 in
theorem compare1_c (a b : UInt8) (w : World) : Calls Try.prog 122 #[.string (lampB a), .string (lampB b)] w fun e w' => e = .returned (.int .i64 (cmpI a b)) ∧ w = w' := by
  have h1 := lamp_less a b
  have h2 := lamp_less b a
  have h3 := lamp_beq a b
  have h4 := lamp_beq b a
  have HC := Lib.hid (show cmpI a b = if a < b then -1 else if b < a then 1 else 0 from rfl)
  generalize cmpI a b = v at *
  rcases u8_or a b with h | h | h
  · subst h
    rw [if_neg (UInt8.lt_irrefl _), if_neg (UInt8.lt_irrefl _)] at HC
    have hi : decide (a < a) = false := by simp [UInt8.lt_irrefl]
    rw [hi] at h1 h2
    go_enter Try.func122, Try.ntmps122
    go_wp2_with (go_at_call 127; refine (isNaN_c _ _).mono ?_; rintro e _ ⟨rfl, rfl⟩)
    go_ret
    exact ⟨by rw [HC.out]; rfl, rfl⟩
  · have hn : ¬ b < a := fun h' => UInt8.lt_irrefl _ (UInt8.lt_trans h h')
    have hne : ¬ a = b := fun e => by rw [e] at h; exact UInt8.lt_irrefl _ h
    have hne2 : ¬ b = a := fun e => hne e.symm
    rw [if_pos h] at HC
    rw [decide_eq_true h] at h1
    rw [decide_eq_false hn] at h2
    rw [decide_eq_false hne] at h3
    rw [decide_eq_false hne2] at h4
    go_enter Try.func122, Try.ntmps122
    go_wp2_with (go_at_call 127; refine (isNaN_c _ _).mono ?_; rintro e _ ⟨rfl, rfl⟩)
    go_ret
    exact ⟨by rw [HC.out]; rfl, rfl⟩
  · have hn : ¬ a < b := fun h' => UInt8.lt_irrefl _ (UInt8.lt_trans h h')
    have hne : ¬ a = b := fun e => by rw [e] at h; exact UInt8.lt_irrefl _ h
    have hne2 : ¬ b = a := fun e => hne e.symm
    rw [if_neg hn, if_pos h] at HC
    rw [decide_eq_false hn] at h1
    rw [decide_eq_true h] at h2
    rw [decide_eq_false hne] at h3
    rw [decide_eq_false hne2] at h4
    go_enter Try.func122, Try.ntmps122
    go_wp2_with (go_at_call 127; refine (isNaN_c _ _).mono ?_; rintro e _ ⟨rfl, rfl⟩)
    go_ret
    exact ⟨by rw [HC.out]; rfl, rfl⟩
set_option maxHeartbeats 1000000 in
theorem compare_c (g h n c d : Nat) (u v : Nat → UInt8) (w : World) (hn : n ≤ 600) (hU : StR w g n u) (hV : StR w h n v) :
    Calls Try.prog 99 #[.slice (some ⟨g, 0, none⟩) n c, .slice (some ⟨h, 0, none⟩) n d] w fun e w' => (∃ x : Int, e = .returned (.int .i64 x) ∧ ((x = -1 ∧ LtF n u v) ∨ (0 ≤ x ∧ x ≤ 1 ∧ ¬ LtF n u v))) ∧ w = w' := by
  go_enter Try.func99, Try.ntmps99
  go_wp2
  go_loop [11] (fun i => ∃ k : Nat, k ≤ n ∧ i = .int .i64 k ∧ Hid (∀ j, j < k → u j = v j)) (fun i => n - (intOf i).toNat)
  case atStart => exact ⟨0, by omega, rfl, Lib.hid (fun i hi => by omega)⟩
  case round =>
    obtain ⟨k, hk, rfl, hall⟩ := hrel
    by_cases hlt : k < n
    · have p0 := hU k hlt
      have p1 := hV k hlt
      have HC := Lib.hid (fun W => compare1_c (u k) (v k) W)
      rcases u8_or (u k) (v k) with h' | h' | h'
      · have e : cmpI (u k) (v k) = 0 := by unfold cmpI; rw [h', if_neg (UInt8.lt_irrefl _), if_neg (UInt8.lt_irrefl _)]
        rw [e] at HC
        have hn' : Hid (∀ j, j < k + 1 → u j = v j) := Lib.hid (fun j hj => by
          by_cases e : j = k
          · subst e; exact h'
          · exact hall.out j (by omega))
        clear e h'
        go_wp2_with (go_at_call 122; refine (HC.out _).mono ?_; rintro e _ ⟨rfl, rfl⟩)
        go_round
        case rel => exact ⟨k + 1, by omega, by go_num, hn'⟩
        case measure => simp [intOf]; omega
      · have e : cmpI (u k) (v k) = -1 := by unfold cmpI; rw [if_pos h']
        rw [e] at HC
        clear e
        have hL : Hid (LtF n u v) := Lib.hid ⟨k, hlt, hall.out, h'⟩
        clear h'
        go_wp2_with (go_at_call 122; refine (HC.out _).mono ?_; rintro e _ ⟨rfl, rfl⟩)
        go_ret
        exact ⟨⟨-1, rfl, .inl ⟨rfl, hL.out⟩⟩, rfl⟩
      · have hn' : ¬ u k < v k := fun h'' => UInt8.lt_irrefl _ (UInt8.lt_trans h' h'')
        have e : cmpI (u k) (v k) = 1 := by unfold cmpI; rw [if_neg hn', if_pos h']
        rw [e] at HC
        clear e
        have hL : Hid (¬ LtF n u v) := Lib.hid (fun hh => ltF_irrefl (ltF_trans hh ⟨k, hlt, fun j hj => (hall.out j hj).symm, h'⟩) (fun _ _ => rfl))
        clear h' hn'
        go_wp2_with (go_at_call 122; refine (HC.out _).mono ?_; rintro e _ ⟨rfl, rfl⟩)
        go_ret
        exact ⟨⟨1, rfl, .inr ⟨by omega, by omega, hL.out⟩⟩, rfl⟩
    · obtain rfl : k = n := by omega
      have hL : Hid (¬ LtF k u v) := Lib.hid (fun hh => ltF_irrefl hh hall.out)
      go_wp2
      go_ret
      exact ⟨⟨0, rfl, .inr ⟨by omega, by omega, hL.out⟩⟩, rfl⟩
end Go.Proofs.Ytimfpnmcdicldaa
