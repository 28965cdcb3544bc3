/- The program's SameAid answers as the reference's, for all arguments. -/
import Derived.Test.YtolijmldobncbaaAidD
namespace Go.Proofs.Ytolijmldobncbaa
open Go Go.RowKit
set_option maxRecDepth 100000 in
set_option maxHeartbeats 16000000 in
theorem sameAid_body (d d' : AidD) (CA CB : Array Value) (w : World) (hok : d.Ok) (hok' : d'.Ok) (hR : IsA d CA w) (hR' : IsA d' CB w) :
    Calls Try.prog 3 #[.agg CA, .agg CB] w fun e w' => e = .returned (.bool true) ∧ Below w.heap.size w w' := by
  have HSz := Lib.hid (fun left l0 l1 W h => szAidC_c d CA left hok l0 l1 W h)
  have HSz' := Lib.hid (fun left l0 l1 W h => szAidC_c d' CB left hok' l0 l1 W h)
  have HP := Lib.hid (fun C C' W h1 h2 h h' => specSameAidC_c d d' C C' W h1 h2 h h')
  have HI := Lib.hid (fun C C' W h1 h2 h h' => implSameAidC_c d d' C C' W h1 h2 h h')
  generalize d.same d' = vR at HP HI
  generalize hW : (w.alloc (.cells CA 31)).alloc (.cells CB 31) = W0
  have hb0 : Below w.heap.size w W0 := hW ▸ (by repeat (first | exact Below.refl _ _ | refine Below.alloc ?_ (by simp; try omega) _ | refine Below.drew ?_))
  have hA : Blk W0 w.heap.size 31 CA := by subst hW; exact (Blk.new _ _ _).below (by repeat (first | exact Below.refl _ _ | refine Below.alloc ?_ (by simp; try omega) _ | refine Below.drew ?_))
  have hB : Blk W0 (w.heap.size + 1) 31 CB := by subst hW; have := Blk.new (w.alloc (.cells CA 31)) 31 CB; rwa [World.size_alloc] at this
  have ZA := Lib.hid hR.size
  have ZB := Lib.hid hR'.size
  have RR := Lib.hid (hR.below hb0)
  have RR' := Lib.hid (hR'.below hb0)
  have kA : ∀ y : Aft W0, Blk y.w1 w.heap.size 31 CA := fun y => hA.below y.below
  have kB : ∀ y : Aft W0, Blk y.w1 (w.heap.size + 1) 31 CB := fun y => hB.below y.below
  clear hA hB hok hok' hR hR'
  go_enter Try.func3, Try.ntmps3
  go_wp2_with (first
    | (refine wpList_load_row rfl 31 _ rfl (w.heap.size) rfl 31 CA (0, 0) _ (blk_row (kA ⟨W0, Below.refl _ _⟩)) Try.underlying31 rfl (sizeL ZA.out) ?_))
  refine (HSz.out _ (by omega) (by omega) _ RR.out).mono ?_
  rintro e w1 ⟨rfl | ⟨r, r0, r1, hf, rfl⟩, b1⟩
  · go_wp2
    go_ret
    exact ⟨rfl, held_next hb0 b1⟩
  obtain ⟨x1, rfl⟩ : ∃ x : Aft W0, w1 = x.w1 := ⟨⟨w1, b1⟩, rfl⟩
  clear b1
  go_wp2_with (first
    | (refine wpList_load_row rfl 31 _ rfl (w.heap.size + 1) rfl 31 CB (0, 0) _ (blk_row (kB _)) Try.underlying31 rfl (sizeL ZB.out) ?_))
  refine (HSz'.out r r0 (by omega) _ (RR'.out.below x1.below)).mono ?_
  rintro e w2 ⟨rfl | ⟨q, q0, q1, hf', rfl⟩, b2⟩
  · go_wp2
    go_ret
    exact ⟨rfl, held_next hb0 (held_next x1.below b2)⟩
  obtain ⟨x2, rfl⟩ : ∃ x : Aft W0, w2 = x.w1 := ⟨⟨w2, held_next x1.below b2⟩, rfl⟩
  clear b2 HSz HSz'
  go_wp2_with fail
  refine wp_region_plan (C := fun w' => ∃ x : Aft W0, w' = x.w1) [(0, true), (2, true), (1, false), (3, false), (4, false)] (by kernel_rfl) (by kernel_rfl) (fun _ _ d _ _ h => by cases d <;> exact h) ⟨⟨_, x2.below.drew⟩, rfl⟩ ?_
  refine plan_load rfl rfl 31 _ rfl (w.heap.size) rfl 31 CA (by rintro _ ⟨x, rfl⟩; exact kA x) Try.underlying31 rfl (sizeL ZA.out) ?_
  go_simp
  refine plan_load rfl rfl 31 _ rfl (w.heap.size + 1) rfl 31 CB (by rintro _ ⟨x, rfl⟩; exact kB x) Try.underlying31 rfl (sizeL ZB.out) ?_
  go_simp
  refine plan_alone rfl rfl ?_
  go_simp
  have bd := x2.below.drew
  refine (toAidC_c d CA _ hf (RR.out.below bd)).mono ?_
  rintro e w3 ⟨C3, rfl, H3, b3⟩
  obtain ⟨x3, rfl⟩ : ∃ x : Aft W0, w3 = x.w1 := ⟨⟨w3, held_next bd b3⟩, rfl⟩
  clear bd b3
  refine ⟨⟨x3, rfl⟩, ?_⟩
  refine plan_alone rfl rfl ?_
  go_simp
  refine (toAidC_c d' CB _ hf' (RR'.out.below x3.below)).mono ?_
  rintro e w4 ⟨C4, rfl, H4, b4⟩
  replace H3 := H3.below b4
  obtain ⟨x4, rfl⟩ : ∃ x : Aft W0, w4 = x.w1 := ⟨⟨w4, held_next x3.below b4⟩, rfl⟩
  clear b4
  refine ⟨⟨x4, rfl⟩, ?_⟩
  refine plan_alone rfl rfl ?_
  go_simp
  refine (HP.out C3 C4 _ hf hf' H3 H4).mono ?_
  rintro e w5 ⟨rfl, b5⟩
  obtain ⟨x5, rfl⟩ : ∃ x : Aft W0, w5 = x.w1 := ⟨⟨w5, held_next x4.below b5⟩, rfl⟩
  refine ⟨⟨x5, rfl⟩, ?_⟩
  refine plan_end ?_
  clear H3 H4 HP b5
  go_wp2_with (first
    | (refine wpList_load_row rfl 31 _ rfl (w.heap.size) rfl 31 CA (0, 0) _ (blk_row (kA _)) Try.underlying31 rfl (sizeL ZA.out) ?_))
  refine (toAidC_c d CA _ hf (RR.out.below x5.below)).mono ?_
  rintro e w6 ⟨C6, rfl, H6, b6⟩
  obtain ⟨x6, rfl⟩ : ∃ x : Aft W0, w6 = x.w1 := ⟨⟨w6, held_next x5.below b6⟩, rfl⟩
  clear b6
  have hSt := aid_store H6
  have zC := H6.size
  have lB : ∀ o, Blk (x6.w1.alloc o) (w.heap.size + 1) 31 CB := fun o => (kB x6).below ((Below.refl _ _).alloc (Nat.le_refl _) o)
  go_wp2_with (first
    | (refine wpList_load_row rfl 31 _ rfl (w.heap.size + 1) rfl 31 CB (0, 0) _ (blk_row (lB _)) Try.underlying31 rfl (sizeL ZB.out) ?_))
  clear hSt zC lB
  generalize hW : x6.w1.alloc (.cells C6 39) = W1 at *
  have hb6 : Below x6.w1.heap.size x6.w1 W1 := hW ▸ (by repeat (first | exact Below.refl _ _ | refine Below.alloc ?_ (by simp; try omega) _ | refine Below.drew ?_))
  have hX : Blk W1 x6.w1.heap.size 39 C6 := by subst hW; exact Blk.new _ _ _
  have hb1 : Below W0.heap.size W0 W1 := held_next x6.below hb6
  clear hW
  have ZX := Lib.hid H6.size
  have kX : ∀ y : Aft W1, Blk y.w1 x6.w1.heap.size 39 C6 := fun y => hX.below y.below
  replace kA : ∀ y : Aft W1, Blk y.w1 w.heap.size 31 CA := fun y => kA ⟨y.w1, held_next hb1 y.below⟩
  replace kB : ∀ y : Aft W1, Blk y.w1 (w.heap.size + 1) 31 CB := fun y => kB ⟨y.w1, held_next hb1 y.below⟩
  replace RR := Lib.hid (RR.out.below hb1)
  replace RR' := Lib.hid (RR'.out.below hb1)
  have HX := Lib.hid (H6.below hb6)
  replace hb0 := held_next hb0 hb1
  clear hb1 hb6 hX H6
  refine (toAidC_c d' CB _ hf' RR'.out).mono ?_
  rintro e w7 ⟨C7, rfl, H7, b7⟩
  replace HX := Lib.hid (HX.out.below b7)
  obtain ⟨x7, rfl⟩ : ∃ x : Aft W1, w7 = x.w1 := ⟨⟨w7, b7⟩, rfl⟩
  clear b7
  have hSt := aid_store H7
  have zC := H7.size
  have lX : ∀ o, Blk (x7.w1.alloc o) x6.w1.heap.size 39 C6 := fun o => (kX x7).below ((Below.refl _ _).alloc (Nat.le_refl _) o)
  have lY : Blk (x7.w1.alloc (.cells C7 39)) x7.w1.heap.size 39 C7 := Blk.new _ _ _
  have ZY := Lib.hid H7.size
  go_wp2_with (first
    | (refine wpList_load_row rfl 39 _ rfl (x6.w1.heap.size) rfl 39 C6 (0, 0) _ (blk_row (lX _)) Try.underlying39 rfl (sizeI ZX.out) ?_)
    | (refine wpList_load_row rfl 39 _ rfl (x7.w1.heap.size) rfl 39 C7 (0, 0) _ (blk_row lY) Try.underlying39 rfl (sizeI ZY.out) ?_))
  clear hSt zC lX lY
  generalize hW : x7.w1.alloc (.cells C7 39) = W2 at *
  have hb6 : Below x7.w1.heap.size x7.w1 W2 := hW ▸ (by repeat (first | exact Below.refl _ _ | refine Below.alloc ?_ (by simp; try omega) _ | refine Below.drew ?_))
  have hY : Blk W2 x7.w1.heap.size 39 C7 := by subst hW; exact Blk.new _ _ _
  have hb1 : Below W1.heap.size W1 W2 := held_next x7.below hb6
  clear hW
  have kY : ∀ y : Aft W2, Blk y.w1 x7.w1.heap.size 39 C7 := fun y => hY.below y.below
  replace kA : ∀ y : Aft W2, Blk y.w1 w.heap.size 31 CA := fun y => kA ⟨y.w1, held_next hb1 y.below⟩
  replace kB : ∀ y : Aft W2, Blk y.w1 (w.heap.size + 1) 31 CB := fun y => kB ⟨y.w1, held_next hb1 y.below⟩
  replace kX : ∀ y : Aft W2, Blk y.w1 x6.w1.heap.size 39 C6 := fun y => kX ⟨y.w1, held_next hb1 y.below⟩
  replace RR := Lib.hid (RR.out.below hb1)
  replace RR' := Lib.hid (RR'.out.below hb1)
  have HY := Lib.hid (H7.below hb6)
  replace HX := Lib.hid (HX.out.below hb6)
  replace hb0 := held_next hb0 hb1
  clear hb1 hb6 hY H7
  refine (HI.out C6 C7 _ hf hf' HX.out HY.out).mono ?_
  rintro e w8 ⟨rfl, b8⟩
  replace HX := Lib.hid (HX.out.below b8)
  replace HY := Lib.hid (HY.out.below b8)
  obtain ⟨x8, rfl⟩ : ∃ x : Aft W2, w8 = x.w1 := ⟨⟨w8, b8⟩, rfl⟩
  clear b8 HI
  go_wp2_with fail
  refine wp_region_plan (C := fun w' => ∃ x : Aft W2, w' = x.w1) [(0, true), (1, true), (2, false), (3, false)] (by kernel_rfl) (by kernel_rfl) (fun _ _ d _ _ h => by cases d <;> exact h) ⟨⟨_, x8.below.drew⟩, rfl⟩ ?_
  refine plan_load rfl rfl 39 _ rfl (x6.w1.heap.size) rfl 39 C6 (by rintro _ ⟨x, rfl⟩; exact kX x) Try.underlying39 rfl (sizeI ZX.out) ?_
  go_simp
  refine plan_load rfl rfl 31 _ rfl (w.heap.size) rfl 31 CA (by rintro _ ⟨x, rfl⟩; exact kA x) Try.underlying31 rfl (sizeL ZA.out) ?_
  go_simp
  refine plan_alone rfl rfl ?_
  go_simp
  have bd := x8.below.drew
  refine (toAidC_c d CA _ hf (RR.out.below bd)).mono ?_
  rintro e w9 ⟨C9, rfl, H9, b9⟩
  replace HX := Lib.hid ((HX.out.below (Below.refl _ x8.w1).drew).below b9)
  replace HY := Lib.hid ((HY.out.below (Below.refl _ x8.w1).drew).below b9)
  obtain ⟨x9, rfl⟩ : ∃ x : Aft W2, w9 = x.w1 := ⟨⟨w9, held_next bd b9⟩, rfl⟩
  clear bd b9
  refine ⟨⟨x9, rfl⟩, ?_⟩
  refine plan_alone rfl rfl ?_
  go_simp
  refine (eqAidC_same d C6 C9 _ hf HX.out H9).mono ?_
  rintro e w10 ⟨rfl, b10⟩
  replace HY := Lib.hid (HY.out.below b10)
  obtain ⟨x10, rfl⟩ : ∃ x : Aft W2, w10 = x.w1 := ⟨⟨w10, held_next x9.below b10⟩, rfl⟩
  refine ⟨⟨x10, rfl⟩, ?_⟩
  refine plan_end ?_
  clear b10 H9 HX
  go_wp2_with fail
  refine wp_region_plan (C := fun w' => ∃ x : Aft W2, w' = x.w1) [(0, true), (1, true), (2, false), (3, false)] (by kernel_rfl) (by kernel_rfl) (fun _ _ d _ _ h => by cases d <;> exact h) ⟨⟨_, x10.below.drew⟩, rfl⟩ ?_
  refine plan_load rfl rfl 39 _ rfl (x7.w1.heap.size) rfl 39 C7 (by rintro _ ⟨x, rfl⟩; exact kY x) Try.underlying39 rfl (sizeI ZY.out) ?_
  go_simp
  refine plan_load rfl rfl 31 _ rfl (w.heap.size + 1) rfl 31 CB (by rintro _ ⟨x, rfl⟩; exact kB x) Try.underlying31 rfl (sizeL ZB.out) ?_
  go_simp
  refine plan_alone rfl rfl ?_
  go_simp
  have bd := x10.below.drew
  refine (toAidC_c d' CB _ hf' (RR'.out.below bd)).mono ?_
  rintro e w11 ⟨C11, rfl, H11, b11⟩
  replace HY := Lib.hid ((HY.out.below (Below.refl _ x10.w1).drew).below b11)
  obtain ⟨x11, rfl⟩ : ∃ x : Aft W2, w11 = x.w1 := ⟨⟨w11, held_next bd b11⟩, rfl⟩
  clear bd b11
  refine ⟨⟨x11, rfl⟩, ?_⟩
  refine plan_alone rfl rfl ?_
  go_simp
  refine (eqAidC_same d' C7 C11 _ hf' HY.out H11).mono ?_
  rintro e w12 ⟨rfl, b12⟩
  obtain ⟨x12, rfl⟩ : ∃ x : Aft W2, w12 = x.w1 := ⟨⟨w12, held_next x11.below b12⟩, rfl⟩
  refine ⟨⟨x12, rfl⟩, ?_⟩
  refine plan_end ?_
  clear b12
  go_wp2
  go_ret
  exact ⟨rfl, held_next hb0 x12.below⟩
theorem fnExactSameAid_walk {w : World} (anum : Int) (_wanum : (Lit.int .i64 anum).wf = true) (aname : ByteArray) (haname : aname.size ≤ maxLen) (aax : Int) (_waax : (Lit.int .i64 aax).wf = true) (aay : Int) (_waay : (Lit.int .i64 aay).wf = true) (aht : Int) (_waht : (Lit.int .i64 aht).wf = true) (akd : Int) (_wakd : (Lit.int .i64 akd).wf = true) (amc : ByteArray) (hamc : amc.size ≤ maxLen) (ams : ByteArray) (hams : ams.size ≤ maxLen) (amt : ByteArray) (hamt : amt.size ≤ maxLen) (alk : Int) (_walk : (Lit.int .i64 alk).wf = true) (aG : Option Addr) (agn agc : Nat) (hagn : agn ≤ maxLen) (raG : Rows0 [0] w aG agn) (alt : ByteArray) (halt : alt.size ≤ maxLen) (acl : ByteArray) (hacl : acl.size ≤ maxLen) (alp : Int) (_walp : (Lit.int .i64 alp).wf = true) (aS : Option Addr) (asn asc : Nat) (hasn : asn ≤ maxLen) (raS : Rows0 [0, 0, 1] w aS asn) (ait : Int) (_wait : (Lit.int .i64 ait).wf = true) (bnum : Int) (_wbnum : (Lit.int .i64 bnum).wf = true) (bname : ByteArray) (hbname : bname.size ≤ maxLen) (bax : Int) (_wbax : (Lit.int .i64 bax).wf = true) (bay : Int) (_wbay : (Lit.int .i64 bay).wf = true) (bht : Int) (_wbht : (Lit.int .i64 bht).wf = true) (bkd : Int) (_wbkd : (Lit.int .i64 bkd).wf = true) (bmc : ByteArray) (hbmc : bmc.size ≤ maxLen) (bms : ByteArray) (hbms : bms.size ≤ maxLen) (bmt : ByteArray) (hbmt : bmt.size ≤ maxLen) (blk : Int) (_wblk : (Lit.int .i64 blk).wf = true) (bG : Option Addr) (bgn bgc : Nat) (hbgn : bgn ≤ maxLen) (rbG : Rows0 [0] w bG bgn) (blt : ByteArray) (hblt : blt.size ≤ maxLen) (bcl : ByteArray) (hbcl : bcl.size ≤ maxLen) (blp : Int) (_wblp : (Lit.int .i64 blp).wf = true) (bS : Option Addr) (bsn bsc : Nat) (hbsn : bsn ≤ maxLen) (rbS : Rows0 [0, 0, 1] w bS bsn) (bit : Int) (_wbit : (Lit.int .i64 bit).wf = true) :
    Calls Try.prog 3 #[.agg #[.int .i64 anum, .string aname, .int .i64 aax, .int .i64 aay, .int .i64 aht, .int .i64 akd, .string amc, .string ams, .string amt, .int .i64 alk, .slice aG agn agc, .string alt, .string acl, .int .i64 alp, .slice aS asn asc, .int .i64 ait], .agg #[.int .i64 bnum, .string bname, .int .i64 bax, .int .i64 bay, .int .i64 bht, .int .i64 bkd, .string bmc, .string bms, .string bmt, .int .i64 blk, .slice bG bgn bgc, .string blt, .string bcl, .int .i64 blp, .slice bS bsn bsc, .int .i64 bit]] w fun e w' => e = .returned (.bool true) ∧ Below w.heap.size w w' := by
  obtain ⟨af, afh⟩ := rowsNum raG
  obtain ⟨as0, as1, as2, ash, aq⟩ := rowsSector raS
  obtain ⟨bf, bfh⟩ := rowsNum rbG
  obtain ⟨bs0, bs1, bs2, bsh, bq⟩ := rowsSector rbS
  exact sameAid_body (⟨anum, aname, aax, aay, aht, akd, amc, ams, amt, ⟨alk, agn, af, alt, acl, alp⟩, asn, as0, as1, as2, ait⟩ : AidD) (⟨bnum, bname, bax, bay, bht, bkd, bmc, bms, bmt, ⟨blk, bgn, bf, blt, bcl, blp⟩, bsn, bs0, bs1, bs2, bit⟩ : AidD) _ _ w ⟨haname, hamc, hams, hamt, hagn, halt, hacl, hasn, fun i hi => (aq i hi).2.2⟩ ⟨hbname, hbmc, hbms, hbmt, hbgn, hblt, hbcl, hbsn, fun i hi => (bq i hi).2.2⟩ ⟨_, _, _, _, rfl, afh, ash⟩ ⟨_, _, _, _, rfl, bfh, bsh⟩
namespace fnExactSameAidDone
open Go.ChangeShapes Go.WideShapes Go.ChangeAt Go.RowKit Go.Joins
open Go.ChangeMaps (open_string shut_string)
theorem arr16 {cs : Array Value} (h : cs.size = 16) : ∃ c0 c1 c2 c3 c4 c5 c6 c7 c8 c9 c10 c11 c12 c13 c14 c15, cs = #[c0, c1, c2, c3, c4, c5, c6, c7, c8, c9, c10, c11, c12, c13, c14, c15] := by
  obtain ⟨l⟩ := cs
  match l, h with
  | [c0, c1, c2, c3, c4, c5, c6, c7, c8, c9, c10, c11, c12, c13, c14, c15], _ => exact ⟨c0, c1, c2, c3, c4, c5, c6, c7, c8, c9, c10, c11, c12, c13, c14, c15, rfl⟩
set_option maxRecDepth 100000 in
theorem lifted (os : Os) (started : os.Started) (H : Type) (enc : TypeId × Value → H) :
    ReturnsInHanded {} Try.checked os 3 .any (Rows.fnExactSameAidSpec.pre6 enc Try.prog Try.f3 Rows.fnExactSameAidRow.domain false) (Rows.fnExactSameAidSpec.post enc Try.prog Try.f3 false true false false) := by
  refine returnsInHanded_of_change (C := Try.checked) lawOwn started (by kernel_rfl) Try.func3
    (ChangeSpec.witness6 (enc := enc) (C := Try.checked) false ⟨#[], #[.agg #[.int .i64 0, .string ByteArray.empty, .int .i64 0, .int .i64 0, .int .i64 0, .int .i64 0, .string ByteArray.empty, .string ByteArray.empty, .string ByteArray.empty, .int .i64 0, .slice none 0 0, .string ByteArray.empty, .string ByteArray.empty, .int .i64 0, .slice none 0 0, .int .i64 0], .agg #[.int .i64 0, .string ByteArray.empty, .int .i64 0, .int .i64 0, .int .i64 0, .int .i64 0, .string ByteArray.empty, .string ByteArray.empty, .string ByteArray.empty, .int .i64 0, .slice none 0 0, .string ByteArray.empty, .string ByteArray.empty, .int .i64 0, .slice none 0 0, .int .i64 0]], []⟩ 8 (by kernel_rfl) (by kernel_rfl) (by kernel_rfl) (by kernel_rfl)) ?_
  intro W base args ds gs before hval0 hW hcnd _
  have hval : ∀ (j : Nat) t v, Try.f3.params[j]? = some t → args[j]? = some v → Value.okWide Try.prog W .any base t v := hval0
  have hW' := hW
  obtain ⟨p, q, hA0, hV, rfl, hfz, hnd⟩ := hW
  have hA : DataW.TrodAll enc Try.prog W 0 (fun _ => true) true Try.f3.params.toList args.toList ds p := hA0
  rw [Try.params3] at hA hval
  obtain ⟨v0, vs0, d0, ds0, p0, q0, hargs, rfl, rfl, h0, r0⟩ := trodAll_cons hA
  obtain ⟨v1, vs1, d1, ds1, p1, q1, rfl, rfl, rfl, h1, r1⟩ := trodAll_cons r0
  obtain ⟨rfl, rfl, rfl⟩ := trodAll_nil r1
  obtain rfl : args = #[v0, v1] := by cases args; simp_all
  obtain ⟨rfl, rfl⟩ := trodVars_none hV
  have k0 := h0
  have lt0 : ∀ x ∈ p0, x.block < W.heap.size := by obtain ⟨m, hm⟩ := k0; exact DataW.trod_lt m _ _ _ hm
  have k1 := h1
  have lt1 : ∀ x ∈ p1, x.block < W.heap.size := by obtain ⟨m, hm⟩ := k1; exact DataW.trod_lt m _ _ _ hm
  suffices hwalk : Calls Try.prog 3 #[v0, v1] W fun e w' => e = .returned (.bool true) ∧ Below W.heap.size W w' by
    refine hwalk.mono fun e W' ⟨he, bel⟩ => ?_
    subst he
    exact ⟨_, rfl, _, _, _, [], _, [], hW', trodAll_mk1 (shut_bool Try.underlying4 _), (trodAll_cons_mk (Below.trod lawLaid (by kernel_rfl) (of_decide_eq_true (by kernel_rfl)) k0 bel lt0) (trodAll_cons_mk (Below.trod lawLaid (by kernel_rfl) (of_decide_eq_true (by kernel_rfl)) k1 bel lt1) trodAll_mk0)), rfl, bel.frame _, fun h => by cases h⟩
  clear hA0 hval0
  obtain ⟨cs0, rfl, hz0⟩ := okWide_struct Try.underlying31 (hval 0 31 v0 rfl rfl)
  have hq0 := agg_leaves (ks := [0, 1, 0, 0, 0, 0, 1, 1, 1, 0, 28, 1, 1, 0, 31, 0]) 6 (by kernel_rfl) (by kernel_rfl) h0
  obtain ⟨c0_0, c0_1, c0_2, c0_3, c0_4, c0_5, c0_6, c0_7, c0_8, c0_9, c0_10, c0_11, c0_12, c0_13, c0_14, c0_15, rfl⟩ := arr16 (hz0.trans (by kernel_rfl))
  obtain ⟨u0_0, e0_0, l0_0⟩ := hq0 0 _ rfl
  obtain rfl : c0_0 = u0_0 := Option.some.inj e0_0
  obtain ⟨a0_0, rfl, w0_0⟩ := l0_0.1.1 rfl
  obtain ⟨u0_1, e0_1, l0_1⟩ := hq0 1 _ rfl
  obtain rfl : c0_1 = u0_1 := Option.some.inj e0_1
  obtain ⟨a0_1, rfl, w0_1⟩ := l0_1.1.2 rfl
  obtain ⟨u0_2, e0_2, l0_2⟩ := hq0 2 _ rfl
  obtain rfl : c0_2 = u0_2 := Option.some.inj e0_2
  obtain ⟨a0_2, rfl, w0_2⟩ := l0_2.1.1 rfl
  obtain ⟨u0_3, e0_3, l0_3⟩ := hq0 3 _ rfl
  obtain rfl : c0_3 = u0_3 := Option.some.inj e0_3
  obtain ⟨a0_3, rfl, w0_3⟩ := l0_3.1.1 rfl
  obtain ⟨u0_4, e0_4, l0_4⟩ := hq0 4 _ rfl
  obtain rfl : c0_4 = u0_4 := Option.some.inj e0_4
  obtain ⟨a0_4, rfl, w0_4⟩ := l0_4.1.1 rfl
  obtain ⟨u0_5, e0_5, l0_5⟩ := hq0 5 _ rfl
  obtain rfl : c0_5 = u0_5 := Option.some.inj e0_5
  obtain ⟨a0_5, rfl, w0_5⟩ := l0_5.1.1 rfl
  obtain ⟨u0_6, e0_6, l0_6⟩ := hq0 6 _ rfl
  obtain rfl : c0_6 = u0_6 := Option.some.inj e0_6
  obtain ⟨a0_6, rfl, w0_6⟩ := l0_6.1.2 rfl
  obtain ⟨u0_7, e0_7, l0_7⟩ := hq0 7 _ rfl
  obtain rfl : c0_7 = u0_7 := Option.some.inj e0_7
  obtain ⟨a0_7, rfl, w0_7⟩ := l0_7.1.2 rfl
  obtain ⟨u0_8, e0_8, l0_8⟩ := hq0 8 _ rfl
  obtain rfl : c0_8 = u0_8 := Option.some.inj e0_8
  obtain ⟨a0_8, rfl, w0_8⟩ := l0_8.1.2 rfl
  obtain ⟨u0_9, e0_9, l0_9⟩ := hq0 9 _ rfl
  obtain rfl : c0_9 = u0_9 := Option.some.inj e0_9
  obtain ⟨a0_9, rfl, w0_9⟩ := l0_9.1.1 rfl
  obtain ⟨u0_10, e0_10, l0_10⟩ := hq0 10 _ rfl
  obtain rfl : c0_10 = u0_10 := Option.some.inj e0_10
  obtain ⟨a0_10, len0_10, cap0_10, rfl, w0_10, g0_10⟩ := l0_10.2 26 rfl
  have r0_10 := g0_10 2 [0] Try.underlying26 (by kernel_rfl) (by kernel_rfl) (by decide)
  obtain ⟨u0_11, e0_11, l0_11⟩ := hq0 11 _ rfl
  obtain rfl : c0_11 = u0_11 := Option.some.inj e0_11
  obtain ⟨a0_11, rfl, w0_11⟩ := l0_11.1.2 rfl
  obtain ⟨u0_12, e0_12, l0_12⟩ := hq0 12 _ rfl
  obtain rfl : c0_12 = u0_12 := Option.some.inj e0_12
  obtain ⟨a0_12, rfl, w0_12⟩ := l0_12.1.2 rfl
  obtain ⟨u0_13, e0_13, l0_13⟩ := hq0 13 _ rfl
  obtain rfl : c0_13 = u0_13 := Option.some.inj e0_13
  obtain ⟨a0_13, rfl, w0_13⟩ := l0_13.1.1 rfl
  obtain ⟨u0_14, e0_14, l0_14⟩ := hq0 14 _ rfl
  obtain rfl : c0_14 = u0_14 := Option.some.inj e0_14
  obtain ⟨a0_14, len0_14, cap0_14, rfl, w0_14, g0_14⟩ := l0_14.2 29 rfl
  have r0_14 := g0_14 66 [0, 0, 1] Try.underlying29 (by kernel_rfl) (by kernel_rfl) (by decide)
  obtain ⟨u0_15, e0_15, l0_15⟩ := hq0 15 _ rfl
  obtain rfl : c0_15 = u0_15 := Option.some.inj e0_15
  obtain ⟨a0_15, rfl, w0_15⟩ := l0_15.1.1 rfl
  obtain ⟨cs1, rfl, hz1⟩ := okWide_struct Try.underlying31 (hval 1 31 v1 rfl rfl)
  have hq1 := agg_leaves (ks := [0, 1, 0, 0, 0, 0, 1, 1, 1, 0, 28, 1, 1, 0, 31, 0]) 6 (by kernel_rfl) (by kernel_rfl) h1
  obtain ⟨c1_0, c1_1, c1_2, c1_3, c1_4, c1_5, c1_6, c1_7, c1_8, c1_9, c1_10, c1_11, c1_12, c1_13, c1_14, c1_15, rfl⟩ := arr16 (hz1.trans (by kernel_rfl))
  obtain ⟨u1_0, e1_0, l1_0⟩ := hq1 0 _ rfl
  obtain rfl : c1_0 = u1_0 := Option.some.inj e1_0
  obtain ⟨a1_0, rfl, w1_0⟩ := l1_0.1.1 rfl
  obtain ⟨u1_1, e1_1, l1_1⟩ := hq1 1 _ rfl
  obtain rfl : c1_1 = u1_1 := Option.some.inj e1_1
  obtain ⟨a1_1, rfl, w1_1⟩ := l1_1.1.2 rfl
  obtain ⟨u1_2, e1_2, l1_2⟩ := hq1 2 _ rfl
  obtain rfl : c1_2 = u1_2 := Option.some.inj e1_2
  obtain ⟨a1_2, rfl, w1_2⟩ := l1_2.1.1 rfl
  obtain ⟨u1_3, e1_3, l1_3⟩ := hq1 3 _ rfl
  obtain rfl : c1_3 = u1_3 := Option.some.inj e1_3
  obtain ⟨a1_3, rfl, w1_3⟩ := l1_3.1.1 rfl
  obtain ⟨u1_4, e1_4, l1_4⟩ := hq1 4 _ rfl
  obtain rfl : c1_4 = u1_4 := Option.some.inj e1_4
  obtain ⟨a1_4, rfl, w1_4⟩ := l1_4.1.1 rfl
  obtain ⟨u1_5, e1_5, l1_5⟩ := hq1 5 _ rfl
  obtain rfl : c1_5 = u1_5 := Option.some.inj e1_5
  obtain ⟨a1_5, rfl, w1_5⟩ := l1_5.1.1 rfl
  obtain ⟨u1_6, e1_6, l1_6⟩ := hq1 6 _ rfl
  obtain rfl : c1_6 = u1_6 := Option.some.inj e1_6
  obtain ⟨a1_6, rfl, w1_6⟩ := l1_6.1.2 rfl
  obtain ⟨u1_7, e1_7, l1_7⟩ := hq1 7 _ rfl
  obtain rfl : c1_7 = u1_7 := Option.some.inj e1_7
  obtain ⟨a1_7, rfl, w1_7⟩ := l1_7.1.2 rfl
  obtain ⟨u1_8, e1_8, l1_8⟩ := hq1 8 _ rfl
  obtain rfl : c1_8 = u1_8 := Option.some.inj e1_8
  obtain ⟨a1_8, rfl, w1_8⟩ := l1_8.1.2 rfl
  obtain ⟨u1_9, e1_9, l1_9⟩ := hq1 9 _ rfl
  obtain rfl : c1_9 = u1_9 := Option.some.inj e1_9
  obtain ⟨a1_9, rfl, w1_9⟩ := l1_9.1.1 rfl
  obtain ⟨u1_10, e1_10, l1_10⟩ := hq1 10 _ rfl
  obtain rfl : c1_10 = u1_10 := Option.some.inj e1_10
  obtain ⟨a1_10, len1_10, cap1_10, rfl, w1_10, g1_10⟩ := l1_10.2 26 rfl
  have r1_10 := g1_10 2 [0] Try.underlying26 (by kernel_rfl) (by kernel_rfl) (by decide)
  obtain ⟨u1_11, e1_11, l1_11⟩ := hq1 11 _ rfl
  obtain rfl : c1_11 = u1_11 := Option.some.inj e1_11
  obtain ⟨a1_11, rfl, w1_11⟩ := l1_11.1.2 rfl
  obtain ⟨u1_12, e1_12, l1_12⟩ := hq1 12 _ rfl
  obtain rfl : c1_12 = u1_12 := Option.some.inj e1_12
  obtain ⟨a1_12, rfl, w1_12⟩ := l1_12.1.2 rfl
  obtain ⟨u1_13, e1_13, l1_13⟩ := hq1 13 _ rfl
  obtain rfl : c1_13 = u1_13 := Option.some.inj e1_13
  obtain ⟨a1_13, rfl, w1_13⟩ := l1_13.1.1 rfl
  obtain ⟨u1_14, e1_14, l1_14⟩ := hq1 14 _ rfl
  obtain rfl : c1_14 = u1_14 := Option.some.inj e1_14
  obtain ⟨a1_14, len1_14, cap1_14, rfl, w1_14, g1_14⟩ := l1_14.2 29 rfl
  have r1_14 := g1_14 66 [0, 0, 1] Try.underlying29 (by kernel_rfl) (by kernel_rfl) (by decide)
  obtain ⟨u1_15, e1_15, l1_15⟩ := hq1 15 _ rfl
  obtain rfl : c1_15 = u1_15 := Option.some.inj e1_15
  obtain ⟨a1_15, rfl, w1_15⟩ := l1_15.1.1 rfl
  exact fnExactSameAid_walk (w := W) a0_0 w0_0 a0_1 w0_1 a0_2 w0_2 a0_3 w0_3 a0_4 w0_4 a0_5 w0_5 a0_6 w0_6 a0_7 w0_7 a0_8 w0_8 a0_9 w0_9 a0_10 len0_10 cap0_10 w0_10 r0_10 a0_11 w0_11 a0_12 w0_12 a0_13 w0_13 a0_14 len0_14 cap0_14 w0_14 r0_14 a0_15 w0_15 a1_0 w1_0 a1_1 w1_1 a1_2 w1_2 a1_3 w1_3 a1_4 w1_4 a1_5 w1_5 a1_6 w1_6 a1_7 w1_7 a1_8 w1_8 a1_9 w1_9 a1_10 len1_10 cap1_10 w1_10 r1_10 a1_11 w1_11 a1_12 w1_12 a1_13 w1_13 a1_14 len1_14 cap1_14 w1_14 r1_14 a1_15 w1_15

theorem over : Rows.fnExactSameAidRow.holds Try.pinned (OpenSpec.ofChange Rows.fnExactSameAidSpec) :=
  OpenClaim.holds_of_wide 3 Try.f3 rfl rfl rfl rfl rfl rfl rfl ⟨rfl, rfl, rfl, rfl, rfl⟩ rfl rfl rfl rfl rfl (by kernel_rfl) Try.func3 (by kernel_rfl)
    (of_decide_eq_true (by kernel_rfl)) (by unfold Func.isWrapper; first | (rw [if_pos (by decide +kernel)]; kernel_rfl) | (rw [if_neg (by decide +kernel)]; exact ⟨rfl, rfl⟩))
    (fun os started H enc _ => lifted os started H enc)

theorem proved : Rows.FnExactSameAidSaid := over
#print axioms proved
end fnExactSameAidDone
end Go.Proofs.Ytolijmldobncbaa
