/- Two aids held against each other: the program. -/
import Derived.Test.YtolijmldobncbaaAidB
namespace Go.Proofs.Ytolijmldobncbaa
open Go Go.RowKit
set_option maxRecDepth 100000 in
set_option maxHeartbeats 8000000 in
theorem implSameAid_c (d d' : AidD) (G : Option Addr) (gc : Nat) (S : Option Addr) (sc : Nat) (G' : Option Addr) (gc' : Nat) (S' : Option Addr) (sc' : Nat) (w : World) (hgn : d.ch.n ≤ 1048576) (hsn : d.sn ≤ 1048576) (hgn' : d'.ch.n ≤ 1048576) (hsn' : d'.sn ≤ 1048576) (hR : d.Has w G S) (hR' : d'.Has w G' S') :
    Calls Try.prog 8 #[d.v G gc S sc, d'.v G' gc' S' sc'] w fun e w' => e = .returned (.bool (d.same d')) ∧ Below w.heap.size w w' := by
  have HC := Lib.hid (fun W (h : d.Has W G S) (h' : d'.Has W G' S') => implSameCh_c d.ch d'.ch G gc G' gc' W hgn hgn' h.1 h'.1)
  have HS := Lib.hid (fun W (h : d.Has W G S) (h' : d'.Has W G' S') => implSameSector_c S S' d.sn d'.sn sc sc' d.s0 d.s1 d.s2 d'.s0 d'.s1 d'.s2 W hsn hsn' h.2 h'.2)
  have HEP := eqlPoint_run d.ax d.ay d'.ax d'.ay
  have HEM := eqlMark_run d.kd d.mc d.ms d.mt d'.kd d'.mc d'.ms d'.mt
  unfold AidD.same AidD.v AidD.cells
  unfold ChrD.v at HC
  generalize dPoint d.ax d.ay d'.ax d'.ay = vP at *
  generalize dMark d.kd d.mc d.ms d.mt d'.kd d'.mc d'.ms d'.mt = vM at *
  generalize d.ch.same d'.ch = vC at *
  generalize sameSector d.sn d'.sn d.s0 d.s1 d.s2 d'.s0 d'.s1 d'.s2 = vS at *
  cases v0 : (d.num == d'.num)
  · skip
    go_enter Try.func8, Try.ntmps8
    go_wp2_with fail
    first
      | (go_ret
         exact ⟨ret_bool (by simp), (by repeat (first | exact Below.refl _ _ | refine Below.alloc ?_ (by simp; try omega) _ | refine Below.drew ?_))⟩)
      | (generalize hW : (w.alloc (.cells #[.int .i64 d.num, .string d.name, .int .i64 d.ax, .int .i64 d.ay, .int .i64 d.ht, .int .i64 d.kd, .string d.mc, .string d.ms, .string d.mt, .int .i64 d.ch.k, .slice G d.ch.n gc, .string d.ch.lt, .string d.ch.cl, .int .i64 d.ch.pd, .slice S d.sn sc, .int .i64 d.it] 39)).alloc (.cells #[.int .i64 d'.num, .string d'.name, .int .i64 d'.ax, .int .i64 d'.ay, .int .i64 d'.ht, .int .i64 d'.kd, .string d'.mc, .string d'.ms, .string d'.mt, .int .i64 d'.ch.k, .slice G' d'.ch.n gc', .string d'.ch.lt, .string d'.ch.cl, .int .i64 d'.ch.pd, .slice S' d'.sn sc', .int .i64 d'.it] 39) = W
         have hbW : Below w.heap.size w W := hW ▸ (by repeat (first | exact Below.refl _ _ | refine Below.alloc ?_ (by simp; try omega) _ | refine Below.drew ?_))
         have hA : Blk W w.heap.size 39 #[.int .i64 d.num, .string d.name, .int .i64 d.ax, .int .i64 d.ay, .int .i64 d.ht, .int .i64 d.kd, .string d.mc, .string d.ms, .string d.mt, .int .i64 d.ch.k, .slice G d.ch.n gc, .string d.ch.lt, .string d.ch.cl, .int .i64 d.ch.pd, .slice S d.sn sc, .int .i64 d.it] := by subst hW; exact (Blk.new _ _ _).below (by repeat (first | exact Below.refl _ _ | refine Below.alloc ?_ (by simp; try omega) _ | refine Below.drew ?_))
         have hB : Blk W (w.heap.size + 1) 39 #[.int .i64 d'.num, .string d'.name, .int .i64 d'.ax, .int .i64 d'.ay, .int .i64 d'.ht, .int .i64 d'.kd, .string d'.mc, .string d'.ms, .string d'.mt, .int .i64 d'.ch.k, .slice G' d'.ch.n gc', .string d'.ch.lt, .string d'.ch.cl, .int .i64 d'.ch.pd, .slice S' d'.sn sc', .int .i64 d'.it] := by subst hW; have := Blk.new (w.alloc (.cells #[.int .i64 d.num, .string d.name, .int .i64 d.ax, .int .i64 d.ay, .int .i64 d.ht, .int .i64 d.kd, .string d.mc, .string d.ms, .string d.mt, .int .i64 d.ch.k, .slice G d.ch.n gc, .string d.ch.lt, .string d.ch.cl, .int .i64 d.ch.pd, .slice S d.sn sc, .int .i64 d.it] 39)) 39 #[.int .i64 d'.num, .string d'.name, .int .i64 d'.ax, .int .i64 d'.ay, .int .i64 d'.ht, .int .i64 d'.kd, .string d'.mc, .string d'.ms, .string d'.mt, .int .i64 d'.ch.k, .slice G' d'.ch.n gc', .string d'.ch.lt, .string d'.ch.cl, .int .i64 d'.ch.pd, .slice S' d'.sn sc', .int .i64 d'.it]; rwa [World.size_alloc] at this
         clear hW
         refine (HC.out W (hR.below hbW) (hR'.below hbW)).mono ?_
         rintro e w1 ⟨rfl, hb1⟩
         replace hA := hA.below hb1
         replace hB := hB.below hb1
         replace hbW := held_next hbW hb1
         have cA := hA.cell
         have cB := hB.cell
         go_wp2_with fail
         first
           | (go_ret
              exact ⟨ret_bool (by simp), hbW⟩)
           | (refine (HS.out w1 (hR.below hbW) (hR'.below hbW)).mono ?_
              rintro e w2 ⟨rfl, hb2⟩
              replace hA := hA.below hb2
              replace hB := hB.below hb2
              replace hbW := held_next hbW hb2
              clear cA cB
              have cA := hA.cell
              have cB := hB.cell
              go_wp2
              go_ret
              exact ⟨ret_bool (by simp), hbW⟩))
  · skip
    cases v1 : (d.name.toList == d'.name.toList)
    · skip
      go_enter Try.func8, Try.ntmps8
      go_wp2_with fail
      first
        | (go_ret
           exact ⟨ret_bool (by simp), (by repeat (first | exact Below.refl _ _ | refine Below.alloc ?_ (by simp; try omega) _ | refine Below.drew ?_))⟩)
        | (generalize hW : (w.alloc (.cells #[.int .i64 d.num, .string d.name, .int .i64 d.ax, .int .i64 d.ay, .int .i64 d.ht, .int .i64 d.kd, .string d.mc, .string d.ms, .string d.mt, .int .i64 d.ch.k, .slice G d.ch.n gc, .string d.ch.lt, .string d.ch.cl, .int .i64 d.ch.pd, .slice S d.sn sc, .int .i64 d.it] 39)).alloc (.cells #[.int .i64 d'.num, .string d'.name, .int .i64 d'.ax, .int .i64 d'.ay, .int .i64 d'.ht, .int .i64 d'.kd, .string d'.mc, .string d'.ms, .string d'.mt, .int .i64 d'.ch.k, .slice G' d'.ch.n gc', .string d'.ch.lt, .string d'.ch.cl, .int .i64 d'.ch.pd, .slice S' d'.sn sc', .int .i64 d'.it] 39) = W
           have hbW : Below w.heap.size w W := hW ▸ (by repeat (first | exact Below.refl _ _ | refine Below.alloc ?_ (by simp; try omega) _ | refine Below.drew ?_))
           have hA : Blk W w.heap.size 39 #[.int .i64 d.num, .string d.name, .int .i64 d.ax, .int .i64 d.ay, .int .i64 d.ht, .int .i64 d.kd, .string d.mc, .string d.ms, .string d.mt, .int .i64 d.ch.k, .slice G d.ch.n gc, .string d.ch.lt, .string d.ch.cl, .int .i64 d.ch.pd, .slice S d.sn sc, .int .i64 d.it] := by subst hW; exact (Blk.new _ _ _).below (by repeat (first | exact Below.refl _ _ | refine Below.alloc ?_ (by simp; try omega) _ | refine Below.drew ?_))
           have hB : Blk W (w.heap.size + 1) 39 #[.int .i64 d'.num, .string d'.name, .int .i64 d'.ax, .int .i64 d'.ay, .int .i64 d'.ht, .int .i64 d'.kd, .string d'.mc, .string d'.ms, .string d'.mt, .int .i64 d'.ch.k, .slice G' d'.ch.n gc', .string d'.ch.lt, .string d'.ch.cl, .int .i64 d'.ch.pd, .slice S' d'.sn sc', .int .i64 d'.it] := by subst hW; have := Blk.new (w.alloc (.cells #[.int .i64 d.num, .string d.name, .int .i64 d.ax, .int .i64 d.ay, .int .i64 d.ht, .int .i64 d.kd, .string d.mc, .string d.ms, .string d.mt, .int .i64 d.ch.k, .slice G d.ch.n gc, .string d.ch.lt, .string d.ch.cl, .int .i64 d.ch.pd, .slice S d.sn sc, .int .i64 d.it] 39)) 39 #[.int .i64 d'.num, .string d'.name, .int .i64 d'.ax, .int .i64 d'.ay, .int .i64 d'.ht, .int .i64 d'.kd, .string d'.mc, .string d'.ms, .string d'.mt, .int .i64 d'.ch.k, .slice G' d'.ch.n gc', .string d'.ch.lt, .string d'.ch.cl, .int .i64 d'.ch.pd, .slice S' d'.sn sc', .int .i64 d'.it]; rwa [World.size_alloc] at this
           clear hW
           refine (HC.out W (hR.below hbW) (hR'.below hbW)).mono ?_
           rintro e w1 ⟨rfl, hb1⟩
           replace hA := hA.below hb1
           replace hB := hB.below hb1
           replace hbW := held_next hbW hb1
           have cA := hA.cell
           have cB := hB.cell
           go_wp2_with fail
           first
             | (go_ret
                exact ⟨ret_bool (by simp), hbW⟩)
             | (refine (HS.out w1 (hR.below hbW) (hR'.below hbW)).mono ?_
                rintro e w2 ⟨rfl, hb2⟩
                replace hA := hA.below hb2
                replace hB := hB.below hb2
                replace hbW := held_next hbW hb2
                clear cA cB
                have cA := hA.cell
                have cB := hB.cell
                go_wp2
                go_ret
                exact ⟨ret_bool (by simp), hbW⟩))
    · skip
      cases v2 : vP
      · skip
        go_enter Try.func8, Try.ntmps8
        go_wp2_with fail
        first
          | (go_ret
             exact ⟨ret_bool (by simp), (by repeat (first | exact Below.refl _ _ | refine Below.alloc ?_ (by simp; try omega) _ | refine Below.drew ?_))⟩)
          | (generalize hW : (w.alloc (.cells #[.int .i64 d.num, .string d.name, .int .i64 d.ax, .int .i64 d.ay, .int .i64 d.ht, .int .i64 d.kd, .string d.mc, .string d.ms, .string d.mt, .int .i64 d.ch.k, .slice G d.ch.n gc, .string d.ch.lt, .string d.ch.cl, .int .i64 d.ch.pd, .slice S d.sn sc, .int .i64 d.it] 39)).alloc (.cells #[.int .i64 d'.num, .string d'.name, .int .i64 d'.ax, .int .i64 d'.ay, .int .i64 d'.ht, .int .i64 d'.kd, .string d'.mc, .string d'.ms, .string d'.mt, .int .i64 d'.ch.k, .slice G' d'.ch.n gc', .string d'.ch.lt, .string d'.ch.cl, .int .i64 d'.ch.pd, .slice S' d'.sn sc', .int .i64 d'.it] 39) = W
             have hbW : Below w.heap.size w W := hW ▸ (by repeat (first | exact Below.refl _ _ | refine Below.alloc ?_ (by simp; try omega) _ | refine Below.drew ?_))
             have hA : Blk W w.heap.size 39 #[.int .i64 d.num, .string d.name, .int .i64 d.ax, .int .i64 d.ay, .int .i64 d.ht, .int .i64 d.kd, .string d.mc, .string d.ms, .string d.mt, .int .i64 d.ch.k, .slice G d.ch.n gc, .string d.ch.lt, .string d.ch.cl, .int .i64 d.ch.pd, .slice S d.sn sc, .int .i64 d.it] := by subst hW; exact (Blk.new _ _ _).below (by repeat (first | exact Below.refl _ _ | refine Below.alloc ?_ (by simp; try omega) _ | refine Below.drew ?_))
             have hB : Blk W (w.heap.size + 1) 39 #[.int .i64 d'.num, .string d'.name, .int .i64 d'.ax, .int .i64 d'.ay, .int .i64 d'.ht, .int .i64 d'.kd, .string d'.mc, .string d'.ms, .string d'.mt, .int .i64 d'.ch.k, .slice G' d'.ch.n gc', .string d'.ch.lt, .string d'.ch.cl, .int .i64 d'.ch.pd, .slice S' d'.sn sc', .int .i64 d'.it] := by subst hW; have := Blk.new (w.alloc (.cells #[.int .i64 d.num, .string d.name, .int .i64 d.ax, .int .i64 d.ay, .int .i64 d.ht, .int .i64 d.kd, .string d.mc, .string d.ms, .string d.mt, .int .i64 d.ch.k, .slice G d.ch.n gc, .string d.ch.lt, .string d.ch.cl, .int .i64 d.ch.pd, .slice S d.sn sc, .int .i64 d.it] 39)) 39 #[.int .i64 d'.num, .string d'.name, .int .i64 d'.ax, .int .i64 d'.ay, .int .i64 d'.ht, .int .i64 d'.kd, .string d'.mc, .string d'.ms, .string d'.mt, .int .i64 d'.ch.k, .slice G' d'.ch.n gc', .string d'.ch.lt, .string d'.ch.cl, .int .i64 d'.ch.pd, .slice S' d'.sn sc', .int .i64 d'.it]; rwa [World.size_alloc] at this
             clear hW
             refine (HC.out W (hR.below hbW) (hR'.below hbW)).mono ?_
             rintro e w1 ⟨rfl, hb1⟩
             replace hA := hA.below hb1
             replace hB := hB.below hb1
             replace hbW := held_next hbW hb1
             have cA := hA.cell
             have cB := hB.cell
             go_wp2_with fail
             first
               | (go_ret
                  exact ⟨ret_bool (by simp), hbW⟩)
               | (refine (HS.out w1 (hR.below hbW) (hR'.below hbW)).mono ?_
                  rintro e w2 ⟨rfl, hb2⟩
                  replace hA := hA.below hb2
                  replace hB := hB.below hb2
                  replace hbW := held_next hbW hb2
                  clear cA cB
                  have cA := hA.cell
                  have cB := hB.cell
                  go_wp2
                  go_ret
                  exact ⟨ret_bool (by simp), hbW⟩))
      · skip
        cases v3 : (d.ht == d'.ht)
        · skip
          go_enter Try.func8, Try.ntmps8
          go_wp2_with fail
          first
            | (go_ret
               exact ⟨ret_bool (by simp), (by repeat (first | exact Below.refl _ _ | refine Below.alloc ?_ (by simp; try omega) _ | refine Below.drew ?_))⟩)
            | (generalize hW : (w.alloc (.cells #[.int .i64 d.num, .string d.name, .int .i64 d.ax, .int .i64 d.ay, .int .i64 d.ht, .int .i64 d.kd, .string d.mc, .string d.ms, .string d.mt, .int .i64 d.ch.k, .slice G d.ch.n gc, .string d.ch.lt, .string d.ch.cl, .int .i64 d.ch.pd, .slice S d.sn sc, .int .i64 d.it] 39)).alloc (.cells #[.int .i64 d'.num, .string d'.name, .int .i64 d'.ax, .int .i64 d'.ay, .int .i64 d'.ht, .int .i64 d'.kd, .string d'.mc, .string d'.ms, .string d'.mt, .int .i64 d'.ch.k, .slice G' d'.ch.n gc', .string d'.ch.lt, .string d'.ch.cl, .int .i64 d'.ch.pd, .slice S' d'.sn sc', .int .i64 d'.it] 39) = W
               have hbW : Below w.heap.size w W := hW ▸ (by repeat (first | exact Below.refl _ _ | refine Below.alloc ?_ (by simp; try omega) _ | refine Below.drew ?_))
               have hA : Blk W w.heap.size 39 #[.int .i64 d.num, .string d.name, .int .i64 d.ax, .int .i64 d.ay, .int .i64 d.ht, .int .i64 d.kd, .string d.mc, .string d.ms, .string d.mt, .int .i64 d.ch.k, .slice G d.ch.n gc, .string d.ch.lt, .string d.ch.cl, .int .i64 d.ch.pd, .slice S d.sn sc, .int .i64 d.it] := by subst hW; exact (Blk.new _ _ _).below (by repeat (first | exact Below.refl _ _ | refine Below.alloc ?_ (by simp; try omega) _ | refine Below.drew ?_))
               have hB : Blk W (w.heap.size + 1) 39 #[.int .i64 d'.num, .string d'.name, .int .i64 d'.ax, .int .i64 d'.ay, .int .i64 d'.ht, .int .i64 d'.kd, .string d'.mc, .string d'.ms, .string d'.mt, .int .i64 d'.ch.k, .slice G' d'.ch.n gc', .string d'.ch.lt, .string d'.ch.cl, .int .i64 d'.ch.pd, .slice S' d'.sn sc', .int .i64 d'.it] := by subst hW; have := Blk.new (w.alloc (.cells #[.int .i64 d.num, .string d.name, .int .i64 d.ax, .int .i64 d.ay, .int .i64 d.ht, .int .i64 d.kd, .string d.mc, .string d.ms, .string d.mt, .int .i64 d.ch.k, .slice G d.ch.n gc, .string d.ch.lt, .string d.ch.cl, .int .i64 d.ch.pd, .slice S d.sn sc, .int .i64 d.it] 39)) 39 #[.int .i64 d'.num, .string d'.name, .int .i64 d'.ax, .int .i64 d'.ay, .int .i64 d'.ht, .int .i64 d'.kd, .string d'.mc, .string d'.ms, .string d'.mt, .int .i64 d'.ch.k, .slice G' d'.ch.n gc', .string d'.ch.lt, .string d'.ch.cl, .int .i64 d'.ch.pd, .slice S' d'.sn sc', .int .i64 d'.it]; rwa [World.size_alloc] at this
               clear hW
               refine (HC.out W (hR.below hbW) (hR'.below hbW)).mono ?_
               rintro e w1 ⟨rfl, hb1⟩
               replace hA := hA.below hb1
               replace hB := hB.below hb1
               replace hbW := held_next hbW hb1
               have cA := hA.cell
               have cB := hB.cell
               go_wp2_with fail
               first
                 | (go_ret
                    exact ⟨ret_bool (by simp), hbW⟩)
                 | (refine (HS.out w1 (hR.below hbW) (hR'.below hbW)).mono ?_
                    rintro e w2 ⟨rfl, hb2⟩
                    replace hA := hA.below hb2
                    replace hB := hB.below hb2
                    replace hbW := held_next hbW hb2
                    clear cA cB
                    have cA := hA.cell
                    have cB := hB.cell
                    go_wp2
                    go_ret
                    exact ⟨ret_bool (by simp), hbW⟩))
        · skip
          cases v4 : vM
          · skip
            go_enter Try.func8, Try.ntmps8
            go_wp2_with fail
            first
              | (go_ret
                 exact ⟨ret_bool (by simp), (by repeat (first | exact Below.refl _ _ | refine Below.alloc ?_ (by simp; try omega) _ | refine Below.drew ?_))⟩)
              | (generalize hW : (w.alloc (.cells #[.int .i64 d.num, .string d.name, .int .i64 d.ax, .int .i64 d.ay, .int .i64 d.ht, .int .i64 d.kd, .string d.mc, .string d.ms, .string d.mt, .int .i64 d.ch.k, .slice G d.ch.n gc, .string d.ch.lt, .string d.ch.cl, .int .i64 d.ch.pd, .slice S d.sn sc, .int .i64 d.it] 39)).alloc (.cells #[.int .i64 d'.num, .string d'.name, .int .i64 d'.ax, .int .i64 d'.ay, .int .i64 d'.ht, .int .i64 d'.kd, .string d'.mc, .string d'.ms, .string d'.mt, .int .i64 d'.ch.k, .slice G' d'.ch.n gc', .string d'.ch.lt, .string d'.ch.cl, .int .i64 d'.ch.pd, .slice S' d'.sn sc', .int .i64 d'.it] 39) = W
                 have hbW : Below w.heap.size w W := hW ▸ (by repeat (first | exact Below.refl _ _ | refine Below.alloc ?_ (by simp; try omega) _ | refine Below.drew ?_))
                 have hA : Blk W w.heap.size 39 #[.int .i64 d.num, .string d.name, .int .i64 d.ax, .int .i64 d.ay, .int .i64 d.ht, .int .i64 d.kd, .string d.mc, .string d.ms, .string d.mt, .int .i64 d.ch.k, .slice G d.ch.n gc, .string d.ch.lt, .string d.ch.cl, .int .i64 d.ch.pd, .slice S d.sn sc, .int .i64 d.it] := by subst hW; exact (Blk.new _ _ _).below (by repeat (first | exact Below.refl _ _ | refine Below.alloc ?_ (by simp; try omega) _ | refine Below.drew ?_))
                 have hB : Blk W (w.heap.size + 1) 39 #[.int .i64 d'.num, .string d'.name, .int .i64 d'.ax, .int .i64 d'.ay, .int .i64 d'.ht, .int .i64 d'.kd, .string d'.mc, .string d'.ms, .string d'.mt, .int .i64 d'.ch.k, .slice G' d'.ch.n gc', .string d'.ch.lt, .string d'.ch.cl, .int .i64 d'.ch.pd, .slice S' d'.sn sc', .int .i64 d'.it] := by subst hW; have := Blk.new (w.alloc (.cells #[.int .i64 d.num, .string d.name, .int .i64 d.ax, .int .i64 d.ay, .int .i64 d.ht, .int .i64 d.kd, .string d.mc, .string d.ms, .string d.mt, .int .i64 d.ch.k, .slice G d.ch.n gc, .string d.ch.lt, .string d.ch.cl, .int .i64 d.ch.pd, .slice S d.sn sc, .int .i64 d.it] 39)) 39 #[.int .i64 d'.num, .string d'.name, .int .i64 d'.ax, .int .i64 d'.ay, .int .i64 d'.ht, .int .i64 d'.kd, .string d'.mc, .string d'.ms, .string d'.mt, .int .i64 d'.ch.k, .slice G' d'.ch.n gc', .string d'.ch.lt, .string d'.ch.cl, .int .i64 d'.ch.pd, .slice S' d'.sn sc', .int .i64 d'.it]; rwa [World.size_alloc] at this
                 clear hW
                 refine (HC.out W (hR.below hbW) (hR'.below hbW)).mono ?_
                 rintro e w1 ⟨rfl, hb1⟩
                 replace hA := hA.below hb1
                 replace hB := hB.below hb1
                 replace hbW := held_next hbW hb1
                 have cA := hA.cell
                 have cB := hB.cell
                 go_wp2_with fail
                 first
                   | (go_ret
                      exact ⟨ret_bool (by simp), hbW⟩)
                   | (refine (HS.out w1 (hR.below hbW) (hR'.below hbW)).mono ?_
                      rintro e w2 ⟨rfl, hb2⟩
                      replace hA := hA.below hb2
                      replace hB := hB.below hb2
                      replace hbW := held_next hbW hb2
                      clear cA cB
                      have cA := hA.cell
                      have cB := hB.cell
                      go_wp2
                      go_ret
                      exact ⟨ret_bool (by simp), hbW⟩))
          · skip
            cases v5 : vC
            · skip
              go_enter Try.func8, Try.ntmps8
              go_wp2_with fail
              first
                | (go_ret
                   exact ⟨ret_bool (by simp), (by repeat (first | exact Below.refl _ _ | refine Below.alloc ?_ (by simp; try omega) _ | refine Below.drew ?_))⟩)
                | (generalize hW : (w.alloc (.cells #[.int .i64 d.num, .string d.name, .int .i64 d.ax, .int .i64 d.ay, .int .i64 d.ht, .int .i64 d.kd, .string d.mc, .string d.ms, .string d.mt, .int .i64 d.ch.k, .slice G d.ch.n gc, .string d.ch.lt, .string d.ch.cl, .int .i64 d.ch.pd, .slice S d.sn sc, .int .i64 d.it] 39)).alloc (.cells #[.int .i64 d'.num, .string d'.name, .int .i64 d'.ax, .int .i64 d'.ay, .int .i64 d'.ht, .int .i64 d'.kd, .string d'.mc, .string d'.ms, .string d'.mt, .int .i64 d'.ch.k, .slice G' d'.ch.n gc', .string d'.ch.lt, .string d'.ch.cl, .int .i64 d'.ch.pd, .slice S' d'.sn sc', .int .i64 d'.it] 39) = W
                   have hbW : Below w.heap.size w W := hW ▸ (by repeat (first | exact Below.refl _ _ | refine Below.alloc ?_ (by simp; try omega) _ | refine Below.drew ?_))
                   have hA : Blk W w.heap.size 39 #[.int .i64 d.num, .string d.name, .int .i64 d.ax, .int .i64 d.ay, .int .i64 d.ht, .int .i64 d.kd, .string d.mc, .string d.ms, .string d.mt, .int .i64 d.ch.k, .slice G d.ch.n gc, .string d.ch.lt, .string d.ch.cl, .int .i64 d.ch.pd, .slice S d.sn sc, .int .i64 d.it] := by subst hW; exact (Blk.new _ _ _).below (by repeat (first | exact Below.refl _ _ | refine Below.alloc ?_ (by simp; try omega) _ | refine Below.drew ?_))
                   have hB : Blk W (w.heap.size + 1) 39 #[.int .i64 d'.num, .string d'.name, .int .i64 d'.ax, .int .i64 d'.ay, .int .i64 d'.ht, .int .i64 d'.kd, .string d'.mc, .string d'.ms, .string d'.mt, .int .i64 d'.ch.k, .slice G' d'.ch.n gc', .string d'.ch.lt, .string d'.ch.cl, .int .i64 d'.ch.pd, .slice S' d'.sn sc', .int .i64 d'.it] := by subst hW; have := Blk.new (w.alloc (.cells #[.int .i64 d.num, .string d.name, .int .i64 d.ax, .int .i64 d.ay, .int .i64 d.ht, .int .i64 d.kd, .string d.mc, .string d.ms, .string d.mt, .int .i64 d.ch.k, .slice G d.ch.n gc, .string d.ch.lt, .string d.ch.cl, .int .i64 d.ch.pd, .slice S d.sn sc, .int .i64 d.it] 39)) 39 #[.int .i64 d'.num, .string d'.name, .int .i64 d'.ax, .int .i64 d'.ay, .int .i64 d'.ht, .int .i64 d'.kd, .string d'.mc, .string d'.ms, .string d'.mt, .int .i64 d'.ch.k, .slice G' d'.ch.n gc', .string d'.ch.lt, .string d'.ch.cl, .int .i64 d'.ch.pd, .slice S' d'.sn sc', .int .i64 d'.it]; rwa [World.size_alloc] at this
                   clear hW
                   refine (HC.out W (hR.below hbW) (hR'.below hbW)).mono ?_
                   rintro e w1 ⟨rfl, hb1⟩
                   replace hA := hA.below hb1
                   replace hB := hB.below hb1
                   replace hbW := held_next hbW hb1
                   have cA := hA.cell
                   have cB := hB.cell
                   go_wp2_with fail
                   first
                     | (go_ret
                        exact ⟨ret_bool (by simp), hbW⟩)
                     | (refine (HS.out w1 (hR.below hbW) (hR'.below hbW)).mono ?_
                        rintro e w2 ⟨rfl, hb2⟩
                        replace hA := hA.below hb2
                        replace hB := hB.below hb2
                        replace hbW := held_next hbW hb2
                        clear cA cB
                        have cA := hA.cell
                        have cB := hB.cell
                        go_wp2
                        go_ret
                        exact ⟨ret_bool (by simp), hbW⟩))
            · skip
              cases v6 : vS
              · skip
                go_enter Try.func8, Try.ntmps8
                go_wp2_with fail
                first
                  | (go_ret
                     exact ⟨ret_bool (by simp), (by repeat (first | exact Below.refl _ _ | refine Below.alloc ?_ (by simp; try omega) _ | refine Below.drew ?_))⟩)
                  | (generalize hW : (w.alloc (.cells #[.int .i64 d.num, .string d.name, .int .i64 d.ax, .int .i64 d.ay, .int .i64 d.ht, .int .i64 d.kd, .string d.mc, .string d.ms, .string d.mt, .int .i64 d.ch.k, .slice G d.ch.n gc, .string d.ch.lt, .string d.ch.cl, .int .i64 d.ch.pd, .slice S d.sn sc, .int .i64 d.it] 39)).alloc (.cells #[.int .i64 d'.num, .string d'.name, .int .i64 d'.ax, .int .i64 d'.ay, .int .i64 d'.ht, .int .i64 d'.kd, .string d'.mc, .string d'.ms, .string d'.mt, .int .i64 d'.ch.k, .slice G' d'.ch.n gc', .string d'.ch.lt, .string d'.ch.cl, .int .i64 d'.ch.pd, .slice S' d'.sn sc', .int .i64 d'.it] 39) = W
                     have hbW : Below w.heap.size w W := hW ▸ (by repeat (first | exact Below.refl _ _ | refine Below.alloc ?_ (by simp; try omega) _ | refine Below.drew ?_))
                     have hA : Blk W w.heap.size 39 #[.int .i64 d.num, .string d.name, .int .i64 d.ax, .int .i64 d.ay, .int .i64 d.ht, .int .i64 d.kd, .string d.mc, .string d.ms, .string d.mt, .int .i64 d.ch.k, .slice G d.ch.n gc, .string d.ch.lt, .string d.ch.cl, .int .i64 d.ch.pd, .slice S d.sn sc, .int .i64 d.it] := by subst hW; exact (Blk.new _ _ _).below (by repeat (first | exact Below.refl _ _ | refine Below.alloc ?_ (by simp; try omega) _ | refine Below.drew ?_))
                     have hB : Blk W (w.heap.size + 1) 39 #[.int .i64 d'.num, .string d'.name, .int .i64 d'.ax, .int .i64 d'.ay, .int .i64 d'.ht, .int .i64 d'.kd, .string d'.mc, .string d'.ms, .string d'.mt, .int .i64 d'.ch.k, .slice G' d'.ch.n gc', .string d'.ch.lt, .string d'.ch.cl, .int .i64 d'.ch.pd, .slice S' d'.sn sc', .int .i64 d'.it] := by subst hW; have := Blk.new (w.alloc (.cells #[.int .i64 d.num, .string d.name, .int .i64 d.ax, .int .i64 d.ay, .int .i64 d.ht, .int .i64 d.kd, .string d.mc, .string d.ms, .string d.mt, .int .i64 d.ch.k, .slice G d.ch.n gc, .string d.ch.lt, .string d.ch.cl, .int .i64 d.ch.pd, .slice S d.sn sc, .int .i64 d.it] 39)) 39 #[.int .i64 d'.num, .string d'.name, .int .i64 d'.ax, .int .i64 d'.ay, .int .i64 d'.ht, .int .i64 d'.kd, .string d'.mc, .string d'.ms, .string d'.mt, .int .i64 d'.ch.k, .slice G' d'.ch.n gc', .string d'.ch.lt, .string d'.ch.cl, .int .i64 d'.ch.pd, .slice S' d'.sn sc', .int .i64 d'.it]; rwa [World.size_alloc] at this
                     clear hW
                     refine (HC.out W (hR.below hbW) (hR'.below hbW)).mono ?_
                     rintro e w1 ⟨rfl, hb1⟩
                     replace hA := hA.below hb1
                     replace hB := hB.below hb1
                     replace hbW := held_next hbW hb1
                     have cA := hA.cell
                     have cB := hB.cell
                     go_wp2_with fail
                     first
                       | (go_ret
                          exact ⟨ret_bool (by simp), hbW⟩)
                       | (refine (HS.out w1 (hR.below hbW) (hR'.below hbW)).mono ?_
                          rintro e w2 ⟨rfl, hb2⟩
                          replace hA := hA.below hb2
                          replace hB := hB.below hb2
                          replace hbW := held_next hbW hb2
                          clear cA cB
                          have cA := hA.cell
                          have cB := hB.cell
                          go_wp2
                          go_ret
                          exact ⟨ret_bool (by simp), hbW⟩))
              · skip
                cases v7 : (d.it == d'.it)
                · skip
                  go_enter Try.func8, Try.ntmps8
                  go_wp2_with fail
                  first
                    | (go_ret
                       exact ⟨ret_bool (by simp), (by repeat (first | exact Below.refl _ _ | refine Below.alloc ?_ (by simp; try omega) _ | refine Below.drew ?_))⟩)
                    | (generalize hW : (w.alloc (.cells #[.int .i64 d.num, .string d.name, .int .i64 d.ax, .int .i64 d.ay, .int .i64 d.ht, .int .i64 d.kd, .string d.mc, .string d.ms, .string d.mt, .int .i64 d.ch.k, .slice G d.ch.n gc, .string d.ch.lt, .string d.ch.cl, .int .i64 d.ch.pd, .slice S d.sn sc, .int .i64 d.it] 39)).alloc (.cells #[.int .i64 d'.num, .string d'.name, .int .i64 d'.ax, .int .i64 d'.ay, .int .i64 d'.ht, .int .i64 d'.kd, .string d'.mc, .string d'.ms, .string d'.mt, .int .i64 d'.ch.k, .slice G' d'.ch.n gc', .string d'.ch.lt, .string d'.ch.cl, .int .i64 d'.ch.pd, .slice S' d'.sn sc', .int .i64 d'.it] 39) = W
                       have hbW : Below w.heap.size w W := hW ▸ (by repeat (first | exact Below.refl _ _ | refine Below.alloc ?_ (by simp; try omega) _ | refine Below.drew ?_))
                       have hA : Blk W w.heap.size 39 #[.int .i64 d.num, .string d.name, .int .i64 d.ax, .int .i64 d.ay, .int .i64 d.ht, .int .i64 d.kd, .string d.mc, .string d.ms, .string d.mt, .int .i64 d.ch.k, .slice G d.ch.n gc, .string d.ch.lt, .string d.ch.cl, .int .i64 d.ch.pd, .slice S d.sn sc, .int .i64 d.it] := by subst hW; exact (Blk.new _ _ _).below (by repeat (first | exact Below.refl _ _ | refine Below.alloc ?_ (by simp; try omega) _ | refine Below.drew ?_))
                       have hB : Blk W (w.heap.size + 1) 39 #[.int .i64 d'.num, .string d'.name, .int .i64 d'.ax, .int .i64 d'.ay, .int .i64 d'.ht, .int .i64 d'.kd, .string d'.mc, .string d'.ms, .string d'.mt, .int .i64 d'.ch.k, .slice G' d'.ch.n gc', .string d'.ch.lt, .string d'.ch.cl, .int .i64 d'.ch.pd, .slice S' d'.sn sc', .int .i64 d'.it] := by subst hW; have := Blk.new (w.alloc (.cells #[.int .i64 d.num, .string d.name, .int .i64 d.ax, .int .i64 d.ay, .int .i64 d.ht, .int .i64 d.kd, .string d.mc, .string d.ms, .string d.mt, .int .i64 d.ch.k, .slice G d.ch.n gc, .string d.ch.lt, .string d.ch.cl, .int .i64 d.ch.pd, .slice S d.sn sc, .int .i64 d.it] 39)) 39 #[.int .i64 d'.num, .string d'.name, .int .i64 d'.ax, .int .i64 d'.ay, .int .i64 d'.ht, .int .i64 d'.kd, .string d'.mc, .string d'.ms, .string d'.mt, .int .i64 d'.ch.k, .slice G' d'.ch.n gc', .string d'.ch.lt, .string d'.ch.cl, .int .i64 d'.ch.pd, .slice S' d'.sn sc', .int .i64 d'.it]; rwa [World.size_alloc] at this
                       clear hW
                       refine (HC.out W (hR.below hbW) (hR'.below hbW)).mono ?_
                       rintro e w1 ⟨rfl, hb1⟩
                       replace hA := hA.below hb1
                       replace hB := hB.below hb1
                       replace hbW := held_next hbW hb1
                       have cA := hA.cell
                       have cB := hB.cell
                       go_wp2_with fail
                       first
                         | (go_ret
                            exact ⟨ret_bool (by simp), hbW⟩)
                         | (refine (HS.out w1 (hR.below hbW) (hR'.below hbW)).mono ?_
                            rintro e w2 ⟨rfl, hb2⟩
                            replace hA := hA.below hb2
                            replace hB := hB.below hb2
                            replace hbW := held_next hbW hb2
                            clear cA cB
                            have cA := hA.cell
                            have cB := hB.cell
                            go_wp2
                            go_ret
                            exact ⟨ret_bool (by simp), hbW⟩))
                · skip
                  go_enter Try.func8, Try.ntmps8
                  go_wp2_with fail
                  first
                    | (go_ret
                       exact ⟨ret_bool (by simp), (by repeat (first | exact Below.refl _ _ | refine Below.alloc ?_ (by simp; try omega) _ | refine Below.drew ?_))⟩)
                    | (generalize hW : (w.alloc (.cells #[.int .i64 d.num, .string d.name, .int .i64 d.ax, .int .i64 d.ay, .int .i64 d.ht, .int .i64 d.kd, .string d.mc, .string d.ms, .string d.mt, .int .i64 d.ch.k, .slice G d.ch.n gc, .string d.ch.lt, .string d.ch.cl, .int .i64 d.ch.pd, .slice S d.sn sc, .int .i64 d.it] 39)).alloc (.cells #[.int .i64 d'.num, .string d'.name, .int .i64 d'.ax, .int .i64 d'.ay, .int .i64 d'.ht, .int .i64 d'.kd, .string d'.mc, .string d'.ms, .string d'.mt, .int .i64 d'.ch.k, .slice G' d'.ch.n gc', .string d'.ch.lt, .string d'.ch.cl, .int .i64 d'.ch.pd, .slice S' d'.sn sc', .int .i64 d'.it] 39) = W
                       have hbW : Below w.heap.size w W := hW ▸ (by repeat (first | exact Below.refl _ _ | refine Below.alloc ?_ (by simp; try omega) _ | refine Below.drew ?_))
                       have hA : Blk W w.heap.size 39 #[.int .i64 d.num, .string d.name, .int .i64 d.ax, .int .i64 d.ay, .int .i64 d.ht, .int .i64 d.kd, .string d.mc, .string d.ms, .string d.mt, .int .i64 d.ch.k, .slice G d.ch.n gc, .string d.ch.lt, .string d.ch.cl, .int .i64 d.ch.pd, .slice S d.sn sc, .int .i64 d.it] := by subst hW; exact (Blk.new _ _ _).below (by repeat (first | exact Below.refl _ _ | refine Below.alloc ?_ (by simp; try omega) _ | refine Below.drew ?_))
                       have hB : Blk W (w.heap.size + 1) 39 #[.int .i64 d'.num, .string d'.name, .int .i64 d'.ax, .int .i64 d'.ay, .int .i64 d'.ht, .int .i64 d'.kd, .string d'.mc, .string d'.ms, .string d'.mt, .int .i64 d'.ch.k, .slice G' d'.ch.n gc', .string d'.ch.lt, .string d'.ch.cl, .int .i64 d'.ch.pd, .slice S' d'.sn sc', .int .i64 d'.it] := by subst hW; have := Blk.new (w.alloc (.cells #[.int .i64 d.num, .string d.name, .int .i64 d.ax, .int .i64 d.ay, .int .i64 d.ht, .int .i64 d.kd, .string d.mc, .string d.ms, .string d.mt, .int .i64 d.ch.k, .slice G d.ch.n gc, .string d.ch.lt, .string d.ch.cl, .int .i64 d.ch.pd, .slice S d.sn sc, .int .i64 d.it] 39)) 39 #[.int .i64 d'.num, .string d'.name, .int .i64 d'.ax, .int .i64 d'.ay, .int .i64 d'.ht, .int .i64 d'.kd, .string d'.mc, .string d'.ms, .string d'.mt, .int .i64 d'.ch.k, .slice G' d'.ch.n gc', .string d'.ch.lt, .string d'.ch.cl, .int .i64 d'.ch.pd, .slice S' d'.sn sc', .int .i64 d'.it]; rwa [World.size_alloc] at this
                       clear hW
                       refine (HC.out W (hR.below hbW) (hR'.below hbW)).mono ?_
                       rintro e w1 ⟨rfl, hb1⟩
                       replace hA := hA.below hb1
                       replace hB := hB.below hb1
                       replace hbW := held_next hbW hb1
                       have cA := hA.cell
                       have cB := hB.cell
                       go_wp2_with fail
                       first
                         | (go_ret
                            exact ⟨ret_bool (by simp), hbW⟩)
                         | (refine (HS.out w1 (hR.below hbW) (hR'.below hbW)).mono ?_
                            rintro e w2 ⟨rfl, hb2⟩
                            replace hA := hA.below hb2
                            replace hB := hB.below hb2
                            replace hbW := held_next hbW hb2
                            clear cA cB
                            have cA := hA.cell
                            have cB := hB.cell
                            go_wp2
                            go_ret
                            exact ⟨ret_bool (by simp), hbW⟩))
set_option maxRecDepth 100000 in
set_option maxHeartbeats 4000000 in
theorem specSameAid_c (d d' : AidD) (G : Option Addr) (gc : Nat) (S : Option Addr) (sc : Nat) (G' : Option Addr) (gc' : Nat) (S' : Option Addr) (sc' : Nat) (w : World) (hgn : d.ch.n ≤ 1048576) (hsn : d.sn ≤ 1048576) (hgn' : d'.ch.n ≤ 1048576) (hsn' : d'.sn ≤ 1048576) (hR : d.Has w G S) (hR' : d'.Has w G' S') :
    Calls Try.prog 6 #[d.v G gc S sc, d'.v G' gc' S' sc'] w fun e w' => e = .returned (.bool (d.same d')) ∧ Below w.heap.size w w' := by
  unfold AidD.v AidD.cells
  have HP := Lib.hid (fun g g' W h h' c0 c1 c2 c3 c4 c5 c6 c7 c8 c9 c10 c11 c12 c13 c14 c15 => l12Same_c g 0 g' 0 d d' G gc S sc G' gc' S' sc' W hgn hsn hgn' hsn' h h' c0 c1 c2 c3 c4 c5 c6 c7 c8 c9 c10 c11 c12 c13 c14 c15)
  go_enter Try.func6, Try.ntmps6
  go_wp2_with fail
  generalize hW : (w.alloc (.cells #[.int .i64 d.num, .string d.name, .int .i64 d.ax, .int .i64 d.ay, .int .i64 d.ht, .int .i64 d.kd, .string d.mc, .string d.ms, .string d.mt, .int .i64 d.ch.k, .slice G d.ch.n gc, .string d.ch.lt, .string d.ch.cl, .int .i64 d.ch.pd, .slice S d.sn sc, .int .i64 d.it] 39)).alloc (.cells #[.int .i64 d'.num, .string d'.name, .int .i64 d'.ax, .int .i64 d'.ay, .int .i64 d'.ht, .int .i64 d'.kd, .string d'.mc, .string d'.ms, .string d'.mt, .int .i64 d'.ch.k, .slice G' d'.ch.n gc', .string d'.ch.lt, .string d'.ch.cl, .int .i64 d'.ch.pd, .slice S' d'.sn sc', .int .i64 d'.it] 39) = W
  have hbW : Below w.heap.size w W := hW ▸ (by repeat (first | exact Below.refl _ _ | refine Below.alloc ?_ (by simp; try omega) _ | refine Below.drew ?_))
  have hA : Blk W w.heap.size 39 #[.int .i64 d.num, .string d.name, .int .i64 d.ax, .int .i64 d.ay, .int .i64 d.ht, .int .i64 d.kd, .string d.mc, .string d.ms, .string d.mt, .int .i64 d.ch.k, .slice G d.ch.n gc, .string d.ch.lt, .string d.ch.cl, .int .i64 d.ch.pd, .slice S d.sn sc, .int .i64 d.it] := by subst hW; exact (Blk.new _ _ _).below (by repeat (first | exact Below.refl _ _ | refine Below.alloc ?_ (by simp; try omega) _ | refine Below.drew ?_))
  have hB : Blk W (w.heap.size + 1) 39 #[.int .i64 d'.num, .string d'.name, .int .i64 d'.ax, .int .i64 d'.ay, .int .i64 d'.ht, .int .i64 d'.kd, .string d'.mc, .string d'.ms, .string d'.mt, .int .i64 d'.ch.k, .slice G' d'.ch.n gc', .string d'.ch.lt, .string d'.ch.cl, .int .i64 d'.ch.pd, .slice S' d'.sn sc', .int .i64 d'.it] := by subst hW; have := Blk.new (w.alloc (.cells #[.int .i64 d.num, .string d.name, .int .i64 d.ax, .int .i64 d.ay, .int .i64 d.ht, .int .i64 d.kd, .string d.mc, .string d.ms, .string d.mt, .int .i64 d.ch.k, .slice G d.ch.n gc, .string d.ch.lt, .string d.ch.cl, .int .i64 d.ch.pd, .slice S d.sn sc, .int .i64 d.it] 39)) 39 #[.int .i64 d'.num, .string d'.name, .int .i64 d'.ax, .int .i64 d'.ay, .int .i64 d'.ht, .int .i64 d'.kd, .string d'.mc, .string d'.ms, .string d'.mt, .int .i64 d'.ch.k, .slice G' d'.ch.n gc', .string d'.ch.lt, .string d'.ch.cl, .int .i64 d'.ch.pd, .slice S' d'.sn sc', .int .i64 d'.it]; rwa [World.size_alloc] at this
  clear hW
  have h := HP.out w.heap.size (w.heap.size + 1) W (hR.below hbW) (hR'.below hbW) (hA.cell 0) (hA.cell 1) (hA.cell 2) (hA.cell 3) (hA.cell 4) (hA.cell 5) (hA.cell 6) (hA.cell 7) (hA.cell 8) (hA.cell 9) (hA.cell 10) (hA.cell 11) (hA.cell 12) (hA.cell 13) (hA.cell 14) (hA.cell 15)
  have h := h (hB.cell 0) (hB.cell 1) (hB.cell 2) (hB.cell 3) (hB.cell 4) (hB.cell 5) (hB.cell 6) (hB.cell 7) (hB.cell 8) (hB.cell 9) (hB.cell 10) (hB.cell 11) (hB.cell 12) (hB.cell 13) (hB.cell 14) (hB.cell 15)
  refine h.mono ?_
  rintro e w1 ⟨rfl, hb1⟩
  go_wp2
  go_ret
  exact ⟨rfl, held_next hbW hb1⟩
end Go.Proofs.Ytolijmldobncbaa
