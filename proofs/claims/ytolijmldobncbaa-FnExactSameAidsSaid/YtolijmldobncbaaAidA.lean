/- Aids: their data; contracts of the laws' helpers. -/
import Derived.Test.YtolijmldobncbaaNums
import Derived.Test.YtolijmldobncbaaStPoint
import Derived.Test.YtolijmldobncbaaStMark
import Derived.Test.YtolijmldobncbaaStSector
import Derived.Test.YtolijmldobncbaaBlk
namespace Go.Proofs.Ytolijmldobncbaa
open Go Go.RowKit
theorem far_own {w : World} {base : Nat} {e : TypeId} {m n g cap : Nat} {xs : List Value} (h : w.ownsRow base e m (.slice (some ⟨g, 0, none⟩) n cap) n xs) {p : Addr} (hp : p.block ≠ g) (u : Value) :
    (w.setCell p u).ownsRow base e m (.slice (some ⟨g, 0, none⟩) n cap) n xs := by
  refine ⟨h.1, ?_⟩
  rcases h.2 with ⟨h0, _⟩ | ⟨g', cap', cur, h1, h2, h3, h4⟩
  · cases h0
  · injection h1 with h1 _ h1c
    injection h1 with h1
    injection h1 with h1 _ _
    subst h1
    exact .inr ⟨_, cap', cur, by rw [h1c], h2, (Below.heap_setCell w p u _ (Ne.symm hp)).trans h3, h4⟩
theorem Filling.far_ {e m : Nat} {w wr : World} {g n k : Nat} {f : Nat → Nat → Value} (h : Filling e m w wr g n k f) {p : Addr} (hp : p.block ≠ g) (hb : w.heap.size ≤ p.block) (u : Value) : Filling e m w (wr.setCell p u) g n k f := by
  obtain ⟨xs, hown, hxs, hbel⟩ := h
  exact ⟨xs, far_own hown hp u, hxs, hbel.setCell hb u⟩
theorem Filling.up_ {e m : Nat} {w w0 wr : World} {g n k : Nat} {f : Nat → Nat → Value} (h : Filling e m w0 wr g n k f) (hb : Below w.heap.size w w0) : Filling e m w wr g n k f := by
  obtain ⟨xs, hown, hxs, hbel⟩ := h
  refine ⟨xs, ⟨hown.1, ?_⟩, hxs, held_next hb hbel⟩
  rcases hown.2 with h0 | ⟨g', cap', cur, h1, h2, h3⟩
  · exact .inl h0
  · exact .inr ⟨g', cap', cur, h1, Nat.le_trans hb.size h2, h3⟩
theorem Filling.ge_ {e m : Nat} {w wr : World} {g n k : Nat} {f : Nat → Nat → Value} (h : Filling e m w wr g n k f) : w.heap.size ≤ g ∧ g < wr.heap.size := by
  obtain ⟨xs, hown, _, _⟩ := h
  exact hown.lt g rfl
theorem Filling.below_ {e m : Nat} {w wr wr' : World} {g n k : Nat} {f : Nat → Nat → Value} (h : Filling e m w wr g n k f) (hb : Below wr.heap.size wr wr') : Filling e m w wr' g n k f := by
  obtain ⟨xs, hown, hxs, hbel⟩ := h
  exact ⟨xs, own_below hown hb, hxs, held_next hbel hb⟩
/-! A character. -/
structure ChrD where
  k : Int
  n : Nat
  f : Nat → Int
  lt : ByteArray
  cl : ByteArray
  pd : Int
abbrev ChrD.v (d : ChrD) (G : Option Addr) (gc : Nat) : Value := .agg #[.int .i64 d.k, .slice G d.n gc, .string d.lt, .string d.cl, .int .i64 d.pd]
set_option maxHeartbeats 2000000 in
theorem toCharacter_c (d : ChrD) (G : Option Addr) (gc : Nat) (w : World) (hn : d.n ≤ 1048576) (h : Rec 1 w G d.n (vNum d.f)) :
    Calls Try.prog 21 #[d.v G gc] w fun e w' => ∃ g, e = .returned (d.v (some ⟨g, 0, none⟩) d.n) ∧ Filling 2 1 w w' g d.n d.n (vNum d.f) := by
  obtain ⟨k, n, f, lt, cl, pd⟩ := d
  simp only [ChrD.v] at *
  go_enter Try.func21, Try.ntmps21
  go_wp2_with fail
  refine (toInt64S_c G n gc f _ hn (h.below ?_)).mono ?_
  · repeat (first | exact Below.refl _ _ | refine Below.setCell ?_ (by simp; try omega) _ | refine Below.alloc ?_ (by simp; try omega) _)
  rintro e w1 ⟨g, rfl, F⟩
  have hb1 := F.bel
  have hg := F.ge_.1
  have HF := Lib.hid F
  clear F
  obtain ⟨hc, hf⟩ := bcell hb1
  have hz := hb1.size
  simp at hz hg
  go_wp2
  refine bodyPost_ret (v := .agg #[.int .i64 k, .slice (some ⟨g, 0, none⟩) n n, .string lt, .string cl, .int .i64 pd]) (by simp [results, Try.results21, go_sem, hc]) rfl ⟨g, rfl, ?_⟩
  repeat refine Filling.far_ ?_ (by simp; omega) (by simp; try omega) _
  exact HF.out.up_ (by repeat (first | exact Below.refl _ _ | refine Below.alloc ?_ (by simp; try omega) _ | refine Below.drew ?_))
set_option maxHeartbeats 2000000 in
theorem szCharacter_c (d : ChrD) (G : Option Addr) (gc : Nat) (left : Int) (hn : d.n ≤ maxLen) (h1 : d.lt.size ≤ maxLen) (h2 : d.cl.size ≤ maxLen) (l0 : 0 ≤ left) (l1 : left ≤ 1048576) (w : World) :
    Calls Try.prog 16 #[d.v G gc, .int .i64 left] w (SzPost d.n left w) := by
  obtain ⟨k, n, f, lt, cl, pd⟩ := d
  simp only [ChrD.v] at *
  unfold maxLen at h1 h2
  go_enter Try.func16, Try.ntmps16
  go_wp2_with fail
  refine (szInt64S_c G n gc left hn l0 l1 _).mono ?_
  rintro e w1 ⟨rfl | ⟨r, r0, r1, rfl⟩, hb1⟩
  · go_wp2
    go_ret
    exact ⟨.inl rfl, below_box hb1⟩
  · obtain ⟨hc, hf⟩ := bcell hb1
    have hz := hb1.size
    simp at hz
    clear hf
    go_wp2
    all_goals
      go_ret
      first
        | exact ⟨.inl rfl, below_box hb1⟩
        | exact ⟨.inr ⟨_, by omega, by omega, rfl⟩, below_box hb1⟩
set_option maxHeartbeats 1000000 in
theorem eqCharacter_same (d : ChrD) (A B : Option Addr) (ca cb : Nat) (w : World) (hn : d.n ≤ 1048576) (hA : Rec 1 w A d.n (vNum d.f)) (hB : Rec 1 w B d.n (vNum d.f)) :
    Calls Try.prog 27 #[d.v A ca, d.v B cb] w fun e w' => e = .returned (.bool true) ∧ Below w.heap.size w w' := by
  obtain ⟨k, n, f, lt, cl, pd⟩ := d
  simp only [ChrD.v] at *
  go_enter Try.func27, Try.ntmps27
  go_wp2_with fail
  refine (eqInt64S_same A B n ca cb f _ hn (hA.below (by repeat (first | exact Below.refl _ _ | refine Below.alloc ?_ (by simp; try omega) _ | refine Below.drew ?_))) (hB.below (by repeat (first | exact Below.refl _ _ | refine Below.alloc ?_ (by simp; try omega) _ | refine Below.drew ?_)))).mono ?_
  rintro e w1 ⟨rfl, hb1⟩
  obtain ⟨hc, hf⟩ := bcell hb1
  have hz := hb1.size
  simp at hz
  clear hf
  go_wp2
  go_ret
  exact ⟨rfl, below_box (below_box hb1)⟩
def ChrD.same (d d' : ChrD) : Bool := (d.k == d'.k) && (sameNum d.n d'.n d.f d'.f && ((d.lt.toList == d'.lt.toList) && ((d.cl.toList == d'.cl.toList) && (d.pd == d'.pd))))
/-! An aid. -/
structure AidD where
  num : Int
  name : ByteArray
  ax : Int
  ay : Int
  ht : Int
  kd : Int
  mc : ByteArray
  ms : ByteArray
  mt : ByteArray
  ch : ChrD
  sn : Nat
  s0 : Nat → Int
  s1 : Nat → Int
  s2 : Nat → ByteArray
  it : Int
abbrev AidD.cells (d : AidD) (G : Option Addr) (gc : Nat) (S : Option Addr) (sc : Nat) : Array Value :=
  #[.int .i64 d.num, .string d.name, .int .i64 d.ax, .int .i64 d.ay, .int .i64 d.ht, .int .i64 d.kd, .string d.mc, .string d.ms, .string d.mt, .int .i64 d.ch.k, .slice G d.ch.n gc, .string d.ch.lt, .string d.ch.cl, .int .i64 d.ch.pd, .slice S d.sn sc, .int .i64 d.it]
abbrev AidD.v (d : AidD) (G : Option Addr) (gc : Nat) (S : Option Addr) (sc : Nat) : Value := .agg (d.cells G gc S sc)
/-- What its two slices hold. -/
def AidD.Has (d : AidD) (w : World) (G S : Option Addr) : Prop := Rec 1 w G d.ch.n (vNum d.ch.f) ∧ Rec 3 w S d.sn (vSector d.s0 d.s1 d.s2)
structure AidD.Ok (d : AidD) : Prop where
  name : d.name.size ≤ maxLen
  mc : d.mc.size ≤ maxLen
  ms : d.ms.size ≤ maxLen
  mt : d.mt.size ≤ maxLen
  gn : d.ch.n ≤ maxLen
  lt : d.ch.lt.size ≤ maxLen
  cl : d.ch.cl.size ≤ maxLen
  sn : d.sn ≤ maxLen
  s2 : ∀ i, i < d.sn → (d.s2 i).size ≤ maxLen
theorem AidD.Has.below {d : AidD} {w w' : World} {G S : Option Addr} (h : d.Has w G S) (hb : Below w.heap.size w w') : d.Has w' G S := ⟨h.1.below hb, h.2.below hb⟩
/-- Made anew behind w: both slices in blocks of their own, other than one block. -/
def AidD.New (d : AidD) (w w' : World) (g : Nat) (G S : Option Addr) : Prop :=
  ∃ a b, G = some ⟨a, 0, none⟩ ∧ S = some ⟨b, 0, none⟩ ∧ a ≠ g ∧ b ≠ g ∧ Filling 2 1 w w' a d.ch.n d.ch.n (vNum d.ch.f) ∧ Filling 60 3 w w' b d.sn d.sn (vSector d.s0 d.s1 d.s2)
theorem AidD.New.has {d : AidD} {w w' : World} {g : Nat} {G S : Option Addr} (h : d.New w w' g G S) : d.Has w' G S := by
  obtain ⟨a, b, rfl, rfl, _, _, h1, h2⟩ := h
  exact ⟨h1.rec, h2.rec⟩
theorem AidD.New.below {d : AidD} {w w1 w2 : World} {g : Nat} {G S : Option Addr} (h : d.New w w1 g G S) (hb : Below w1.heap.size w1 w2) : d.New w w2 g G S := by
  obtain ⟨a, b, h1, h2, h3, h4, h5, h6⟩ := h
  exact ⟨a, b, h1, h2, h3, h4, h5.below_ hb, h6.below_ hb⟩
theorem AidD.New.put {d : AidD} {w w1 : World} {g : Nat} {G S : Option Addr} (h : d.New w w1 g G S) (hg : w.heap.size ≤ g) (j : Nat) (u : Value) : d.New w (w1.setCell ⟨g, j, none⟩ u) g G S := by
  obtain ⟨a, b, h1, h2, h3, h4, h5, h6⟩ := h
  exact ⟨a, b, h1, h2, h3, h4, h5.far_ (Ne.symm h3) hg u, h6.far_ (Ne.symm h4) hg u⟩
theorem Blk.set_ne {w : World} {g g' : Nat} {t : TypeId} {cs : Array Value} (h : Blk w g t cs) (hne : g ≠ g') (j : Nat) (u : Value) : Blk (w.setCell ⟨g', j, none⟩ u) g t cs := (Below.heap_setCell w ⟨g', j, none⟩ u g hne).trans h
set_option maxRecDepth 100000 in
set_option maxHeartbeats 8000000 in
theorem toAid_c (d : AidD) (G : Option Addr) (gc : Nat) (S : Option Addr) (sc : Nat) (w : World) (hgn : d.ch.n ≤ 1048576) (hsn : d.sn ≤ 1048576) (h : d.Has w G S) :
    Calls Try.prog 7 #[d.v G gc S sc] w fun e w' => ∃ a b, e = .returned (d.v (some ⟨a, 0, none⟩) d.ch.n (some ⟨b, 0, none⟩) d.sn) ∧ a ≠ b ∧ Filling 2 1 w w' a d.ch.n d.ch.n (vNum d.ch.f) ∧ Filling 60 3 w w' b d.sn d.sn (vSector d.s0 d.s1 d.s2) := by
  obtain ⟨num, name, ax, ay, ht, kd, mc, ms, mt, ⟨lk, gn, gf, lt, cl, lp⟩, sn, s0, s1, s2, it⟩ := d
  simp only [AidD.v, AidD.cells] at *
  obtain ⟨hG, hS⟩ := h
  simp only at hG hS
  go_enter Try.func7, Try.ntmps7
  go_wp2_with fail
  generalize hW : ((w.alloc (.cells #[.int .i64 num, .string name, .int .i64 ax, .int .i64 ay, .int .i64 ht, .int .i64 kd, .string mc, .string ms, .string mt, .int .i64 lk, .slice G gn gc, .string lt, .string cl, .int .i64 lp, .slice S sn sc, .int .i64 it] 31)).alloc (.cells #[.int .i64 0, .string ⟨#[]⟩, .int .i64 0, .int .i64 0, .int .i64 0, .int .i64 0, .string ⟨#[]⟩, .string ⟨#[]⟩, .string ⟨#[]⟩, .int .i64 0, .slice none 0 0, .string ⟨#[]⟩, .string ⟨#[]⟩, .int .i64 0, .slice none 0 0, .int .i64 0] 39)).alloc (.cells #[.int .i64 num, .string name, .int .i64 0, .int .i64 0, .int .i64 0, .int .i64 0, .string ⟨#[]⟩, .string ⟨#[]⟩, .string ⟨#[]⟩, .int .i64 0, .slice none 0 0, .string ⟨#[]⟩, .string ⟨#[]⟩, .int .i64 0, .slice none 0 0, .int .i64 0] 39) = W
  have hbW : Below w.heap.size w W := hW ▸ (by repeat (first | exact Below.refl _ _ | refine Below.alloc ?_ (by simp; try omega) _ | refine Below.drew ?_))
  have hA : Blk W w.heap.size 31 #[.int .i64 num, .string name, .int .i64 ax, .int .i64 ay, .int .i64 ht, .int .i64 kd, .string mc, .string ms, .string mt, .int .i64 lk, .slice G gn gc, .string lt, .string cl, .int .i64 lp, .slice S sn sc, .int .i64 it] := by subst hW; exact ((Blk.new _ _ _).below (by repeat (first | exact Below.refl _ _ | refine Below.alloc ?_ (by simp; try omega) _ | refine Below.drew ?_))).below (by repeat (first | exact Below.refl _ _ | refine Below.alloc ?_ (by simp; try omega) _ | refine Below.drew ?_))
  have hZ : Blk W (w.heap.size + 1) 39 #[.int .i64 0, .string ⟨#[]⟩, .int .i64 0, .int .i64 0, .int .i64 0, .int .i64 0, .string ⟨#[]⟩, .string ⟨#[]⟩, .string ⟨#[]⟩, .int .i64 0, .slice none 0 0, .string ⟨#[]⟩, .string ⟨#[]⟩, .int .i64 0, .slice none 0 0, .int .i64 0] := by subst hW; have := (Blk.new (w.alloc (.cells #[.int .i64 num, .string name, .int .i64 ax, .int .i64 ay, .int .i64 ht, .int .i64 kd, .string mc, .string ms, .string mt, .int .i64 lk, .slice G gn gc, .string lt, .string cl, .int .i64 lp, .slice S sn sc, .int .i64 it] 31)) 39 #[.int .i64 0, .string ⟨#[]⟩, .int .i64 0, .int .i64 0, .int .i64 0, .int .i64 0, .string ⟨#[]⟩, .string ⟨#[]⟩, .string ⟨#[]⟩, .int .i64 0, .slice none 0 0, .string ⟨#[]⟩, .string ⟨#[]⟩, .int .i64 0, .slice none 0 0, .int .i64 0]); rw [World.size_alloc] at this; exact this.below (by repeat (first | exact Below.refl _ _ | refine Below.alloc ?_ (by simp; try omega) _ | refine Below.drew ?_))
  have hO : Blk W (w.heap.size + 1 + 1) 39 #[.int .i64 num, .string name, .int .i64 0, .int .i64 0, .int .i64 0, .int .i64 0, .string ⟨#[]⟩, .string ⟨#[]⟩, .string ⟨#[]⟩, .int .i64 0, .slice none 0 0, .string ⟨#[]⟩, .string ⟨#[]⟩, .int .i64 0, .slice none 0 0, .int .i64 0] := by subst hW; exact Blk.new2 _ _ _ _ _
  clear hW
  refine (toPoint_c _ _ _).mono ?_
  rintro e w1 ⟨rfl, hb1⟩
  replace hA := hA.below hb1
  replace hZ := hZ.below hb1
  replace hO := hO.below hb1
  replace hbW := held_next hbW hb1
  have cA := hA.cell
  have cZ := hZ.cell
  have cO := hO.cell
  have fZ := hZ.frozen
  have fO := hO.frozen
  have zO := hO.lt
  go_wp2_with fail
  refine (toMark_c _ _ _ _ _).mono ?_
  rintro e w2 ⟨rfl, hb2⟩
  clear cA cZ cO fZ fO
  replace hO : Blk w2 (w.heap.size + 1 + 1) 39 #[.int .i64 num, .string name, .int .i64 ax, .int .i64 ay, .int .i64 ht, .int .i64 0, .string ⟨#[]⟩, .string ⟨#[]⟩, .string ⟨#[]⟩, .int .i64 0, .slice none 0 0, .string ⟨#[]⟩, .string ⟨#[]⟩, .int .i64 0, .slice none 0 0, .int .i64 0] := Blk.below (cs := #[.int .i64 num, .string name, .int .i64 ax, .int .i64 ay, .int .i64 ht, .int .i64 0, .string ⟨#[]⟩, .string ⟨#[]⟩, .string ⟨#[]⟩, .int .i64 0, .slice none 0 0, .string ⟨#[]⟩, .string ⟨#[]⟩, .int .i64 0, .slice none 0 0, .int .i64 0]) (((hO.set_ 2 (.int .i64 ax)).set_ 3 (.int .i64 ay)).set_ 4 (.int .i64 ht)) hb2
  replace hA := (((hA.set_ne (by omega) 2 (.int .i64 ax)).set_ne (by omega) 3 (.int .i64 ay)).set_ne (by omega) 4 (.int .i64 ht)).below hb2
  replace hZ := (((hZ.set_ne (by omega) 2 (.int .i64 ax)).set_ne (by omega) 3 (.int .i64 ay)).set_ne (by omega) 4 (.int .i64 ht)).below hb2
  replace hbW := held_next (Below.setCell (Below.setCell (Below.setCell hbW (p := ⟨w.heap.size + 1 + 1, 2, none⟩) (by show w.heap.size ≤ w.heap.size + 1 + 1; omega) (.int .i64 ax)) (p := ⟨w.heap.size + 1 + 1, 3, none⟩) (by show w.heap.size ≤ w.heap.size + 1 + 1; omega) (.int .i64 ay)) (p := ⟨w.heap.size + 1 + 1, 4, none⟩) (by show w.heap.size ≤ w.heap.size + 1 + 1; omega) (.int .i64 ht)) hb2
  clear hb2
  have cA := hA.cell
  have cZ := hZ.cell
  have cO := hO.cell
  have fZ := hZ.frozen
  have fO := hO.frozen
  have zO := hO.lt
  go_wp2_with fail
  have hbY := (Below.setCell (Below.setCell (Below.setCell (Below.setCell hbW (p := ⟨w.heap.size + 1 + 1, 5, none⟩) (by show w.heap.size ≤ w.heap.size + 1 + 1; omega) (.int .i64 kd)) (p := ⟨w.heap.size + 1 + 1, 6, none⟩) (by show w.heap.size ≤ w.heap.size + 1 + 1; omega) (.string mc)) (p := ⟨w.heap.size + 1 + 1, 7, none⟩) (by show w.heap.size ≤ w.heap.size + 1 + 1; omega) (.string ms)) (p := ⟨w.heap.size + 1 + 1, 8, none⟩) (by show w.heap.size ≤ w.heap.size + 1 + 1; omega) (.string mt))
  refine (toCharacter_c ⟨lk, gn, gf, lt, cl, lp⟩ G gc _ hgn (hG.below hbY)).mono ?_
  rintro e w3 ⟨g3, rfl, F3⟩
  have hb3 := F3.bel
  have hg3 := F3.ge_
  simp only [World.size_setCell] at hg3
  clear cA cZ cO fZ fO
  replace hO : Blk w3 (w.heap.size + 1 + 1) 39 #[.int .i64 num, .string name, .int .i64 ax, .int .i64 ay, .int .i64 ht, .int .i64 kd, .string mc, .string ms, .string mt, .int .i64 0, .slice none 0 0, .string ⟨#[]⟩, .string ⟨#[]⟩, .int .i64 0, .slice none 0 0, .int .i64 0] := Blk.below (cs := #[.int .i64 num, .string name, .int .i64 ax, .int .i64 ay, .int .i64 ht, .int .i64 kd, .string mc, .string ms, .string mt, .int .i64 0, .slice none 0 0, .string ⟨#[]⟩, .string ⟨#[]⟩, .int .i64 0, .slice none 0 0, .int .i64 0]) ((((hO.set_ 5 (.int .i64 kd)).set_ 6 (.string mc)).set_ 7 (.string ms)).set_ 8 (.string mt)) hb3
  replace hA := ((((hA.set_ne (by omega) 5 (.int .i64 kd)).set_ne (by omega) 6 (.string mc)).set_ne (by omega) 7 (.string ms)).set_ne (by omega) 8 (.string mt)).below hb3
  replace hZ := ((((hZ.set_ne (by omega) 5 (.int .i64 kd)).set_ne (by omega) 6 (.string mc)).set_ne (by omega) 7 (.string ms)).set_ne (by omega) 8 (.string mt)).below hb3
  replace hbW := held_next hbY hb3
  replace F3 := F3.up_ hbY
  clear hb3 hbY
  have cA := hA.cell
  have cZ := hZ.cell
  have cO := hO.cell
  have fZ := hZ.frozen
  have fO := hO.frozen
  have zO := hO.lt
  simp only [ChrD.v]
  go_wp2_with fail
  have hbY := (Below.setCell (Below.setCell (Below.setCell (Below.setCell (Below.setCell hbW (p := ⟨w.heap.size + 1 + 1, 9, none⟩) (by show w.heap.size ≤ w.heap.size + 1 + 1; omega) (.int .i64 lk)) (p := ⟨w.heap.size + 1 + 1, 10, none⟩) (by show w.heap.size ≤ w.heap.size + 1 + 1; omega) (.slice (some ⟨g3, 0, none⟩) gn gn)) (p := ⟨w.heap.size + 1 + 1, 11, none⟩) (by show w.heap.size ≤ w.heap.size + 1 + 1; omega) (.string lt)) (p := ⟨w.heap.size + 1 + 1, 12, none⟩) (by show w.heap.size ≤ w.heap.size + 1 + 1; omega) (.string cl)) (p := ⟨w.heap.size + 1 + 1, 13, none⟩) (by show w.heap.size ≤ w.heap.size + 1 + 1; omega) (.int .i64 lp))
  refine (toSectorS_c S sn sc s0 s1 s2 _ hsn (hS.below hbY)).mono ?_
  rintro e w4 ⟨g4, rfl, F4⟩
  have hb4 := F4.bel
  have hg4 := F4.ge_
  simp only [World.size_setCell] at hg4
  clear cA cZ cO fZ fO
  replace hO : Blk w4 (w.heap.size + 1 + 1) 39 #[.int .i64 num, .string name, .int .i64 ax, .int .i64 ay, .int .i64 ht, .int .i64 kd, .string mc, .string ms, .string mt, .int .i64 lk, .slice (some ⟨g3, 0, none⟩) gn gn, .string lt, .string cl, .int .i64 lp, .slice none 0 0, .int .i64 0] := Blk.below (cs := #[.int .i64 num, .string name, .int .i64 ax, .int .i64 ay, .int .i64 ht, .int .i64 kd, .string mc, .string ms, .string mt, .int .i64 lk, .slice (some ⟨g3, 0, none⟩) gn gn, .string lt, .string cl, .int .i64 lp, .slice none 0 0, .int .i64 0]) (((((hO.set_ 9 (.int .i64 lk)).set_ 10 (.slice (some ⟨g3, 0, none⟩) gn gn)).set_ 11 (.string lt)).set_ 12 (.string cl)).set_ 13 (.int .i64 lp)) hb4
  replace hA := (((((hA.set_ne (by omega) 9 (.int .i64 lk)).set_ne (by omega) 10 (.slice (some ⟨g3, 0, none⟩) gn gn)).set_ne (by omega) 11 (.string lt)).set_ne (by omega) 12 (.string cl)).set_ne (by omega) 13 (.int .i64 lp)).below hb4
  replace hZ := (((((hZ.set_ne (by omega) 9 (.int .i64 lk)).set_ne (by omega) 10 (.slice (some ⟨g3, 0, none⟩) gn gn)).set_ne (by omega) 11 (.string lt)).set_ne (by omega) 12 (.string cl)).set_ne (by omega) 13 (.int .i64 lp)).below hb4
  replace F3 := (Filling.far_ (Filling.far_ (Filling.far_ (Filling.far_ (Filling.far_ F3 (p := ⟨w.heap.size + 1 + 1, 9, none⟩) (by show w.heap.size + 1 + 1 ≠ g3; omega) (by show w.heap.size ≤ w.heap.size + 1 + 1; omega) (.int .i64 lk)) (p := ⟨w.heap.size + 1 + 1, 10, none⟩) (by show w.heap.size + 1 + 1 ≠ g3; omega) (by show w.heap.size ≤ w.heap.size + 1 + 1; omega) (.slice (some ⟨g3, 0, none⟩) gn gn)) (p := ⟨w.heap.size + 1 + 1, 11, none⟩) (by show w.heap.size + 1 + 1 ≠ g3; omega) (by show w.heap.size ≤ w.heap.size + 1 + 1; omega) (.string lt)) (p := ⟨w.heap.size + 1 + 1, 12, none⟩) (by show w.heap.size + 1 + 1 ≠ g3; omega) (by show w.heap.size ≤ w.heap.size + 1 + 1; omega) (.string cl)) (p := ⟨w.heap.size + 1 + 1, 13, none⟩) (by show w.heap.size + 1 + 1 ≠ g3; omega) (by show w.heap.size ≤ w.heap.size + 1 + 1; omega) (.int .i64 lp)).below_ hb4
  replace hbW := held_next hbY hb4
  replace F4 := F4.up_ hbY
  clear hb4 hbY
  have cA := hA.cell
  have cZ := hZ.cell
  have cO := hO.cell
  have fZ := hZ.frozen
  have fO := hO.frozen
  have zO := hO.lt
  have HA := Lib.hid hA
  have HF3 := Lib.hid F3
  have HF4 := Lib.hid F4
  clear hA F3 F4
  go_wp2
  refine bodyPost_ret (v := .agg #[.int .i64 num, .string name, .int .i64 ax, .int .i64 ay, .int .i64 ht, .int .i64 kd, .string mc, .string ms, .string mt, .int .i64 lk, .slice (some ⟨g3, 0, none⟩) gn gn, .string lt, .string cl, .int .i64 lp, .slice (some ⟨g4, 0, none⟩) sn sn, .int .i64 it]) (by simp [results, Try.results7, go_sem, cZ]) rfl ⟨g3, g4, rfl, by omega, ?_, ?_⟩
  · repeat refine Filling.far_ ?_ (by simp; omega) (by simp; try omega) _
    exact HF3.out
  · repeat refine Filling.far_ ?_ (by simp; omega) (by simp; try omega) _
    exact HF4.out
set_option maxRecDepth 100000 in
set_option maxHeartbeats 4000000 in
theorem szAid_c (d : AidD) (G : Option Addr) (gc : Nat) (S : Option Addr) (sc : Nat) (left : Int) (hok : d.Ok) (l0 : 0 ≤ left) (l1 : left ≤ 1048576) (w : World) (h : d.Has w G S) :
    Calls Try.prog 5 #[d.v G gc S sc, .int .i64 left] w (SzPost (d.ch.n + d.sn) left w) := by
  obtain ⟨num, name, ax, ay, ht, kd, mc, ms, mt, ⟨lk, gn, gf, lt, cl, lp⟩, sn, s0, s1, s2, it⟩ := d
  obtain ⟨n1, n2, n3, n4, n5, n6, n7, n8, n9⟩ := hok
  simp only [AidD.v, AidD.cells] at *
  obtain ⟨hG, hS⟩ := h
  simp only at hG hS
  unfold maxLen at n1
  by_cases hl : (name.size : Int) ≤ left
  · have h0 : 0 ≤ left - (name.size : Int) := by omega
    go_enter Try.func5, Try.ntmps5
    go_wp2_with fail
    generalize hW : w.alloc (.cells #[.int .i64 num, .string name, .int .i64 ax, .int .i64 ay, .int .i64 ht, .int .i64 kd, .string mc, .string ms, .string mt, .int .i64 lk, .slice G gn gc, .string lt, .string cl, .int .i64 lp, .slice S sn sc, .int .i64 it] 31) = W
    have hbW : Below w.heap.size w W := hW ▸ (by repeat (first | exact Below.refl _ _ | refine Below.alloc ?_ (by simp; try omega) _ | refine Below.drew ?_))
    have hA : Blk W w.heap.size 31 #[.int .i64 num, .string name, .int .i64 ax, .int .i64 ay, .int .i64 ht, .int .i64 kd, .string mc, .string ms, .string mt, .int .i64 lk, .slice G gn gc, .string lt, .string cl, .int .i64 lp, .slice S sn sc, .int .i64 it] := by subst hW; exact Blk.new _ _ _
    clear hW
    refine (szMark_c _ _ _ _ _ n2 n3 n4 h0 (by omega) _).mono ?_
    rintro e w1 ⟨rfl | ⟨r1, r10, r11, rfl⟩, hb1⟩
    · go_wp2
      go_ret
      exact ⟨.inl rfl, held_next hbW hb1⟩
    replace hA := hA.below hb1
    replace hbW := held_next hbW hb1
    have cA := hA.cell
    go_wp2_with fail
    refine (szCharacter_c ⟨lk, gn, gf, lt, cl, lp⟩ G gc r1 n5 n6 n7 r10 (by omega) _).mono ?_
    rintro e w2 ⟨rfl | ⟨r2, r20, r21, rfl⟩, hb2⟩
    · go_wp2
      go_ret
      exact ⟨.inl rfl, held_next hbW hb2⟩
    replace hA := hA.below hb2
    replace hbW := held_next hbW hb2
    clear cA
    have cA := hA.cell
    simp only at r21
    go_wp2_with fail
    refine (szSectorS_c S sn sc s0 s1 s2 r2 n8 n9 r20 (by omega) _ (hS.below hbW)).mono ?_
    rintro e w3 ⟨rfl | ⟨r3, r30, r31, rfl⟩, hb3⟩
    · go_wp2
      go_ret
      exact ⟨.inl rfl, held_next hbW hb3⟩
    go_wp2
    go_ret
    exact ⟨.inr ⟨r3, r30, by omega, rfl⟩, held_next hbW hb3⟩
  · have h0 : left - (name.size : Int) < 0 := by omega
    go_enter Try.func5, Try.ntmps5
    go_wp2
    go_ret
    exact ⟨.inl rfl, (by repeat (first | exact Below.refl _ _ | refine Below.alloc ?_ (by simp; try omega) _ | refine Below.drew ?_))⟩
set_option maxRecDepth 100000 in
set_option maxHeartbeats 4000000 in
theorem eqAid_same (d : AidD) (G : Option Addr) (gc : Nat) (S : Option Addr) (sc : Nat) (G' : Option Addr) (gc' : Nat) (S' : Option Addr) (sc' : Nat) (w : World) (hgn : d.ch.n ≤ 1048576) (hsn : d.sn ≤ 1048576) (h : d.Has w G S) (h' : d.Has w G' S') :
    Calls Try.prog 9 #[d.v G gc S sc, d.v G' gc' S' sc'] w fun e w' => e = .returned (.bool true) ∧ Below w.heap.size w w' := by
  obtain ⟨num, name, ax, ay, ht, kd, mc, ms, mt, ⟨lk, gn, gf, lt, cl, lp⟩, sn, s0, s1, s2, it⟩ := d
  simp only [AidD.v, AidD.cells] at *
  obtain ⟨hG, hS⟩ := h
  obtain ⟨hG', hS'⟩ := h'
  simp only at hG hS hG' hS'
  go_enter Try.func9, Try.ntmps9
  go_wp2_with fail
  generalize hW : (w.alloc (.cells #[.int .i64 num, .string name, .int .i64 ax, .int .i64 ay, .int .i64 ht, .int .i64 kd, .string mc, .string ms, .string mt, .int .i64 lk, .slice G gn gc, .string lt, .string cl, .int .i64 lp, .slice S sn sc, .int .i64 it] 39)).alloc (.cells #[.int .i64 num, .string name, .int .i64 ax, .int .i64 ay, .int .i64 ht, .int .i64 kd, .string mc, .string ms, .string mt, .int .i64 lk, .slice G' gn gc', .string lt, .string cl, .int .i64 lp, .slice S' sn sc', .int .i64 it] 39) = W
  have hbW : Below w.heap.size w W := hW ▸ (by repeat (first | exact Below.refl _ _ | refine Below.alloc ?_ (by simp; try omega) _ | refine Below.drew ?_))
  have hA : Blk W w.heap.size 39 #[.int .i64 num, .string name, .int .i64 ax, .int .i64 ay, .int .i64 ht, .int .i64 kd, .string mc, .string ms, .string mt, .int .i64 lk, .slice G gn gc, .string lt, .string cl, .int .i64 lp, .slice S sn sc, .int .i64 it] := by subst hW; exact (Blk.new _ _ _).below (by repeat (first | exact Below.refl _ _ | refine Below.alloc ?_ (by simp; try omega) _ | refine Below.drew ?_))
  have hB : Blk W (w.heap.size + 1) 39 #[.int .i64 num, .string name, .int .i64 ax, .int .i64 ay, .int .i64 ht, .int .i64 kd, .string mc, .string ms, .string mt, .int .i64 lk, .slice G' gn gc', .string lt, .string cl, .int .i64 lp, .slice S' sn sc', .int .i64 it] := by subst hW; have := Blk.new (w.alloc (.cells #[.int .i64 num, .string name, .int .i64 ax, .int .i64 ay, .int .i64 ht, .int .i64 kd, .string mc, .string ms, .string mt, .int .i64 lk, .slice G gn gc, .string lt, .string cl, .int .i64 lp, .slice S sn sc, .int .i64 it] 39)) 39 #[.int .i64 num, .string name, .int .i64 ax, .int .i64 ay, .int .i64 ht, .int .i64 kd, .string mc, .string ms, .string mt, .int .i64 lk, .slice G' gn gc', .string lt, .string cl, .int .i64 lp, .slice S' sn sc', .int .i64 it]; rwa [World.size_alloc] at this
  clear hW
  refine (eqPoint_same _ _ _).mono ?_
  rintro e w1 ⟨rfl, hb1⟩
  replace hA := hA.below hb1
  replace hB := hB.below hb1
  replace hbW := held_next hbW hb1
  have cA := hA.cell
  have cB := hB.cell
  go_wp2_with fail
  refine (eqMark_same _ _ _ _ _).mono ?_
  rintro e w2 ⟨rfl, hb2⟩
  replace hA := hA.below hb2
  replace hB := hB.below hb2
  replace hbW := held_next hbW hb2
  clear cA cB
  have cA := hA.cell
  have cB := hB.cell
  go_wp2_with fail
  refine (eqCharacter_same ⟨lk, gn, gf, lt, cl, lp⟩ G G' gc gc' _ hgn (hG.below hbW) (hG'.below hbW)).mono ?_
  rintro e w3 ⟨rfl, hb3⟩
  replace hA := hA.below hb3
  replace hB := hB.below hb3
  replace hbW := held_next hbW hb3
  clear cA cB
  have cA := hA.cell
  have cB := hB.cell
  go_wp2_with fail
  refine (eqSectorS_same S S' sn sc sc' s0 s1 s2 _ hsn (hS.below hbW) (hS'.below hbW)).mono ?_
  rintro e w4 ⟨rfl, hb4⟩
  replace hA := hA.below hb4
  replace hB := hB.below hb4
  replace hbW := held_next hbW hb4
  clear cA cB
  have cA := hA.cell
  have cB := hB.cell
  go_wp2
  go_ret
  exact ⟨rfl, hbW⟩
end Go.Proofs.Ytolijmldobncbaa
