/- What a law behind a door is told of the library's two errors: some error is kept there. -/
import Derived.Test.YtimfpnmcdicldaaDoorDoorP
import Derived.Test.YtimfpnmcdicldaaDoorR8
import Derived.LaidLaws
namespace Go.Proofs.YtimfpnmcdicldaaDoor
open Go Go.RowKit Go.Shelf
/-- The variables ErrSyntax and ErrRange of strconv hold errors. -/
def Errs (w : World) : Prop := (∃ te pe, w.cell? ⟨2, 0, none⟩ = some (.iface te pe)) ∧ ∃ te pe, w.cell? ⟨3, 0, none⟩ = some (.iface te pe)
theorem Errs.below {w w' : World} (h : Errs w) (hb : Below w.heap.size w w') : Errs w' := by
  obtain ⟨⟨a, b, h1⟩, c, d, h2⟩ := h
  exact ⟨⟨a, b, (hb.cell (cell_lt h1)).trans h1⟩, c, d, (hb.cell (cell_lt h2)).trans h2⟩
theorem errs_of {W : World} (h1 : Lib.VarReads Tryd.prog W "strconv.ErrSyntax" Rows.laid_strconv_ErrSyntax) (h2 : Lib.VarReads Tryd.prog W "strconv.ErrRange" Rows.laid_strconv_ErrRange) : Errs W := by
  constructor
  · obtain ⟨g, t, cs, fuel, p, hg, ht, hv, hd⟩ := h1
    obtain rfl := Option.some.inj ((show Tryd.prog.globalNamed "strconv.ErrSyntax" = some 2 by kernel_rfl).symm.trans hg)
    obtain rfl := Option.some.inj ((show (Tryd.prog.globals[2]?).map (·.type) = some 105 by kernel_rfl).symm.trans ht)
    unfold Rows.laid_strconv_ErrSyntax at hd
    obtain ⟨_, u, v, hc, _, _⟩ := iface_of_trod Tryd.underlying105 hd
    refine ⟨u, v, ?_⟩
    rw [World.var?_cell (show Tryd.prog.globalNamed "strconv.ErrSyntax" = some 2 by kernel_rfl) hv 0, ← Array.getElem?_toList, hc]
    rfl
  · obtain ⟨g, t, cs, fuel, p, hg, ht, hv, hd⟩ := h2
    obtain rfl := Option.some.inj ((show Tryd.prog.globalNamed "strconv.ErrRange" = some 3 by kernel_rfl).symm.trans hg)
    obtain rfl := Option.some.inj ((show (Tryd.prog.globals[3]?).map (·.type) = some 105 by kernel_rfl).symm.trans ht)
    unfold Rows.laid_strconv_ErrRange at hd
    obtain ⟨_, u, v, hc, _, _⟩ := iface_of_trod Tryd.underlying105 hd
    refine ⟨u, v, ?_⟩
    rw [World.var?_cell (show Tryd.prog.globalNamed "strconv.ErrRange" = some 3 by kernel_rfl) hv 0, ← Array.getElem?_toList, hc]
    rfl
end Go.Proofs.YtimfpnmcdicldaaDoor
