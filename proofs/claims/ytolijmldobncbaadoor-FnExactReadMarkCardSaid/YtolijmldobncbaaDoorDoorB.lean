/- What a law behind a door is told: the listed tables, from the row's condition. -/
import Derived.Test.YtolijmldobncbaaDoorBase
import Derived.Test.YtolijmldobncbaaDoorCards
import Derived.Test.YtolijmldobncbaaDoorTie
import Derived.LaidMore
import Derived.Lay
import Derived.Lib.LaidU8
import Derived.Lib.LaidTab
import Derived.Lib.Space
import Derived.SevenTiedAt
import Derived.Stop.Joined
import Derived.Shelf.Unicode.PredsPay
namespace Go.Proofs.YtolijmldobncbaaDoor
open Go Go.RowKit
set_option maxRecDepth 100000 in
theorem asciiTab_of {W : World} (h : Lib.VarReads Tryd.prog W "strings.asciiSpace" Rows.laid_strings_asciiSpace) : Lib.TabIs Tryd.prog W "strings.asciiSpace" .u8 Lib.asciiSpaceTab := by
  obtain ⟨g, t, cs, fuel, p, hg, ht, hv, hd⟩ := h
  obtain rfl := Option.some.inj ((show Tryd.prog.globalNamed "strings.asciiSpace" = some 0 by kernel_rfl).symm.trans hg)
  obtain rfl := Option.some.inj ((show (Tryd.prog.globals[0]?).map (·.type) = some 108 by kernel_rfl).symm.trans ht)
  have e : (Rows.laid_strings_asciiSpace : DataW Unit) = Lib.tabData .u8 Lib.asciiSpaceTab := by kernel_rfl
  rw [e] at hd
  unfold Lib.TabIs
  rw [hv, ← Lib.cells_of_tab Tryd.underlying108 Tryd.underlying5 (by kernel_rfl) (by kernel_rfl) hd]
/-- The table of the blanks, where it is kept. -/
def Spaces (w : World) : Prop := Lib.TabIs Tryd.prog w "strings.asciiSpace" .u8 Lib.asciiSpaceTab
theorem Spaces.below {w w' : World} (h : Spaces w) (hb : Below w.heap.size w w') : Spaces w' := TabIs_below (show Tryd.prog.globalNamed "strings.asciiSpace" = some 0 by kernel_rfl) h hb
end Go.Proofs.YtolijmldobncbaaDoor
