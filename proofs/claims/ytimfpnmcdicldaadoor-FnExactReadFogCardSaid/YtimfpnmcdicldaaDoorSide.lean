/- The names and the side to pass: program and reference agree, for all numbers. -/
import Derived.Test.YtimfpnmcdicldaaDoorPick
namespace Go.Proofs.YtimfpnmcdicldaaDoor
open Go.RowKit
set_option linter.unusedVariables false
theorem ten_cases {a : Int} (h : 0 ≤ a ∧ a ≤ 9) : a = 0 ∨ a = 1 ∨ a = 2 ∨ a = 3 ∨ a = 4 ∨ a = 5 ∨ a = 6 ∨ a = 7 ∨ a = 8 ∨ a = 9 := by omega
/-- The sides to pass. -/
def sideNames : List ByteArray := [⟨#[]⟩, (⟨#[112, 111, 114, 116]⟩ : ByteArray), (⟨#[115, 116, 97, 114, 98, 111, 97, 114, 100]⟩ : ByteArray), (⟨#[110, 111, 114, 116, 104]⟩ : ByteArray), (⟨#[101, 97, 115, 116]⟩ : ByteArray), (⟨#[115, 111, 117, 116, 104]⟩ : ByteArray), (⟨#[119, 101, 115, 116]⟩ : ByteArray), (⟨#[99, 108, 101, 97, 114]⟩ : ByteArray), (⟨#[101, 105, 116, 104, 101, 114]⟩ : ByteArray), ⟨#[]⟩]
/-- The names of the kinds of fog signals. -/
def fogNames : List ByteArray := [⟨#[]⟩, (⟨#[72, 111, 114, 110]⟩ : ByteArray), (⟨#[83, 105, 114, 101, 110]⟩ : ByteArray), (⟨#[66, 101, 108, 108]⟩ : ByteArray), (⟨#[87, 104, 105, 115]⟩ : ByteArray)]
set_option maxHeartbeats 1000000 in
theorem implFogName_c (k : Int) (w : World) :
    Calls Tryd.prog 39 #[.int .i64 k] w fun e w' => e = .returned (.string (pickS fogNames k)) ∧ Below w.heap.size w w' := by
  go_enter Tryd.func39, Tryd.ntmps39
  go_wp2_with fail
  refine (pick_c fogNames 5 rfl (by omega) _ _ _ (rowS_new w fogNames 9)).mono ?_
  rintro e _ ⟨rfl, rfl⟩
  go_wp2
  go_ret
  exact ⟨rfl, (by repeat (first | exact Below.refl _ _ | refine Below.alloc ?_ (by simp; try omega) _ | refine Below.drew ?_))⟩
end Go.Proofs.YtimfpnmcdicldaaDoor
