/- ValidMark on both sides. -/
import Derived.Test.YtolijmldobncbaaDoorMarkB
namespace Go.Proofs.YtolijmldobncbaaDoor
open Go Go.RowKit Go.Shelf
set_option maxHeartbeats 4000000 in
theorem validMark_out (k : Int) (h : ¬ (1 ≤ k ∧ k ≤ 9)) (c sh t : ByteArray) (w : World) :
    Calls Tryd.prog 18 #[.agg #[.int .i64 k, .string c, .string sh, .string t]] w fun e w' => e = .returned (.bool (okM k c sh t)) ∧ Below w.heap.size w w' := by
  have HO := Lib.hid (show okM k c sh t = dMark k c sh t 0 ⟨#[]⟩ ⟨#[]⟩ ⟨#[]⟩ from if_neg h)
  have HK := Lib.hid (fun W => isMarkKindM_c k false (inR_no h) W)
  have heq := fun W => eqlMark_run k c sh t 0 ⟨#[]⟩ ⟨#[]⟩ ⟨#[]⟩ W
  generalize dMark k c sh t 0 ⟨#[]⟩ ⟨#[]⟩ ⟨#[]⟩ = v at *
  clear h
  cases v
  · go_enter Tryd.func18, Tryd.ntmps18
    go_wp2_with fail
    generalize hW : w.alloc (.cells #[.int .i64 k, .string c, .string sh, .string t] 23) = W at *
    have hbW : Below w.heap.size w W := hW ▸ (by repeat (first | exact Below.refl _ _ | refine Below.alloc ?_ (by simp; try omega) _ | refine Below.drew ?_))
    have k0 : ∀ y : Aft W, y.w1.cell? ⟨w.heap.size, 0, none⟩ = some (.int .i64 k) := by subst hW; exact fun y => y.new rfl
    clear hW
    refine wp_region_aft (by kernel_rfl) (by kernel_rfl) ?_
    repeat (go_big_quiet_step ((go_at_call 45; exact Aft.same (HK.out _))))
    refine wpQuiet_nil ?_
    intro w1 hb1
    go_wp2
    go_ret
    exact ⟨ret_bool HO.out.symm, held_next hbW hb1⟩
  · go_enter Tryd.func18, Tryd.ntmps18
    go_wp2_with fail
    go_ret
    exact ⟨ret_bool HO.out.symm, (by repeat (first | exact Below.refl _ _ | refine Below.alloc ?_ (by simp; try omega) _ | refine Below.drew ?_))⟩
theorem validMark_c (k : Int) (c sh t : ByteArray) (w : World) (hT : Spaces w) :
    Calls Tryd.prog 18 #[.agg #[.int .i64 k, .string c, .string sh, .string t]] w fun e w' => e = .returned (.bool (okM k c sh t)) ∧ Below w.heap.size w w' := by
  by_cases h : 1 ≤ k ∧ k ≤ 9
  · exact validMark_in k h c sh t w hT
  · exact validMark_out k h c sh t w
set_option maxHeartbeats 1000000 in
theorem specValidMark_c (k : Int) (c sh t : ByteArray) (w : World) :
    Calls Tryd.prog 16 #[.agg #[.int .i64 k, .string c, .string sh, .string t]] w fun e w' => e = .returned (.bool (okM k c sh t)) ∧ Below w.heap.size w w' := by
  go_enter Tryd.func16, Tryd.ntmps16
  go_wp2_with fail
  refine (l11Ok_c _ k c sh t _ (by simp [go_sem]) (by simp [go_sem]) (by simp [go_sem]) (by simp [go_sem])).mono ?_
  rintro e w1 ⟨rfl, hb1⟩
  go_wp2
  go_ret
  exact ⟨rfl, below_box hb1⟩
end Go.Proofs.YtolijmldobncbaaDoor
