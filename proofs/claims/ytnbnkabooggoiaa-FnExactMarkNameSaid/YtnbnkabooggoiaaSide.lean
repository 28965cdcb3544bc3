/- The names and the side to pass: program and reference agree, for all numbers. -/
import Derived.Test.YtnbnkabooggoiaaPick
namespace Go.Proofs.Ytnbnkabooggoiaa
open Go.RowKit
set_option linter.unusedVariables false
theorem ten_cases {a : Int} (h : 0 ≤ a ∧ a ≤ 9) : a = 0 ∨ a = 1 ∨ a = 2 ∨ a = 3 ∨ a = 4 ∨ a = 5 ∨ a = 6 ∨ a = 7 ∨ a = 8 ∨ a = 9 := by omega
/-- The sides to pass. -/
def sideNames : List ByteArray := [⟨#[]⟩, (⟨#[112, 111, 114, 116]⟩ : ByteArray), (⟨#[115, 116, 97, 114, 98, 111, 97, 114, 100]⟩ : ByteArray), (⟨#[110, 111, 114, 116, 104]⟩ : ByteArray), (⟨#[101, 97, 115, 116]⟩ : ByteArray), (⟨#[115, 111, 117, 116, 104]⟩ : ByteArray), (⟨#[119, 101, 115, 116]⟩ : ByteArray), (⟨#[99, 108, 101, 97, 114]⟩ : ByteArray), (⟨#[101, 105, 116, 104, 101, 114]⟩ : ByteArray), ⟨#[]⟩]
/-- The names of the kinds of fog signals. -/
def fogNames : List ByteArray := [⟨#[]⟩, (⟨#[72, 111, 114, 110]⟩ : ByteArray), (⟨#[83, 105, 114, 101, 110]⟩ : ByteArray), (⟨#[66, 101, 108, 108]⟩ : ByteArray), (⟨#[87, 104, 105, 115]⟩ : ByteArray)]
/-- A text of a row that is written out. -/
theorem row_getS {ss : List ByteArray} {k : Int} (h : 0 ≤ k ∧ k < (ss.length : Int)) : (ss.map Value.string)[k.toNat]? = some (.string (pickS ss k)) := by
  rw [pickS_in h]
  have : k.toNat < ss.length := by omega
  simp [List.getD_eq_getElem?_getD, this]
set_option maxHeartbeats 1000000 in
theorem implSide_c (k : Int) (w : World) :
    Calls Try.prog 16 #[.int .i64 k] w fun e w' => e = .returned (.string (pickS sideNames k)) ∧ Below w.heap.size w w' := by
  go_enter Try.func16, Try.ntmps16
  go_wp2_with fail
  refine (pick_c sideNames 10 rfl (by omega) _ _ _ (rowS_new w sideNames 9)).mono ?_
  rintro e _ ⟨rfl, rfl⟩
  go_wp2
  go_ret
  exact ⟨rfl, (by repeat (first | exact Below.refl _ _ | refine Below.alloc ?_ (by simp; try omega) _ | refine Below.drew ?_))⟩
set_option maxHeartbeats 1000000 in
theorem specSide_c (k : Int) (w : World) :
    Calls Try.prog 15 #[.int .i64 k] w fun e w' => e = .returned (.string (pickS sideNames k)) ∧ Below w.heap.size w w' := by
  cases h : inR k 0 9
  · have hn : ¬ (0 ≤ k ∧ k < (sideNames.length : Int)) := fun g => by
      rw [inR_yes ⟨g.1, by have := g.2; simp [sideNames] at this; omega⟩] at h; cases h
    rw [pickS_out hn]
    go_enter Try.func15, Try.ntmps15
    go_wp2_with (go_at_call 42; refine (l00In_c _ _ _ _).mono ?_; rintro e w' ⟨rfl, rfl⟩)
    go_ret
    exact ⟨rfl, (by repeat (first | exact Below.refl _ _ | refine Below.alloc ?_ (by simp; try omega) _ | refine Below.drew ?_))⟩
  · obtain ⟨h0, h1⟩ := inR_iff.1 h
    have hi := row_getS (ss := sideNames) (k := k) ⟨h0, by show k < 10; omega⟩
    simp only [sideNames, List.map] at hi
    rw [show pickS [⟨#[]⟩, (⟨#[112, 111, 114, 116]⟩ : ByteArray), (⟨#[115, 116, 97, 114, 98, 111, 97, 114, 100]⟩ : ByteArray), (⟨#[110, 111, 114, 116, 104]⟩ : ByteArray), (⟨#[101, 97, 115, 116]⟩ : ByteArray), (⟨#[115, 111, 117, 116, 104]⟩ : ByteArray), (⟨#[119, 101, 115, 116]⟩ : ByteArray), (⟨#[99, 108, 101, 97, 114]⟩ : ByteArray), (⟨#[101, 105, 116, 104, 101, 114]⟩ : ByteArray), ⟨#[]⟩] k = pickS sideNames k from rfl] at hi
    go_enter Try.func15, Try.ntmps15
    go_wp2_with (go_at_call 42; refine (l00In_c _ _ _ _).mono ?_; rintro e w' ⟨rfl, rfl⟩)
    go_ret
    exact ⟨rfl, (by repeat (first | exact Below.refl _ _ | refine Below.alloc ?_ (by simp; try omega) _ | refine Below.drew ?_))⟩
set_option maxHeartbeats 1000000 in
theorem implFogName_c (k : Int) (w : World) :
    Calls Try.prog 18 #[.int .i64 k] w fun e w' => e = .returned (.string (pickS fogNames k)) ∧ Below w.heap.size w w' := by
  go_enter Try.func18, Try.ntmps18
  go_wp2_with fail
  refine (pick_c fogNames 5 rfl (by omega) _ _ _ (rowS_new w fogNames 9)).mono ?_
  rintro e _ ⟨rfl, rfl⟩
  go_wp2
  go_ret
  exact ⟨rfl, (by repeat (first | exact Below.refl _ _ | refine Below.alloc ?_ (by simp; try omega) _ | refine Below.drew ?_))⟩
set_option maxHeartbeats 1000000 in
theorem specFogName_c (k : Int) (w : World) :
    Calls Try.prog 17 #[.int .i64 k] w fun e w' => e = .returned (.string (pickS fogNames k)) ∧ Below w.heap.size w w' := by
  cases h : inR k 1 4
  · have hn : pickS fogNames k = ⟨#[]⟩ := by
      by_cases g : 0 ≤ k ∧ k < (fogNames.length : Int)
      · have g2 : k < 5 := g.2
        have : k = 0 := by
          have h' : ¬ (1 ≤ k ∧ k ≤ 4) := fun g' => by rw [inR_yes g'] at h; cases h
          omega
        subst this; rfl
      · exact pickS_out g
    rw [hn]
    clear hn
    go_enter Try.func17, Try.ntmps17
    go_wp2_with (go_at_call 44; refine (l10Kind_c _ _).mono ?_; rintro e w' ⟨rfl, rfl⟩)
    go_ret
    exact ⟨rfl, (by repeat (first | exact Below.refl _ _ | refine Below.alloc ?_ (by simp; try omega) _ | refine Below.drew ?_))⟩
  · have hk := inR_iff.1 h
    rcases four_cases hk with rfl | rfl | rfl | rfl
    all_goals
      clear hk
      go_enter Try.func17, Try.ntmps17
      go_wp2_with (first
        | (go_at_call 44; refine (l10Kind_c _ _).mono ?_; rintro e w' ⟨rfl, rfl⟩)
        | go_in)
      go_ret
      exact ⟨rfl, (by repeat (first | exact Below.refl _ _ | refine Below.alloc ?_ (by simp; try omega) _ | refine Below.drew ?_))⟩
set_option maxHeartbeats 1000000 in
theorem specMarkName_c (k : Int) (w : World) :
    Calls Try.prog 19 #[.int .i64 k] w fun e w' => e = .returned (.string (pickS markNames k)) ∧ Below w.heap.size w w' := by
  cases h : inR k 0 9
  · have hn : ¬ (0 ≤ k ∧ k < (markNames.length : Int)) := fun g => by
      rw [inR_yes ⟨g.1, by have := g.2; simp [markNames] at this; omega⟩] at h; cases h
    rw [pickS_out hn]
    go_enter Try.func19, Try.ntmps19
    go_wp2_with (go_at_call 42; refine (l00In_c _ _ _ _).mono ?_; rintro e w' ⟨rfl, rfl⟩)
    go_ret
    exact ⟨rfl, (by repeat (first | exact Below.refl _ _ | refine Below.alloc ?_ (by simp; try omega) _ | refine Below.drew ?_))⟩
  · obtain ⟨h0, h1⟩ := inR_iff.1 h
    have hi := row_getS (ss := markNames) (k := k) ⟨h0, by show k < 10; omega⟩
    simp only [markNames, List.map] at hi
    rw [show pickS [(⟨#[110, 111, 110, 101]⟩ : ByteArray), (⟨#[108, 101, 102, 116]⟩ : ByteArray), (⟨#[114, 105, 103, 104, 116]⟩ : ByteArray), (⟨#[110, 111, 114, 116, 104]⟩ : ByteArray), (⟨#[101, 97, 115, 116]⟩ : ByteArray), (⟨#[115, 111, 117, 116, 104]⟩ : ByteArray), (⟨#[119, 101, 115, 116]⟩ : ByteArray), (⟨#[100, 97, 110, 103, 101, 114]⟩ : ByteArray), (⟨#[115, 97, 102, 101]⟩ : ByteArray), (⟨#[115, 112, 101, 99, 105, 97, 108]⟩ : ByteArray)] k = pickS markNames k from rfl] at hi
    go_enter Try.func19, Try.ntmps19
    go_wp2_with (first
      | (go_at_call 42; refine (l00In_c _ _ _ _).mono ?_; rintro e w' ⟨rfl, rfl⟩)
      | go_in)
    go_ret
    exact ⟨rfl, (by repeat (first | exact Below.refl _ _ | refine Below.alloc ?_ (by simp; try omega) _ | refine Below.drew ?_))⟩
end Go.Proofs.Ytnbnkabooggoiaa
