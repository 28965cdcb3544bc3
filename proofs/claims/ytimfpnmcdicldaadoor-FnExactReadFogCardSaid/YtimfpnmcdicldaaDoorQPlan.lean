/- A region that draws its order, walked by a plan: operations that only look (and may float), operations that come alone, in whatever order the plan gives; then a forced tail. Guards are decided on the way; the class of worlds may grow narrower behind an operation that comes alone. -/
import Derived.Test.YtimfpnmcdicldaaDoorQTail
import Derived.OrdersHeld
namespace Go.Proofs.YtimfpnmcdicldaaDoor
open Go Go.RowKit
section
variable {P : Program} {ops : Array Oper} {md : Region.Mode} {Q : Exit → Act → World → Prop}

/-- Whatever of the first n operations is picked, each leaving a world of a class within the last, until the state is one that L takes. -/
def HeadK (P : Program) (md : Region.Mode) (ops : Array Oper) (Q : Exit → Act → World → Prop) (n : Nat) (L : Array Bool → Act → World → Prop) : Nat → (World → Prop) → Array Bool → Act → World → Prop
  | 0, _, done, a, w => L done a w
  | f + 1, C, done, a, w => Region.ready md ops done ≠ [] ∧ ∀ i ∈ Region.ready md ops done, i < n ∧ wpOp P ops Q i (fun a' w' => ∃ C' : World → Prop, (∀ u, C' u → C u) ∧ C' w' ∧ HeadK P md ops Q n L f C' (done.setIfInBounds i true) a' w') a w

theorem HeadK.any {n g : Nat} {L : Array Bool → Act → World → Prop} (hL : ∀ done a w, L done a w → wpAny P md ops Q g done a w) :
    ∀ (f : Nat) (C : World → Prop) (done : Array Bool) (a : Act) (w : World), HeadK P md ops Q n L f C done a w → wpAny P md ops Q (f + g) done a w
  | 0, C, done, a, w, h => by rw [Nat.zero_add]; exact hL _ _ _ h
  | f + 1, C, done, a, w, h => by
    have e : f + 1 + g = (f + g) + 1 := by omega
    rw [e]
    exact ⟨fun h0 => (h.1 h0).elim, fun i hi => wpOp_mono (fun a' w' ⟨C', _, _, h'⟩ => HeadK.any hL f C' _ a' w' h') (h.2 i hi).2⟩
theorem yieldsIf_within {C C' : World → Prop} {o : Oper} {v : Value} {a : Act} (hC : ∀ u, C' u → C u) (h : YieldsIf P ops C o v a) : YieldsIf P ops C' o v a := by
  rcases h with ⟨h1, h2⟩ | h
  · exact .inl ⟨h1, fun w' hw' => h2 w' (hC w' hw')⟩
  · exact .inr h

theorem HeadK.first {n i : Nat} {oi : Oper} {v : Value} {L : Array Bool → Act → World → Prop} (hi : ops[i]? = some oi) (hsel : ∀ (j : Nat) (o : Oper) cs b, ops[j]? = some o → o.op ≠ .select cs b)
    (hQ : ∀ c a w, Q (.panic c) (a.put oi.dst v) w → Q (.panic c) a w)
    (hs : Region.sinkB md ops n = true) (hc : Region.chainB md ops n = true) (hn : n < ops.size) (hin : i < n) (hdone : ∀ done a w, L done a w → ∀ j ∈ Region.ready md ops done, n ≤ j) :
    ∀ (f : Nat) (C : World → Prop) (done : Array Bool) (a : Act) (w : World), HeadInv md ops n done →
      (∀ j oj, ops[j]? = some oj → j ≠ i → done.getD j true = false → (∀ e ∈ oj.after, Region.binds md e = true → e.on ≠ i) → oi.apart ops oj = true) →
      i ∈ Region.ready md ops done → YieldsIf P ops C oi v a → C w → HeadK P md ops Q n L f C (done.setIfInBounds i true) (a.put oi.dst v) w → HeadK P md ops Q n L (f + 1) C done a w := by
  intro f
  induction f with
  | zero =>
    intro C done a w inv _ hr hy hw H
    have hun := (mem_ready.1 hr).1
    refine ⟨fun h0 => (by rw [h0] at hr; cases hr), fun j hj => ?_⟩
    by_cases e : j = i
    · subst e
      exact ⟨hin, hy.wpOp hi hw ⟨C, fun _ h => h, hw, H⟩⟩
    · exfalso
      rcases Nat.lt_or_ge j n with hlt | hge
      · have := hdone _ _ _ H j (ready_mono hj e)
        omega
      · exact tail_waits hs hc hn inv _ i rfl hin hun j hge hj
  | succ f ih =>
    intro C done a w inv hfree hr hy hw H
    have hun := (mem_ready.1 hr).1
    refine ⟨fun h0 => (by rw [h0] at hr; cases hr), fun j hj => ?_⟩
    by_cases e : j = i
    · subst e
      exact ⟨hin, hy.wpOp hi hw ⟨C, fun _ h => h, hw, H⟩⟩
    · obtain ⟨hjun, oj, hoj, hall⟩ := mem_ready.1 hj
      have hjn : j < n := by
        rcases Nat.lt_or_ge j n with hlt | hge
        · exact hlt
        · exact (tail_waits hs hc hn inv _ i rfl hin hun j hge hj).elim
      have hno : ∀ e ∈ oj.after, Region.binds md e = true → e.on ≠ i := fun e he hb heq => by
        have h1 := hall e he hb
        rw [heq, getD_both hun] at h1
        cases h1
      have step := wpOp_putIf hoj (hfree j oj hoj e hjun hno) (fun cs b => hsel i oi cs b hi) (fun cs b => hsel j oj cs b hoj) hQ hy (H.2 j (ready_mono hj e)).2
      refine ⟨hjn, wpOp_mono (fun a' w' ⟨h3, C', hC', hw', h4⟩ => ⟨C', hC', hw', ih C' _ a' w' (inv.set hj hjn) ?_ (ready_mono hr (Ne.symm e)) (yieldsIf_within hC' h3) hw' ?_⟩) step⟩
      · intro k ok hk hki hku hkn
        refine hfree k ok hk hki ?_ hkn
        by_cases hjk : j = k
        · subst hjk; exact hjun
        · rw [getD_set_ne true hjk] at hku; exact hku
      · rw [Array.setIfInBounds_comm _ _ e]
        exact h4

/-- The walk by a plan: (i, true): operation i only looks; (i, false): it comes alone. -/
def wpPlan (P : Program) (ops : Array Oper) (Q : Exit → Act → World → Prop) (L : Act → World → Prop) : List (Nat × Bool) → (World → Prop) → Act → World → Prop
  | [], _, a, w => L a w
  | p :: ps, C, a, w => ∃ o, ops[p.1]? = some o ∧
      if Region.wanted o (yielded ops a.tmps) = true then
        (if p.2 = true then ∃ v, (∀ w', C w' → (execOp a.eval o).run P w' = .ok (.value v) w') ∧ wpPlan P ops Q L ps C (a.put o.dst v) w
         else o.wp P a w (fun a' w' => ∃ C' : World → Prop, (∀ u, C' u → C u) ∧ C' w' ∧ wpPlan P ops Q L ps C' a' w') Q)
      else wpPlan P ops Q L ps C (a.put o.dst undef) w

def planFrom (md : Region.Mode) (ops : Array Oper) (g n : Nat) : List (Nat × Bool) → Array Bool → Bool
  | [], done => Region.seqB md ops g n done
  | p :: ps, done => decide (p.1 < n) && (if p.2 = true then (Region.ready md ops done).contains p.1 && Region.free md ops done p.1 else decide (Region.ready md ops done = [p.1])) && planFrom md ops g n ps (done.setIfInBounds p.1 true)
def planB (md : Region.Mode) (ops : Array Oper) (plan : List (Nat × Bool)) : Bool :=
  Region.noSelect ops && decide (plan.length < ops.size) && Region.sinkB md ops plan.length && Region.chainB md ops plan.length && planFrom md ops (ops.size - plan.length) plan.length plan (Array.replicate ops.size false)

theorem HeadK.plan {n g : Nat} {T : Act → World → Prop} (hsel : Region.noSelect ops = true) (hQ : ∀ c (a : Act) (d : Option Tmp) (v : Value) w, Q (.panic c) (a.put d v) w → Q (.panic c) a w)
    (hs : Region.sinkB md ops n = true) (hc : Region.chainB md ops n = true) (hn : n < ops.size) :
    ∀ (ps : List (Nat × Bool)) (C : World → Prop) (done : Array Bool) (a : Act) (w : World), HeadInv md ops n done →
    planFrom md ops g n ps done = true → C w → wpPlan P ops Q T ps C a w →
    HeadK P md ops Q n (fun d' a' w' => Region.seqB md ops g n d' = true ∧ T a' w') ps.length C done a w
  | [], C, done, a, w, _, hB, _, h => ⟨hB, h⟩
  | (k, true) :: ps, C, done, a, w, inv, hB, hw, h => by
    simp only [wpPlan] at h
    obtain ⟨o, h0, h⟩ := h
    simp only [planFrom, Bool.and_eq_true, decide_eq_true_eq, if_true] at hB
    obtain ⟨⟨hkn, hr, hf⟩, hB'⟩ := hB
    have hr' : k ∈ Region.ready md ops done := by simpa using hr
    by_cases hwt : Region.wanted o (yielded ops a.tmps) = true
    · rw [if_pos hwt] at h
      simp only [if_true] at h
      obtain ⟨v, hv, h⟩ := h
      exact HeadK.first h0 (Region.noSelect_spec hsel) (fun c a w => hQ c a _ _ w) hs hc hn hkn (fun d' a' w' hL => seqB_ready hL.1) ps.length C done a w inv (Region.free_spec h0 hf) hr' (.inl ⟨hwt, hv⟩) hw
        (HeadK.plan hsel hQ hs hc hn ps C _ _ w (inv.set hr' hkn) hB' hw h)
    · rw [if_neg hwt] at h
      exact HeadK.first h0 (Region.noSelect_spec hsel) (fun c a w => hQ c a _ _ w) hs hc hn hkn (fun d' a' w' hL => seqB_ready hL.1) ps.length C done a w inv (Region.free_spec h0 hf) hr' (.inr ⟨by simpa using hwt, rfl⟩) hw
        (HeadK.plan hsel hQ hs hc hn ps C _ _ w (inv.set hr' hkn) hB' hw h)
  | (k, false) :: ps, C, done, a, w, inv, hB, hw, h => by
    simp only [wpPlan] at h
    obtain ⟨o, h0, h⟩ := h
    simp only [planFrom, Bool.and_eq_true, decide_eq_true_eq, if_false, Bool.false_eq_true] at hB
    obtain ⟨⟨hkn, hr⟩, hB'⟩ := hB
    have hr' : k ∈ Region.ready md ops done := by rw [hr]; simp
    refine ⟨by rw [hr]; simp, fun i hi => ?_⟩
    rw [hr] at hi
    have hik : i = k := by simpa using hi
    subst hik
    refine ⟨hkn, ?_⟩
    unfold wpOp
    simp only [h0]
    split
    · rename_i hwt
      rw [if_pos hwt] at h
      simp only [if_false, Bool.false_eq_true] at h
      exact .inl (Oper.wp_mono (fun a' w' ⟨C', hC', hw', h'⟩ => ⟨C', hC', hw', HeadK.plan hsel hQ hs hc hn ps C' _ a' w' (inv.set hr' hkn) hB' hw' h'⟩) h)
    · rename_i hwt
      rw [if_neg hwt] at h
      exact ⟨C, fun _ h => h, hw, HeadK.plan hsel hQ hs hc hn ps C _ _ w (inv.set hr' hkn) hB' hw h⟩

/-- By the plan, then the rest in its forced order. -/
theorem wp_region_plan {id : Nat} {a : Act} {w : World} {C : World → Prop} {l : List Oper} (plan : List (Nat × Bool)) (hm : P.follows .mixedOrders = true) (hB : planB .any l.toArray plan = true)
    (hQ : ∀ c (a : Act) (d : Option Tmp) (v : Value) w, Q (.panic c) (a.put d v) w → Q (.panic c) a w) (hC : C { w with drawn := w.drawn + 1 })
    (h : wpPlan P l.toArray Q (fun a' w' => wpList P l.toArray Q (l.drop plan.length) a' w') plan C a { w with drawn := w.drawn + 1 }) : (Code.region id l.toArray true).wp P Q a w := by
  simp only [planB, Bool.and_eq_true, decide_eq_true_eq] at hB
  obtain ⟨⟨⟨⟨hsel, hn⟩, hs⟩, hc⟩, hmix⟩ := hB
  have hrest : (l.drop plan.length).length = l.toArray.size - plan.length := by simp
  have inv : HeadInv .any l.toArray plan.length (Array.replicate l.toArray.size false) :=
    ⟨by simp, fun j oj _ hl => by (rw [getD_replicate_false] at hl; cases hl), fun t _ ht => getD_in (by simpa using ht) (getD_replicate_false _ _)⟩
  have H := HeadK.plan (P := P) (Q := Q) (md := .any) (n := plan.length) (g := l.toArray.size - plan.length) hsel hQ hs hc hn plan C _ a _ inv hmix hC h
  refine wp_region_any hm ?_
  have R := HeadK.any (Q := Q) (g := l.toArray.size - plan.length) (fun d' a' w' hL => by
    have := wpAny_of_seq (md := .any) (Q' := Q) (l.drop plan.length) plan.length d' a' w' (fun j => by simp [List.getElem?_drop]) (by rw [hrest]; exact hL.1) hL.2
    rwa [hrest] at this) _ _ _ _ _ H
  have e : plan.length + (l.toArray.size - plan.length) = l.toArray.size := by omega
  rw [e] at R
  exact R
variable {C : World → Prop} {L : Act → World → Prop} {ps : List (Nat × Bool)} {i : Nat} {o : Oper} {a : Act} {w : World}
theorem plan_look {v : Value} (h0 : ops[i]? = some o) (hg : Region.wanted o (yielded ops a.tmps) = true) (h : ∀ w', C w' → (execOp a.eval o).run P w' = .ok (.value v) w') (hk : wpPlan P ops Q L ps C (a.put o.dst v) w) :
    wpPlan P ops Q L ((i, true) :: ps) C a w := by
  simp only [wpPlan]
  refine ⟨o, h0, ?_⟩
  rw [if_pos hg, if_pos (by trivial)]
  exact ⟨v, h, hk⟩
theorem plan_skip {b : Bool} (h0 : ops[i]? = some o) (hg : Region.wanted o (yielded ops a.tmps) = false) (hk : wpPlan P ops Q L ps C (a.put o.dst undef) w) :
    wpPlan P ops Q L ((i, b) :: ps) C a w := by
  simp only [wpPlan]
  refine ⟨o, h0, ?_⟩
  rw [if_neg (by rw [hg]; simp)]
  exact hk
/-- An operation that comes alone; the class behind it may be narrower. -/
theorem plan_turn (h0 : ops[i]? = some o) (hg : Region.wanted o (yielded ops a.tmps) = true) (h : o.wp P a w (fun a' w' => ∃ C' : World → Prop, (∀ u, C' u → C u) ∧ C' w' ∧ wpPlan P ops Q L ps C' a' w') Q) :
    wpPlan P ops Q L ((i, false) :: ps) C a w := by
  simp only [wpPlan]
  refine ⟨o, h0, ?_⟩
  rw [if_pos hg, if_neg (by simp)]
  exact h
theorem plan_alone (h0 : ops[i]? = some o) (hg : Region.wanted o (yielded ops a.tmps) = true) (h : o.wp P a w (fun a' w' => C w' ∧ wpPlan P ops Q L ps C a' w') Q) :
    wpPlan P ops Q L ((i, false) :: ps) C a w :=
  plan_turn h0 hg (Oper.wp_mono (fun _ _ ⟨h1, h2⟩ => ⟨C, fun _ h => h, h1, h2⟩) h)
theorem plan_end (h : L a w) : wpPlan P ops Q L [] C a w := h
/-- The worlds behind a world are behind what that is behind. -/
theorem aft_within {w w1 : World} (hb : Below w.heap.size w w1) (u : World) (h : ∃ x : Aft w1, u = x.w1) : ∃ x : Aft w, u = x.w1 := by
  obtain ⟨x, rfl⟩ := h
  exact ⟨⟨x.w1, held_next hb x.below⟩, rfl⟩
theorem aft_self (w : World) : ∃ x : Aft w, w = x.w1 := ⟨⟨w, Below.refl _ _⟩, rfl⟩
end
end Go.Proofs.YtimfpnmcdicldaaDoor
