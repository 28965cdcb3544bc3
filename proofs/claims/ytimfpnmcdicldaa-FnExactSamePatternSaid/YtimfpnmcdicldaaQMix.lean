/- A region that draws its order: operations that only look (and may float), operations that come alone, and a forced tail. One walk, in text order. -/
import Derived.Test.YtimfpnmcdicldaaQTail
import Derived.OrdersHeld
namespace Go.Proofs.Ytimfpnmcdicldaa
open Go Go.RowKit
section
variable {P : Program} {ops : Array Oper} {md : Region.Mode} {C : World → Prop} {Q : Exit → Act → World → Prop}

/-- Whatever of the first n operations is picked, each leaving a world of C, until the state is one that L takes. -/
def HeadM (P : Program) (md : Region.Mode) (ops : Array Oper) (C : World → Prop) (Q : Exit → Act → World → Prop) (n : Nat) (L : Array Bool → Act → World → Prop) : Nat → Array Bool → Act → World → Prop
  | 0, done, a, w => L done a w
  | f + 1, done, a, w => Region.ready md ops done ≠ [] ∧ ∀ i ∈ Region.ready md ops done, i < n ∧ wpOp P ops Q i (fun a' w' => C w' ∧ HeadM P md ops C Q n L f (done.setIfInBounds i true) a' w') a w

theorem HeadM.any {n g : Nat} {L : Array Bool → Act → World → Prop} (hL : ∀ done a w, L done a w → wpAny P md ops Q g done a w) :
    ∀ (f : Nat) (done : Array Bool) (a : Act) (w : World), HeadM P md ops C Q n L f done a w → wpAny P md ops Q (f + g) done a w
  | 0, done, a, w, h => by rw [Nat.zero_add]; exact hL _ _ _ h
  | f + 1, done, a, w, h => by
    have e : f + 1 + g = (f + g) + 1 := by omega
    rw [e]
    exact ⟨fun h0 => (h.1 h0).elim, fun i hi => wpOp_mono (fun a' w' h' => HeadM.any hL f _ a' w' h'.2) (h.2 i hi).2⟩

theorem HeadM.first {n i : Nat} {oi : Oper} {v : Value} {L : Array Bool → Act → World → Prop} (hi : ops[i]? = some oi) (hsel : ∀ (j : Nat) (o : Oper) cs b, ops[j]? = some o → o.op ≠ .select cs b)
    (hQ : ∀ c a w, Q (.panic c) (a.put oi.dst v) w → Q (.panic c) a w)
    (hs : Region.sinkB md ops n = true) (hc : Region.chainB md ops n = true) (hn : n < ops.size) (hin : i < n) (hdone : ∀ done a w, L done a w → ∀ j ∈ Region.ready md ops done, n ≤ j) :
    ∀ (f : Nat) (done : Array Bool) (a : Act) (w : World), HeadInv md ops n done →
      (∀ j oj, ops[j]? = some oj → j ≠ i → done.getD j true = false → (∀ e ∈ oj.after, Region.binds md e = true → e.on ≠ i) → oi.apart ops oj = true) →
      i ∈ Region.ready md ops done → YieldsIf P ops C oi v a → C w → HeadM P md ops C Q n L f (done.setIfInBounds i true) (a.put oi.dst v) w → HeadM P md ops C Q n L (f + 1) done a w := by
  intro f
  induction f with
  | zero =>
    intro done a w inv _ hr hy hw H
    have hun := (mem_ready.1 hr).1
    refine ⟨fun h0 => (by rw [h0] at hr; cases hr), fun j hj => ?_⟩
    by_cases e : j = i
    · subst e
      exact ⟨hin, hy.wpOp hi hw ⟨hw, H⟩⟩
    · exfalso
      rcases Nat.lt_or_ge j n with hlt | hge
      · have := hdone _ _ _ H j (ready_mono hj e)
        omega
      · exact tail_waits hs hc hn inv _ i rfl hin hun j hge hj
  | succ f ih =>
    intro done a w inv hfree hr hy hw H
    have hun := (mem_ready.1 hr).1
    refine ⟨fun h0 => (by rw [h0] at hr; cases hr), fun j hj => ?_⟩
    by_cases e : j = i
    · subst e
      exact ⟨hin, hy.wpOp hi hw ⟨hw, H⟩⟩
    · obtain ⟨hjun, oj, hoj, hall⟩ := mem_ready.1 hj
      have hjn : j < n := by
        rcases Nat.lt_or_ge j n with hlt | hge
        · exact hlt
        · exact (tail_waits hs hc hn inv _ i rfl hin hun j hge hj).elim
      have hno : ∀ e ∈ oj.after, Region.binds md e = true → e.on ≠ i := fun e he hb heq => by
        have h1 := hall e he hb
        rw [heq, getD_both hun] at h1
        cases h1
      have step := wpOp_putIf hoj (hfree j oj hoj e hjun hno) (fun cs b => hsel i oi cs b hi) (fun cs b => hsel j oj cs b hoj) hQ hy (H.2 j (ready_mono hj e)).2
      refine ⟨hjn, wpOp_mono (fun a' w' h3 => ⟨h3.2.1, ih _ a' w' (inv.set hj hjn) ?_ (ready_mono hr (Ne.symm e)) h3.1 h3.2.1 ?_⟩) step⟩
      · intro k ok hk hki hku hkn
        refine hfree k ok hk hki ?_ hkn
        by_cases hjk : j = k
        · subst hjk; exact hjun
        · rw [getD_set_ne true hjk] at hku; exact hku
      · rw [Array.setIfInBounds_comm _ _ e]
        exact h3.2.2

/-- The walk by a plan: true: an operation that only looks; false: one that comes alone. -/
def wpMix (P : Program) (ops : Array Oper) (C : World → Prop) (Q : Exit → Act → World → Prop) (L : Act → World → Prop) : List Bool → List Oper → Act → World → Prop
  | [], _, a, w => L a w
  | _ :: _, [], _, _ => False
  | true :: ps, o :: l, a, w => if Region.wanted o (yielded ops a.tmps) = true then ∃ v, (∀ w', C w' → (execOp a.eval o).run P w' = .ok (.value v) w') ∧ wpMix P ops C Q L ps l (a.put o.dst v) w else wpMix P ops C Q L ps l (a.put o.dst undef) w
  | false :: ps, o :: l, a, w => if Region.wanted o (yielded ops a.tmps) = true then o.wp P a w (fun a' w' => C w' ∧ wpMix P ops C Q L ps l a' w') Q else C w ∧ wpMix P ops C Q L ps l (a.put o.dst undef) w

def mixFrom (md : Region.Mode) (ops : Array Oper) (g : Nat) : List Bool → Nat → Array Bool → Bool
  | [], k, done => Region.seqB md ops g k done
  | true :: ps, k, done => (Region.ready md ops done).contains k && Region.free md ops done k && mixFrom md ops g ps (k + 1) (done.setIfInBounds k true)
  | false :: ps, k, done => decide (Region.ready md ops done = [k]) && mixFrom md ops g ps (k + 1) (done.setIfInBounds k true)
def mixB (md : Region.Mode) (ops : Array Oper) (plan : List Bool) : Bool :=
  Region.noSelect ops && decide (plan.length < ops.size) && Region.sinkB md ops plan.length && Region.chainB md ops plan.length && mixFrom md ops (ops.size - plan.length) plan 0 (Array.replicate ops.size false)

theorem HeadM.mix {n g : Nat} {T : Act → World → Prop} (hsel : Region.noSelect ops = true) (hQ : ∀ c (a : Act) (d : Option Tmp) (v : Value) w, Q (.panic c) (a.put d v) w → Q (.panic c) a w)
    (hs : Region.sinkB md ops n = true) (hc : Region.chainB md ops n = true) (hn : n < ops.size) :
    ∀ (ps : List Bool) (l : List Oper) (k : Nat) (done : Array Bool) (a : Act) (w : World), (∀ j, l[j]? = ops[k + j]?) → k + ps.length = n → HeadInv md ops n done →
    mixFrom md ops g ps k done = true → C w → wpMix P ops C Q T ps l a w →
    HeadM P md ops C Q n (fun d' a' w' => Region.seqB md ops g n d' = true ∧ T a' w') ps.length done a w
  | [], l, k, done, a, w, _, hk, _, hB, _, h => by
    have e : k = n := by simpa using hk
    rw [e] at hB
    exact ⟨hB, h⟩
  | _ :: _, [], k, done, a, w, _, hk, _, _, _, h => by
    cases ‹Bool› <;> exact h.elim
  | true :: ps, o :: l, k, done, a, w, hl, hk, inv, hB, hw, h => by
    have h0 : ops[k]? = some o := by simpa using (hl 0).symm
    simp only [List.length_cons] at hk ⊢
    simp only [mixFrom, Bool.and_eq_true] at hB
    obtain ⟨⟨hr, hf⟩, hB'⟩ := hB
    have hkn : k < n := by omega
    have hr' : k ∈ Region.ready md ops done := by simpa using hr
    have hl' : ∀ j, l[j]? = ops[k + 1 + j]? := fun j => by have := hl (j + 1); simpa [Nat.add_assoc, Nat.add_comm 1 j] using this
    simp only [wpMix] at h
    by_cases hwt : Region.wanted o (yielded ops a.tmps) = true
    · rw [if_pos hwt] at h
      obtain ⟨v, hv, h⟩ := h
      exact HeadM.first h0 (Region.noSelect_spec hsel) (fun c a w => hQ c a _ _ w) hs hc hn hkn (fun d' a' w' hL => seqB_ready hL.1) ps.length done a w inv (Region.free_spec h0 hf) hr' (.inl ⟨hwt, hv⟩) hw
        (HeadM.mix hsel hQ hs hc hn ps l (k + 1) _ _ w hl' (by omega) (inv.set hr' hkn) hB' hw h)
    · rw [if_neg hwt] at h
      exact HeadM.first h0 (Region.noSelect_spec hsel) (fun c a w => hQ c a _ _ w) hs hc hn hkn (fun d' a' w' hL => seqB_ready hL.1) ps.length done a w inv (Region.free_spec h0 hf) hr' (.inr ⟨by simpa using hwt, rfl⟩) hw
        (HeadM.mix hsel hQ hs hc hn ps l (k + 1) _ _ w hl' (by omega) (inv.set hr' hkn) hB' hw h)
  | false :: ps, o :: l, k, done, a, w, hl, hk, inv, hB, hw, h => by
    have h0 : ops[k]? = some o := by simpa using (hl 0).symm
    simp only [List.length_cons] at hk ⊢
    simp only [mixFrom, Bool.and_eq_true, decide_eq_true_eq] at hB
    obtain ⟨hr, hB'⟩ := hB
    have hkn : k < n := by omega
    have hr' : k ∈ Region.ready md ops done := by rw [hr]; simp
    have hl' : ∀ j, l[j]? = ops[k + 1 + j]? := fun j => by have := hl (j + 1); simpa [Nat.add_assoc, Nat.add_comm 1 j] using this
    simp only [wpMix] at h
    refine ⟨by rw [hr]; simp, fun i hi => ?_⟩
    rw [hr] at hi
    have hik : i = k := by simpa using hi
    subst hik
    refine ⟨hkn, ?_⟩
    unfold wpOp
    simp only [h0]
    split
    · rename_i hwt
      rw [if_pos hwt] at h
      exact .inl (Oper.wp_mono (fun a' w' h' => ⟨h'.1, HeadM.mix hsel hQ hs hc hn ps l (i + 1) _ a' w' hl' (by omega) (inv.set hr' hkn) hB' h'.1 h'.2⟩) h)
    · rename_i hwt
      rw [if_neg hwt] at h
      exact ⟨h.1, HeadM.mix hsel hQ hs hc hn ps l (i + 1) _ _ w hl' (by omega) (inv.set hr' hkn) hB' h.1 h.2⟩

/-- By the plan, then the rest in its forced order. -/
theorem wp_region_mix {id : Nat} {a : Act} {w : World} {l : List Oper} (plan : List Bool) (hm : P.follows .mixedOrders = true) (hB : mixB .any l.toArray plan = true)
    (hQ : ∀ c (a : Act) (d : Option Tmp) (v : Value) w, Q (.panic c) (a.put d v) w → Q (.panic c) a w) (hC : C { w with drawn := w.drawn + 1 })
    (h : wpMix P l.toArray C Q (fun a' w' => wpList P l.toArray Q (l.drop plan.length) a' w') plan l a { w with drawn := w.drawn + 1 }) : (Code.region id l.toArray true).wp P Q a w := by
  simp only [mixB, Bool.and_eq_true, decide_eq_true_eq] at hB
  obtain ⟨⟨⟨⟨hsel, hn⟩, hs⟩, hc⟩, hmix⟩ := hB
  have hrest : (l.drop plan.length).length = l.toArray.size - plan.length := by simp
  have inv : HeadInv .any l.toArray plan.length (Array.replicate l.toArray.size false) :=
    ⟨by simp, fun j oj _ hl => by (rw [getD_replicate_false] at hl; cases hl), fun t _ ht => getD_in (by simpa using ht) (getD_replicate_false _ _)⟩
  have H := HeadM.mix (P := P) (C := C) (Q := Q) (md := .any) (n := plan.length) (g := l.toArray.size - plan.length) hsel hQ hs hc hn plan l 0 _ a _ (fun j => by simp) (by simp) inv hmix hC h
  refine wp_region_any hm ?_
  have R := HeadM.any (Q := Q) (g := l.toArray.size - plan.length) (fun d' a' w' hL => by
    have := wpAny_of_seq (md := .any) (Q' := Q) (l.drop plan.length) plan.length d' a' w' (fun j => by simp [List.getElem?_drop]) (by rw [hrest]; exact hL.1) hL.2
    rwa [hrest] at this) _ _ _ _ H
  have e : plan.length + (l.toArray.size - plan.length) = l.toArray.size := by omega
  rw [e] at R
  exact R
theorem mix_look {L : Act → World → Prop} {ps : List Bool} {o : Oper} {l : List Oper} {a : Act} {w : World} (v : Value) (hg : o.guard = none) (h : ∀ w', C w' → (execOp a.eval o).run P w' = .ok (.value v) w') (hk : wpMix P ops C Q L ps l (a.put o.dst v) w) :
    wpMix P ops C Q L (true :: ps) (o :: l) a w := by
  simp only [wpMix]
  rw [if_pos (by simp [Region.wanted, hg])]
  exact ⟨v, h, hk⟩
theorem mix_alone {L : Act → World → Prop} {ps : List Bool} {o : Oper} {l : List Oper} {a : Act} {w : World} (hg : o.guard = none) (h : o.wp P a w (fun a' w' => C w' ∧ wpMix P ops C Q L ps l a' w') Q) :
    wpMix P ops C Q L (false :: ps) (o :: l) a w := by
  simp only [wpMix]
  rw [if_pos (by simp [Region.wanted, hg])]
  exact h
end
end Go.Proofs.Ytimfpnmcdicldaa
