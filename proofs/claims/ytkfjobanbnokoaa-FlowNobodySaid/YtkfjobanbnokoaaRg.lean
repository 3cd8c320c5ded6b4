/- A region that draws its order and whose last store hits a cell that it loads: one condition on the world ahead of that store, another behind it. -/
import Derived.Test.YtkfjobanbnokoaaRo
set_option linter.unusedSimpArgs false
set_option linter.unusedVariables false
set_option maxRecDepth 100000
namespace Go.Proofs.Ytkfjobanbnokoaa.Gm
open Go.RowKit Go.Proofs.YtkfjobanbnokoaaW.PrintWords Go.Proofs.Ytkfjobanbnokoaa.Bs

section
variable {P : Program} {ops : Array Oper} {Q : Exit → Act → World → Prop} {S1 S2 : World → Prop} {s : Nat}
/-- Ahead of operation s: S1; behind it: S2. -/
def stg (S1 S2 : World → Prop) (s : Nat) (L : Array Bool) (w : World) : Prop := if L.getD s false = true then S2 w else S1 w
theorem stg1 {L : Array Bool} {w : World} (h : L.getD s false = false) (h1 : S1 w) : stg S1 S2 s L w := by unfold stg; rw [h]; exact h1
theorem stg2 {L : Array Bool} {w : World} (h : L.getD s false = true) (h1 : S2 w) : stg S1 S2 s L w := by unfold stg; rw [h]; exact h1
/-- What s waits for has come up ahead of it. -/
def Good (ops : Array Oper) (s : Nat) (L : Array Bool) : Prop := ∀ os, ops[s]? = some os → L.getD s false = true → ∀ e ∈ os.after, Region.binds .any e = true → L.getD e.on false = true
def wpAny2 (P : Program) (ops : Array Oper) (Q : Exit → Act → World → Prop) (S1 S2 : World → Prop) (s : Nat) : Nat → Array Bool → Act → World → Prop
  | 0, L, a, w => Region.ready .any ops L = [] ∧ Q .normal a w
  | fuel + 1, L, a, w =>
    (Region.ready .any ops L = [] → Q .normal a w) ∧
    ∀ i ∈ Region.ready .any ops L, wpOp P ops Q i (fun a' w' => stg S1 S2 s (L.setIfInBounds i true) w' ∧ wpAny2 P ops Q S1 S2 s fuel (L.setIfInBounds i true) a' w') a w
theorem wpAny_of_2 : ∀ (fuel : Nat) (L : Array Bool) (a : Act) (w : World), wpAny2 P ops Q S1 S2 s fuel L a w → wpAny P .any ops Q fuel L a w
  | 0, _, _, _, h => h
  | fuel + 1, _, _, _, h => ⟨h.1, fun i hi => wpOp_mono (fun a' w' h' => wpAny_of_2 fuel _ a' w' h'.2) (h.2 i hi)⟩
theorem Good.step {L : Array Bool} (h : Good ops s L) {j : Nat} (hj : j ∈ Region.ready .any ops L) : Good ops s (L.setIfInBounds j true) := fun os ho hl e he hb => by
  obtain ⟨hjun, oj, hoj, hall⟩ := mem_ready.1 hj
  refine getD_set_true ?_
  by_cases hjs : j = s
  · subst hjs
    rw [ho] at hoj
    cases hoj
    exact hall e he hb
  · refine h os ho ?_ e he hb
    rw [getD_set_ne false hjs] at hl
    exact hl
theorem stg_ne {L : Array Bool} {i : Nat} (h : i ≠ s) {w : World} (hs : stg S1 S2 s (L.setIfInBounds i true) w) : stg S1 S2 s L w := by
  unfold stg at hs ⊢
  rwa [getD_set_ne false h] at hs
/-- An operation may be taken first: it yields its value in every world that may be met ahead of it. -/
theorem wpAny2_first {i : Nat} {oi : Oper} {v : Value} {Sy : World → Prop} (hi : ops[i]? = some oi) (hsel : ∀ (j : Nat) (o : Oper) cs b, ops[j]? = some o → o.op ≠ .select cs b)
    (hQ : ∀ c a w, Q (.panic c) (a.put oi.dst v) w → Q (.panic c) a w) (his : i ≠ s) (hSy : ∀ L w, Good ops s L → L.getD i true = false → stg S1 S2 s L w → Sy w) :
    ∀ (fuel : Nat) (L : Array Bool) (a : Act) (w : World), Good ops s L →
      (∀ j oj, ops[j]? = some oj → j ≠ i → L.getD j true = false → (∀ e ∈ oj.after, Region.binds .any e = true → e.on ≠ i) → oi.apart ops oj = true) →
      i ∈ Region.ready .any ops L → YieldsIf P ops Sy oi v a → stg S1 S2 s L w →
      wpAny2 P ops Q S1 S2 s fuel (L.setIfInBounds i true) (a.put oi.dst v) w → wpAny2 P ops Q S1 S2 s (fuel + 1) L a w := by
  have put : ∀ {L : Array Bool} {w : World}, stg S1 S2 s L w → stg S1 S2 s (L.setIfInBounds i true) w := fun {L w} h => by
    unfold stg at h ⊢
    rwa [getD_set_ne false his]
  intro fuel
  induction fuel with
  | zero =>
    intro L a w hg _ hr hy hS H
    refine ⟨fun h => (by rw [h] at hr; cases hr), fun j hj => ?_⟩
    by_cases hji : j = i
    · subst hji; exact hy.wpOp hi (hSy L w hg (mem_ready.1 hr).1 hS) ⟨put hS, H⟩
    · have := ready_mono hj hji
      rw [H.1] at this
      cases this
  | succ fuel ih =>
    intro L a w hg hfree hr hy hS H
    refine ⟨fun h => (by rw [h] at hr; cases hr), fun j hj => ?_⟩
    by_cases hji : j = i
    · subst hji; exact hy.wpOp hi (hSy L w hg (mem_ready.1 hr).1 hS) ⟨put hS, H⟩
    · have h1 := H.2 j (ready_mono hj hji)
      obtain ⟨hjun, oj, hoj, hall⟩ := mem_ready.1 hj
      have hnot : ∀ e ∈ oj.after, Region.binds .any e = true → e.on ≠ i := fun e he hb heq => by
        have h1 := hall e he hb
        have h0 := (mem_ready.1 hr).1
        rw [heq] at h1
        rcases Nat.lt_or_ge i L.size with h' | h'
        · simp [h'] at h0 h1; rw [h0] at h1; cases h1
        · simp [Array.getElem?_eq_none h'] at h1
      have h2 := wpOp_putIf hoj (hfree j oj hoj hji hjun hnot) (fun cs b => hsel i oi cs b hi) (fun cs b => hsel j oj cs b hoj) hQ hy h1
      have hfree' : ∀ k ok, ops[k]? = some ok → k ≠ i → (L.setIfInBounds j true).getD k true = false →
          (∀ e ∈ ok.after, Region.binds .any e = true → e.on ≠ i) → oi.apart ops ok = true := fun k ok hk hki hun hno => by
        refine hfree k ok hk hki ?_ hno
        by_cases hjk : j = k
        · subst hjk; exact hjun
        · rw [getD_set_ne true hjk] at hun; exact hun
      refine wpOp_mono (fun a' w' h3 => ?_) h2
      obtain ⟨hy3, hS3, h4⟩ := h3
      rw [Array.setIfInBounds_comm _ _ (Ne.symm hji)] at hS3 h4
      exact ⟨stg_ne his hS3, ih (L.setIfInBounds j true) a' w' (hg.step hj) hfree' (ready_mono hr (Ne.symm hji)) hy3 (stg_ne his hS3) h4⟩
/-- s waits for i. -/
def waitsB (ops : Array Oper) (s i : Nat) : Bool := match ops[s]? with | some os => os.after.any fun e => Region.binds .any e && e.on == i | none => false
theorem Good.ahead {L : Array Bool} (h : Good ops s L) {i : Nat} (hw : waitsB ops s i = true) (hi : L.getD i true = false) : L.getD s false = false := by
  unfold waitsB at hw
  split at hw
  · rename_i os ho
    rw [Array.any_eq_true'] at hw
    obtain ⟨e, he, hb⟩ := hw
    simp only [Bool.and_eq_true, beq_iff_eq] at hb
    rcases hc : L.getD s false with _ | _
    · rfl
    · have h1 := h os ho hc e he hb.1
      rw [hb.2] at h1
      rcases Nat.lt_or_ge i L.size with h' | h'
      · simp [h'] at h1 hi; rw [hi] at h1; cases h1
      · simp [Array.getElem?_eq_none h'] at h1
  · cases hw
theorem Good.start (n : Nat) : Good ops s (Array.replicate n false) := fun os ho hl => by
  rw [Array.getD_eq_getD_getElem?, Array.getElem?_replicate] at hl
  split at hl <;> cases hl
theorem wp_region_2 {id : Nat} {a : Act} {w : World} (s : Nat) (S1 S2 : World → Prop) (hm : P.follows .mixedOrders = true) (hS : S1 w.drew)
    (h : stg S1 S2 s (Array.replicate ops.size false) w.drew → Good ops s (Array.replicate ops.size false) → wpAny2 P ops Q S1 S2 s ops.size (Array.replicate ops.size false) a w.drew) : (Code.region id ops true).wp P Q a w :=
  wp_region_any hm (wpAny_of_2 _ _ _ _ (h (stg1 (by rw [Array.getD_eq_getD_getElem?, Array.getElem?_replicate]; split <;> rfl) hS) (Good.start _)))
end
section
variable {ops : Array Oper} {Q : Exit → Act → World → Prop} {S1 S2 : World → Prop} {s fuel : Nat} {L : Array Bool} {a a' : Act} {w : World}
/-- An operation that s waits for is taken first: its value is told under S1. -/
theorem t2a (i d : Nat) (v : Value) {oi : Oper} (hi : ops[i]? = some oi) (hy : YieldsIf Try.prog ops S1 oi v a) (k : Good ops s (L.setIfInBounds i true) → stg S1 S2 s (L.setIfInBounds i true) w → wpAny2 Try.prog ops Q S1 S2 s fuel (L.setIfInBounds i true) a' w) (hG : Good ops s L) (hS : stg S1 S2 s L w) (hd : oi.dst = some d)
    (hws : waitsB ops s i = true) (his : decide (i ≠ s) = true) (hs : Region.noSelect ops = true) (hf : Region.free .any ops L i = true) (hr : (Region.ready .any ops L).contains i = true)
    (ha : a.put (some d) v = a') (hQ : ∀ c a w, Q (.panic c) (a.put (some d) v) w → Q (.panic c) a w) : wpAny2 Try.prog ops Q S1 S2 s (fuel + 1) L a w := by
  subst ha
  have his := of_decide_eq_true his
  have hr : i ∈ Region.ready .any ops L := by simpa using hr
  refine wpAny2_first (Sy := S1) hi (Region.noSelect_spec hs) (by rw [hd]; exact hQ) his (fun L' w' hg h0 hst => ?_) fuel L a w hG (Region.free_spec hi hf) hr hy hS (by rw [hd]; exact k (hG.step hr) (by unfold stg at hS ⊢; rwa [getD_set_ne false his]))
  unfold stg at hst
  rw [hg.ahead hws h0] at hst
  exact hst
/-- An operation that yields its value in whatever world. -/
theorem t2p (i d : Nat) {v : Value} {oi : Oper} (k : Good ops s (L.setIfInBounds i true) → stg S1 S2 s (L.setIfInBounds i true) w → wpAny2 Try.prog ops Q S1 S2 s fuel (L.setIfInBounds i true) a' w) (hG : Good ops s L) (hS : stg S1 S2 s L w) (hi : ops[i]? = some oi) (hd : oi.dst = some d)
    (his : decide (i ≠ s) = true) (hs : Region.noSelect ops = true) (hf : Region.free .any ops L i = true) (hr : (Region.ready .any ops L).contains i = true) (hw : Region.wanted oi (yielded ops a.tmps) = true) (hv : ∀ w', (execOp a.eval oi).run Try.prog w' = .ok (.value v) w')
    (ha : a.put (some d) v = a') (hQ : ∀ c a w, Q (.panic c) (a.put (some d) v) w → Q (.panic c) a w) : wpAny2 Try.prog ops Q S1 S2 s (fuel + 1) L a w := by
  subst ha
  have his := of_decide_eq_true his
  have hr : i ∈ Region.ready .any ops L := by simpa using hr
  exact wpAny2_first (Sy := fun _ => True) hi (Region.noSelect_spec hs) (by rw [hd]; exact hQ) his (fun _ _ _ _ _ => trivial) fuel L a w hG (Region.free_spec hi hf) hr (.inl ⟨hw, fun w' _ => hv w'⟩) hS (by rw [hd]; exact k (hG.step hr) (by unfold stg at hS ⊢; rwa [getD_set_ne false his]))
/-- One operation alone may come up: it is run. -/
theorem r2 (i : Nat) {oi : Oper} (hi : ops[i]? = some oi) (hG : Good ops s L) (k : ∀ K' : Act → World → Prop, Shut (∀ a w, stg S1 S2 s (L.setIfInBounds i true) w → (Good ops s (L.setIfInBounds i true) → stg S1 S2 s (L.setIfInBounds i true) w → wpAny2 Try.prog ops Q S1 S2 s fuel (L.setIfInBounds i true) a w) → K' a w) → if Region.wanted oi (yielded ops a.tmps) = true then Oper.wp Try.prog oi a w K' Q else K' (a.put oi.dst undef) w)
    (hr : Region.ready .any ops L = [i]) : wpAny2 Try.prog ops Q S1 S2 s (fuel + 1) L a w := by
  refine ⟨fun h => absurd (hr ▸ h) (by simp), fun j hj => ?_⟩
  rw [hr] at hj
  obtain rfl : j = i := by simpa using hj
  have hg := hG.step (show j ∈ Region.ready .any ops L by rw [hr]; simp)
  exact wpOp_step hi (fun K' hK => k K' (fun a w hS hW => hK a w ⟨hS, hW hg hS⟩))
theorem done2 (hr : Region.ready .any ops L = []) (h : Q .normal a w) : ∀ fuel, wpAny2 Try.prog ops Q S1 S2 s fuel L a w
  | 0 => ⟨hr, h⟩
  | _ + 1 => ⟨fun _ => h, by rw [hr]; simp⟩
end
end Go.Proofs.Ytkfjobanbnokoaa.Gm
