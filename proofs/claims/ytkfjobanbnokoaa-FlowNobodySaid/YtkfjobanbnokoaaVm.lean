/- Plain: rows sorted by a rank; what a merge in place comes to. -/
import Derived.Test.YtkfjobanbnokoaaZa
set_option linter.unusedSimpArgs false
set_option linter.unusedVariables false
set_option linter.unusedSectionVars false
set_option maxRecDepth 100000
namespace Go.Proofs.Ytkfjobanbnokoaa.Fw

section
variable {α : Type} {rk : α → Int}
def Inc (rk : α → Int) (l : List α) : Prop := l.Pairwise (fun x y => rk x < rk y)
theorem Inc.nil : Inc rk [] := List.Pairwise.nil
theorem Inc.one (x : α) : Inc rk [x] := List.pairwise_singleton _ _
theorem Inc.left {a b : List α} (h : Inc rk (a ++ b)) : Inc rk a := (List.pairwise_append.1 h).1
theorem Inc.right {a b : List α} (h : Inc rk (a ++ b)) : Inc rk b := (List.pairwise_append.1 h).2.1
theorem Inc.cross {a b : List α} (h : Inc rk (a ++ b)) : ∀ x ∈ a, ∀ y ∈ b, rk x < rk y := (List.pairwise_append.1 h).2.2
theorem Inc.append {a b : List α} (h1 : Inc rk a) (h2 : Inc rk b) (h : ∀ x ∈ a, ∀ y ∈ b, rk x < rk y) : Inc rk (a ++ b) := List.pairwise_append.2 ⟨h1, h2, h⟩
theorem Inc.at {l : List α} (h : Inc rk l) {i j : Nat} (hij : i < j) {x y : α} (hx : l[i]? = some x) (hy : l[j]? = some y) : rk x < rk y := by
  obtain ⟨hi, rfl⟩ := List.getElem?_eq_some_iff.1 hx
  obtain ⟨hj, rfl⟩ := List.getElem?_eq_some_iff.1 hy
  exact List.pairwise_iff_getElem.1 h i j hi hj hij
theorem Inc.last {l : List α} {x z : α} {i : Nat} (h : Inc rk l) (hx : l[i]? = some x) (hl : l.length = i + 1) (hz : z ∈ l) : rk z ≤ rk x := by
  obtain ⟨j, hj, rfl⟩ := List.getElem_of_mem hz
  by_cases e : j = i
  · subst e
    rw [List.getElem?_eq_getElem hj] at hx
    injection hx with hx
    rw [hx]; exact Int.le_refl _
  · have := h.at (i := j) (j := i) (by omega) (List.getElem?_eq_getElem hj) hx
    omega
theorem Inc.first {l : List α} {x z : α} (h : Inc rk l) (hx : l[0]? = some x) (hz : z ∈ l) : rk x ≤ rk z := by
  obtain ⟨j, hj, rfl⟩ := List.getElem_of_mem hz
  by_cases e : j = 0
  · subst e
    rw [List.getElem?_eq_getElem hj] at hx
    injection hx with hx
    rw [hx]; exact Int.le_refl _
  · have := h.at (i := 0) (j := j) (by omega) hx (List.getElem?_eq_getElem hj)
    omega
theorem inc_unique : ∀ {a b : List α}, a.Perm b → Inc rk a → Inc rk b → a = b
  | [], b, hp, _, _ => hp.nil_eq
  | x :: r, [], hp, _, _ => absurd hp.symm.nil_eq (by simp)
  | x :: r, y :: s, hp, h1, h2 => by
    obtain ⟨a1, a2⟩ := List.pairwise_cons.1 h1
    obtain ⟨b1, b2⟩ := List.pairwise_cons.1 h2
    by_cases e : x = y
    · subst e
      rw [inc_unique ((List.perm_cons x).1 hp) a2 b2]
    · have m1 : x ∈ s := (List.mem_cons.1 (hp.mem_iff.1 (List.mem_cons_self ..))).resolve_left e
      have m2 : y ∈ r := (List.mem_cons.1 (hp.mem_iff.2 (List.mem_cons_self ..))).resolve_left (fun h => e h.symm)
      have := a1 y m2
      have := b1 x m1
      omega
theorem get_mid {P R : List α} {x : α} {n : Nat} (h : P.length = n) : (P ++ x :: R)[n]? = some x := by
  subst h
  rw [List.getElem?_append_right (Nat.le_refl _), Nat.sub_self]; rfl
theorem set_mid {P R : List α} {x y : α} {n : Nat} (h : P.length = n) : (P ++ x :: R).set n y = P ++ y :: R := by
  subst h
  rw [List.set_append_right _ _ (Nat.le_refl _), Nat.sub_self]; rfl
/-- Two elements of a row change places. -/
theorem swap_mid {P Q R : List α} {x y : α} {i j : Nat} (hi : P.length = i) (hj : P.length + 1 + Q.length = j) : ((P ++ x :: (Q ++ y :: R)).set i y).set j x = P ++ y :: (Q ++ x :: R) := by
  rw [set_mid hi]
  have e : P ++ y :: (Q ++ y :: R) = (P ++ y :: Q) ++ y :: R := by simp
  rw [e, set_mid (by simp; omega)]
  simp
theorem swap_mid2 {P Q R : List α} {x y : α} {i j : Nat} (hi : P.length = i) (hj : P.length + 1 + Q.length = j) : ((P ++ x :: (Q ++ y :: R)).set j x).set i y = P ++ y :: (Q ++ x :: R) := by
  have e : P ++ x :: (Q ++ y :: R) = (P ++ x :: Q) ++ y :: R := by simp
  rw [e, set_mid (by simp; omega)]
  have e2 : (P ++ x :: Q) ++ x :: R = P ++ x :: (Q ++ x :: R) := by simp
  rw [e2, set_mid hi]
theorem get_mid2 {P Q R : List α} {x y : α} {j : Nat} (hj : P.length + 1 + Q.length = j) : (P ++ x :: (Q ++ y :: R))[j]? = some y := by
  have e : P ++ x :: (Q ++ y :: R) = (P ++ x :: Q) ++ y :: R := by simp
  rw [e, get_mid (by simp; omega)]
/-- A row is cut at a place. -/
theorem cut_at {l : List α} {n : Nat} (h : n ≤ l.length) : ∃ a b, l = a ++ b ∧ a.length = n := ⟨l.take n, l.drop n, (List.take_append_drop n l).symm, by simp; omega⟩
theorem cons_of {l : List α} (h : 0 < l.length) : ∃ x r, l = x :: r := by
  cases l with
  | nil => simp at h
  | cons x r => exact ⟨x, r, rfl⟩
theorem snoc_of {l : List α} (h : 0 < l.length) : ∃ r x, l = r ++ [x] := ⟨l.dropLast, l.getLast (by intro e; subst e; simp at h), (List.dropLast_concat_getLast _).symm⟩
/-- Both halves of a merge, put together. -/
theorem merge_inc {A1 A2 B1 B2 M1 M2 : List α} (hA : Inc rk (A1 ++ A2)) (hB : Inc rk (B1 ++ B2)) (h1 : Inc rk M1) (h2 : Inc rk M2) (p1 : M1.Perm (A1 ++ B1)) (p2 : M2.Perm (A2 ++ B2))
    (hBA : ∀ x ∈ B1, ∀ y ∈ A2, rk x < rk y) (hAB : ∀ x ∈ A1, ∀ y ∈ B2, rk x < rk y) : Inc rk (M1 ++ M2) ∧ (M1 ++ M2).Perm ((A1 ++ A2) ++ (B1 ++ B2)) := by
  refine ⟨h1.append h2 fun x hx y hy => ?_, ?_⟩
  · rcases List.mem_append.1 (p1.mem_iff.1 hx) with hx | hx <;> rcases List.mem_append.1 (p2.mem_iff.1 hy) with hy | hy
    · exact hA.cross x hx y hy
    · exact hAB x hx y hy
    · exact hBA x hx y hy
    · exact hB.cross x hx y hy
  · refine (p1.append p2).trans ?_
    rw [List.append_assoc, List.append_assoc]
    refine List.Perm.append_left _ ?_
    rw [← List.append_assoc, ← List.append_assoc]
    exact List.Perm.append_right _ List.perm_append_comm
end
end Go.Proofs.Ytkfjobanbnokoaa.Fw
