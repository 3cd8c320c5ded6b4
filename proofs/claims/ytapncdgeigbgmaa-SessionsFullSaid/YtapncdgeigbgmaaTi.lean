/- Package sessions: a whole table as lists: its sessions in the order of installing, and whose they are. -/
import Derived.Test.YtapncdgeigbgmaaTg
set_option linter.unusedSimpArgs false
set_option linter.unusedVariables false
set_option linter.unusedSectionVars false
set_option maxRecDepth 100000
namespace Go.Proofs.Ytapncdgeigbgmaa.Tb
open Go.RowKit Go.Proofs.YtapncdgeigbgmaaW.PrintWords Go.Proofs.Ytapncdgeigbgmaa.Bs Go.Proofs.Ytapncdgeigbgmaa.Gm Go.Proofs.Ytapncdgeigbgmaa.Sf

section
variable {κ ν μ : Type} [DecidableEq κ]
theorem getK_map (f : ν → μ) (l : List (κ × ν)) (x : κ) : getK (l.map fun p => (p.1, f p.2)) x = (getK l x).map f := by
  unfold getK
  rw [List.find?_map, Option.map_map, Option.map_map]
  rfl
theorem putK_map (f : ν → μ) (l : List (κ × ν)) (x : κ) (v : ν) : putK (l.map fun p => (p.1, f p.2)) x (f v) = (putK l x v).map fun p => (p.1, f p.2) := by
  unfold putK
  rw [getK_map, Option.isSome_map]
  split
  · rw [List.map_map, List.map_map]
    refine List.map_congr_left fun p _ => ?_
    simp only [Function.comp]
    split <;> rfl
  · simp
theorem delK_map (f : ν → μ) (l : List (κ × ν)) (x : κ) : delK (l.map fun p => (p.1, f p.2)) x = (delK l x).map fun p => (p.1, f p.2) := by
  unfold delK
  rw [List.filter_map]
  rfl
theorem getK_del_same {l : List (κ × ν)} {x : κ} : getK (delK l x) x = none := by
  rw [getK_none]
  intro p hp e
  have := (List.mem_filter.1 hp).2
  simp [e] at this
theorem getK_del_other {l : List (κ × ν)} {x y : κ} (h : y ≠ x) : getK (delK l x) y = getK l y := by
  unfold getK delK
  rw [List.find?_filter]
  congr 2
  funext p
  by_cases hp : p.1 = y
  · simp [hp, h]
  · simp [hp]
theorem getK_put_other {l : List (κ × ν)} {x y : κ} {v : ν} (h : y ≠ x) : getK (putK l x v) y = getK l y := by
  unfold putK
  split
  · unfold getK
    rw [List.find?_map]
    have e : ((fun p : κ × ν => decide (p.1 = y)) ∘ fun p => if p.1 = x then (x, v) else p) = fun p => decide (p.1 = y) := by
      funext q
      simp only [Function.comp]
      by_cases hq : q.1 = x
      · simp [hq, h]
      · simp [hq]
    rw [e, Option.map_map]
    cases hf : l.find? fun p => decide (p.1 = y) with
    | none => rfl
    | some p =>
      have h3 : p.1 = y := by simpa using List.find?_some hf
      simp [h3, h]
  · unfold getK
    rw [List.find?_append]
    cases hf : l.find? fun p => decide (p.1 = y) with
    | none => simp [Ne.symm h]
    | some p => simp
theorem perm_del {l : List (κ × ν)} {x : κ} {v : ν} (hn : (l.map (·.1)).Nodup) (h : getK l x = some v) : l.Perm ((x, v) :: delK l x) := by
  obtain ⟨j, hj⟩ := List.getElem?_of_mem (getK_mem h)
  rw [del_erase_of hn hj]
  exact perm_erase hj
theorem perm_put {l : List (κ × ν)} {x : κ} {v : ν} (hn : (l.map (·.1)).Nodup) : (putK l x v).Perm ((x, v) :: delK l x) := by
  have h := perm_del (putK_keys (v := v) hn) (getK_put_same (l := l) (x := x) (v := v))
  refine h.trans (List.Perm.of_eq ?_)
  congr 1
  unfold putK
  split
  · unfold delK
    rw [List.filter_map]
    have e : ((fun p : κ × ν => !decide (p.1 = x)) ∘ fun p => if p.1 = x then (x, v) else p) = fun p => !decide (p.1 = x) := by
      funext q
      simp only [Function.comp]
      by_cases hq : q.1 = x <;> simp [hq]
    rw [e]
    conv => rhs; rw [← List.map_id (l.filter fun p => !decide (p.1 = x))]
    refine List.map_congr_left fun q hq => ?_
    have := (List.mem_filter.1 hq).2
    simp only [Bool.not_eq_true', decide_eq_false_iff_not] at this
    rw [if_neg this]
    rfl
  · unfold delK
    rw [List.filter_append]
    simp
end

def ownL (L : List Ses) (k : Key) : List UInt32 := (L.filter fun s => decide (s.k = k)).map (·.lo)
structure Tab where
  bt : Nat
  bb : Nat
  bo : Nat
  L : List Ses
  O : Own
def restE (T : Tab) : List Ent := T.O.map rowO ++ T.L.map sesO
def tabE (T : Tab) (es : List Ent) : List Ent := tabB T.bt T.bb T.bo :: mapE MB T.bb (byL T.L) :: mapE MO T.bo (ownO T.O) :: (T.O.map rowO ++ (T.L.map sesO ++ es))
structure Tab.Ok (T : Tab) : Prop where
  nlo : (T.L.map (·.lo)).Nodup
  nk : (T.O.map (·.1)).Nodup
  own : ∀ k, (getK T.O k = none ∧ ownL T.L k = []) ∨ ∃ A c, ownL T.L k ≠ [] ∧ getK T.O k = some (.slice A (ownL T.L k).length c, ownL T.L k)
  two : ∀ k, (ownL T.L k).length ≤ 2
  room : T.L.length ≤ 32
theorem byL_length (L : List Ses) : (byL L).length = L.length := by simp [byL]
theorem byL_none {L : List Ses} {lo : UInt32} (h : lo ∉ L.map (·.lo)) : getK (byL L) lo = none := by
  rw [getK_none]
  intro p hp e
  obtain ⟨s, hs, rfl⟩ := List.mem_map.1 hp
  exact h (List.mem_map.2 ⟨s, hs, e⟩)
theorem byL_some {L : List Ses} (hn : (L.map (·.lo)).Nodup) {s : Ses} (hs : s ∈ L) : getK (byL L) s.lo = some s.b := getK_of (by unfold byL; rw [List.map_map]; exact hn) (List.mem_map.2 ⟨s, hs, rfl⟩)
theorem byL_put {L : List Ses} {s : Ses} (h : s.lo ∉ L.map (·.lo)) : putK (byL L) s.lo s.b = byL (L ++ [s]) := by
  unfold putK
  rw [byL_none h]
  simp [byL]
def outL (L : List Ses) (lo : UInt32) : List Ses := L.filter fun s => !decide (s.lo = lo)
theorem byL_del (L : List Ses) (lo : UInt32) : delK (byL L) lo = byL (outL L lo) := by
  unfold delK byL outL
  rw [List.filter_map]
  rfl
theorem ownO_get (O : Own) (k : Key) : getK (ownO O) k = (getK O k).map (·.1) := getK_map (fun q : Value × List UInt32 => q.1) O k
theorem ownO_put (O : Own) (k : Key) (v : Value) (xs : List UInt32) : putK (ownO O) k v = ownO (putK O k (v, xs)) := putK_map (fun q : Value × List UInt32 => q.1) O k (v, xs)
theorem ownO_del (O : Own) (k : Key) : delK (ownO O) k = ownO (delK O k) := delK_map (fun q : Value × List UInt32 => q.1) O k
theorem ownL_snoc (L : List Ses) (s : Ses) (k : Key) : ownL (L ++ [s]) k = ownL L k ++ (if s.k = k then [s.lo] else []) := by
  unfold ownL
  rw [List.filter_append, List.map_append]
  by_cases h : s.k = k <;> simp [h]
theorem ownL_out (L : List Ses) (lo : UInt32) (k : Key) : ownL (outL L lo) k = (ownL L k).filter fun x => !decide (x = lo) := by
  unfold ownL outL
  rw [List.filter_map, List.filter_filter, List.filter_filter]
  congr 1
  refine List.filter_congr fun s _ => ?_
  simp only [Function.comp, Bool.and_comm]
theorem ownL_mem {L : List Ses} {k : Key} {x : UInt32} : x ∈ ownL L k ↔ ∃ s ∈ L, s.k = k ∧ s.lo = x := by
  unfold ownL
  simp only [List.mem_map, List.mem_filter, decide_eq_true_eq]
  constructor
  · rintro ⟨s, ⟨h1, h2⟩, h3⟩; exact ⟨s, h1, h2, h3⟩
  · rintro ⟨s, h1, h2, h3⟩; exact ⟨s, ⟨h1, h2⟩, h3⟩
theorem lo_inj {L : List Ses} (hn : (L.map (·.lo)).Nodup) {s t : Ses} (hs : s ∈ L) (ht : t ∈ L) (h : s.lo = t.lo) : s = t := by
  induction L with
  | nil => cases hs
  | cons a r ih =>
    rw [List.map_cons, List.nodup_cons] at hn
    rcases List.mem_cons.1 hs with rfl | hs'
    · rcases List.mem_cons.1 ht with rfl | ht'
      · rfl
      · exact absurd (List.mem_map.2 ⟨t, ht', h.symm⟩) hn.1
    · rcases List.mem_cons.1 ht with rfl | ht'
      · exact absurd (List.mem_map.2 ⟨s, hs', h⟩) hn.1
      · exact ih hn.2 hs' ht'
theorem out_other {L : List Ses} (hn : (L.map (·.lo)).Nodup) {s : Ses} (hs : s ∈ L) {k : Key} (hk : k ≠ s.k) : ownL (outL L s.lo) k = ownL L k := by
  rw [ownL_out]
  refine List.filter_eq_self.2 fun x hx => ?_
  obtain ⟨t, ht, h1, h2⟩ := ownL_mem.1 hx
  simp only [Bool.not_eq_true', decide_eq_false_iff_not]
  intro e
  have := lo_inj hn ht hs (h2.trans e)
  exact hk (by rw [← this, h1])
theorem out_nodup {L : List Ses} (hn : (L.map (·.lo)).Nodup) (lo : UInt32) : ((outL L lo).map (·.lo)).Nodup := hn.sublist (List.filter_sublist.map _)
theorem out_not {L : List Ses} (lo : UInt32) : lo ∉ (outL L lo).map (·.lo) := by
  intro h
  obtain ⟨s, hs, e⟩ := List.mem_map.1 h
  have := (List.mem_filter.1 hs).2
  simp [e] at this
theorem out_perm {L : List Ses} (hn : (L.map (·.lo)).Nodup) {s : Ses} (hs : s ∈ L) : L.Perm (s :: outL L s.lo) := by
  have h := perm_del (l := L.map fun s => (s.lo, s)) (x := s.lo) (v := s) (by rw [List.map_map]; exact hn) (getK_of (by rw [List.map_map]; exact hn) (List.mem_map.2 ⟨s, hs, rfl⟩))
  have h2 := h.map (·.2)
  rw [List.map_map] at h2
  have e1 : ((fun p : UInt32 × Ses => p.2) ∘ fun s : Ses => (s.lo, s)) = id := rfl
  rw [e1, List.map_id] at h2
  refine h2.trans (List.Perm.of_eq ?_)
  rw [List.map_cons]
  congr 1
  unfold delK outL
  rw [List.filter_map, List.map_map, e1, List.map_id]
  rfl
theorem out_len {L : List Ses} (hn : (L.map (·.lo)).Nodup) {s : Ses} (hs : s ∈ L) : (outL L s.lo).length + 1 = L.length := by
  have := (out_perm hn hs).length_eq
  simp at this
  omega
end Go.Proofs.Ytapncdgeigbgmaa.Tb
