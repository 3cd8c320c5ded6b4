/- A law's arguments, opened: what a slice of whole numbers, of bytes, of slices of bytes reads as. -/
import Derived.Test.YtkfjobanbnokoaaZa
import Derived.ProofKit
import Derived.OpenShut
import Derived.ChangeOld
import Derived.SizedLaws
import Derived.Deep.Slices
set_option linter.unusedSimpArgs false
set_option linter.unusedVariables false
set_option maxRecDepth 100000
namespace Go.Proofs.Ytkfjobanbnokoaa.Bs
open Go.RowKit Go.ChangeShapes Go.WideShapes Go.Proofs.YtkfjobanbnokoaaW.PrintWords

section
variable {H : Type} {enc : TypeId × Value → H} {W : World} {base : Nat} {spare : Nat → Bool} {held : Bool}

theorem cell_ints {t e : TypeId} {k : IntKind} {fuel : Nat} {u : Value} {x : DataW H × List MemPlace} (ht : Try.prog.underlying t = some (.slice e)) (he : Try.prog.underlying e = some (.int k)) (hc : Try.prog.cellsOf e = 1)
    (h : DataW.trod enc Try.prog W base spare held fuel t [u] = some x) : ∃ A n c zs, u = .slice A n c ∧ n ≤ c ∧ c ≤ maxLen ∧ ReadsInt W k A n zs ∧ ∀ z ∈ zs, (Lit.int k z).wf = true := by
  rcases open_ints ht he hc h with ⟨hcs, _⟩ | ⟨a, l, c, zs, hcs, _, hl, hm, hz, _, hcell, hwz⟩
  · injection hcs with hcs
    exact ⟨none, 0, 0, [], hcs, Nat.le_refl _, Nat.zero_le _, ⟨rfl, by simp, fun h => absurd h (Nat.lt_irrefl 0)⟩, fun z hz => by simp at hz⟩
  · injection hcs with hcs
    have hle : l ≤ zs.length := by rw [hz]; split <;> omega
    refine ⟨some a, l, c, zs.take l, hcs, hl, hm, ⟨by simp; omega, by unfold maxLen at hm; omega, fun _ => ⟨a, rfl, fun j hj => ?_⟩⟩, fun z hz => hwz z (List.mem_of_mem_take hz)⟩
    rw [hcell j (by omega)]
    simp [List.getD_eq_getElem?_getD, hj]

/-- Whole numbers from 0 to 255 as bytes. -/
theorem bytes_of {A : Option Addr} {n : Nat} {zs : List Int} (h : ReadsInt W .u8 A n zs) (hw : ∀ z ∈ zs, (Lit.int .u8 z).wf = true) : ∃ l : List UInt8, l.length = n ∧ ReadsOf B 0 W A n l := by
  have hb : ∀ z ∈ zs, 0 ≤ z ∧ z < 256 := fun z hz => by
    have := bounds_u8 (hw z hz)
    omega
  refine ⟨zs.map fun z => UInt8.ofNat z.toNat, by rw [List.length_map]; exact h.1, by rw [List.length_map]; exact h.1, h.2.1, fun hn => ?_⟩
  obtain ⟨ad, e, hc⟩ := h.2.2 hn
  refine ⟨ad, e, fun j hj => ?_⟩
  have hjz : j < zs.length := by rw [h.1]; exact hj
  rw [hc j hj]
  have h1 := hb (zs.getD j 0) (by simp [List.getD_eq_getElem?_getD, List.getElem?_eq_getElem hjz])
  rw [B_of _ h1.1 h1.2]
  simp [List.getD_eq_getElem?_getD, List.getElem?_map, List.getElem?_eq_getElem hjz]

theorem cell_bytes {fuel : Nat} {u : Value} {x : DataW H × List MemPlace} (h : DataW.trod enc Try.prog W base spare held fuel 22 [u] = some x) : ∃ l, RB W u l := by
  obtain ⟨A, n, c, zs, rfl, hnc, _, hr, hw⟩ := cell_ints Try.underlying22 Try.underlying5 (by kernel_rfl) h
  obtain ⟨l, rfl, hl⟩ := bytes_of hr hw
  exact ⟨l, A, c, rfl, hnc, hl⟩

variable {v : Value} {d : DataW H} {ps : List MemPlace}

set_option maxRecDepth 100000 in
theorem op_ints {t e : TypeId} {k : IntKind} (ht : Try.prog.underlying t = some (.slice e)) (he : Try.prog.underlying e = some (.int k)) (hc : Try.prog.cellsOf e = 1)
    {r : Reach} {b2 : Nat} (hv : Value.okWide Try.prog W r b2 t v) (h : DataW.Trod enc Try.prog W base spare held t v d ps) :
    ∃ A c zs, v = .slice A zs.length c ∧ zs.length ≤ c ∧ ReadsInt W k A zs.length zs ∧ ∀ z ∈ zs, (Lit.int k z).wf = true := by
  obtain ⟨a, len, cap, rfl⟩ := okWide_slice ht hv
  obtain ⟨fuel, hf⟩ := h
  have hf' : DataW.trod enc Try.prog W base spare held fuel t [.slice a len cap] = some (d, ps) := by simpa [Value.cells] using hf
  obtain ⟨A, n, c, zs, e, hnc, _, hr, hw⟩ := cell_ints ht he hc hf'
  obtain rfl := hr.1
  exact ⟨A, c, zs, e, hnc, hr, hw⟩

theorem op_bytes {r : Reach} {b2 : Nat} (hv : Value.okWide Try.prog W r b2 22 v) (h : DataW.Trod enc Try.prog W base spare held 22 v d ps) :
    ∃ A c l, v = .slice A l.length c ∧ l.length ≤ c ∧ ReadsOf B 0 W A l.length l := by
  obtain ⟨A, c, zs, rfl, hnc, hr, hw⟩ := op_ints Try.underlying22 Try.underlying5 (by kernel_rfl) hv h
  obtain ⟨l, hl, hl2⟩ := bytes_of hr hw
  rw [← hl] at hl2 hnc ⊢
  exact ⟨A, c, l, rfl, hnc, hl2⟩

theorem op_rows {r : Reach} {b2 : Nat} (hv : Value.okWide Try.prog W r b2 42 v) (h : DataW.Trod enc Try.prog W base spare held 42 v d ps) :
   ∃ A c ls, v = .slice A ls.length c ∧ ls.length ≤ c ∧ RBS W A ls := by
 obtain ⟨a, len, cap, rfl⟩ := okWide_slice Try.underlying42 hv
 obtain ⟨fuel, hf⟩ := h
 have hf' : DataW.trod enc Try.prog W base spare held fuel 42 [.slice a len cap] = some (d, ps) := by simpa [Value.cells] using hf
 rcases Go.Deep.open_slice1 Try.underlying42 (by kernel_rfl) hf' with ⟨hcs, _⟩ | ⟨a', l, c, m, n, V, D, Pl, hcs, _, hl, hm, hmm, _, hx⟩
 · injection hcs with hcs
   injection hcs with e1 e2 e3
   subst e1 e2 e3
   exact ⟨none, 0, [], rfl, Nat.le_refl _, by simp, fun j hj => absurd hj (Nat.not_lt_zero j)⟩
 · injection hcs with hcs
   injection hcs with e1 e2 e3
   subst e1 e2 e3
   have hlm : len ≤ m := by rw [hmm]; split <;> omega
   obtain ⟨f, hfn⟩ := Go.Deep.choose_lt (α := List UInt8) (n := len) (p := fun i y => RB W (V i) y) (fun i hi => cell_bytes (hx i (by omega)).2)
   refine ⟨some a', cap, (List.range len).map f, by simp, by simpa using hl, by simp; unfold maxLen at hm; omega, fun j hj => ?_⟩
   have hj' : j < len := by simpa using hj
   exact ⟨a', V j, rfl, (hx j (by omega)).1, by simpa [List.getD_eq_getElem?_getD, hj'] using hfn j hj'⟩
end
end Go.Proofs.Ytkfjobanbnokoaa.Bs
