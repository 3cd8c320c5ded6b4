/- Chapter 27: deeds in memory, and opened; what all of them make. -/
import Derived.Test.YtapncdgeigbgmaaUp
import Derived.Test.YtapncdgeigbgmaaUh
import Derived.Test.YtapncdgeigbgmaaTh
set_option linter.unusedSimpArgs false
set_option linter.unusedVariables false
set_option linter.unusedSectionVars false
set_option maxRecDepth 100000
namespace Go.Proofs.Ytapncdgeigbgmaa.Tb
open Go.RowKit Go.Proofs.YtapncdgeigbgmaaW.PrintWords Go.Proofs.Ytapncdgeigbgmaa.Bs Go.Proofs.Ytapncdgeigbgmaa.Gm Go.Proofs.Ytapncdgeigbgmaa.Sf

theorem deedC_one (d : Int × Key) : (deedC d).all (·.oneCell') = true := (cellsDeed d).2
def RDeed : RK (Int × Key) := ⟨60, 67, 33, 40, deedC⟩
theorem LDeed : RDeed.Law := RK.law_of Try.underlying60 (by kernel_rfl) (by decide) (by decide) deedC_size deedC_one
theorem info_deed : (Try.prog.info? 67).map (·.size) = some 33 := by kernel_rfl
def ZDeed : Array Value := #[.int .i64 0] ++ ZK
theorem zeroDeed : ZeroOf 67 ZDeed := ⟨fun W => zero_of (by kernel_rfl) W, by kernel_rfl, by kernel_rfl⟩
/-- What deeds make of nothing. -/
def endR (D : List (Int × Key)) : List (Key × Int) × Int := D.foldl stepR ([], 0)
theorem endR_snoc {D : List (Int × Key)} {i : Nat} {d : Int × Key} (h : D[i]? = some d) : endR (D.take (i + 1)) = stepR (endR (D.take i)) d := by
  unfold endR
  rw [take_snoc h, List.foldl_append]
  rfl
theorem OkR.nil : OkR ([], 0) 0 := ⟨List.Pairwise.nil, fun p hp => absurd hp List.not_mem_nil, Int.le_refl _, Int.le_refl _, Nat.zero_le _⟩
theorem OkR.all (D : List (Int × Key)) : ∀ i, i ≤ D.length → OkR (endR (D.take i)) i
  | 0, _ => OkR.nil
  | i + 1, h => by
    have h1 : D[i]? = some D[i] := List.getElem?_eq_getElem (by omega)
    rw [endR_snoc h1]
    exact (OkR.all D i (by omega)).step _
theorem deed_at {w0 : World} {A : Option Addr} {n c : Nat} {D : List (Int × Key)} (h : RW RDeed w0 (.slice A n c) D) {i : Nat} {d : Int × Key} (hd : D[i]? = some d) : ∃ ad, A = some ad ∧ ∀ W, Below w0.heap.size w0 W → RangeA W (ad.add (i * 33)) (deedC d) := by
  obtain ⟨ad, rfl, r⟩ := h.elem LDeed hd
  exact ⟨ad, rfl, fun W hW => r.below hW⟩
section
open Go.ChangeShapes Go.WideShapes
variable {H : Type} {enc : TypeId × Value → H} {W : World} {base : Nat} {spare : Nat → Bool} {held : Bool} {fuel : Nat} {v : Value} {d : DataW H} {ps : List MemPlace}
/-- The cells of a deed. -/
theorem cells_deed {cs : List Value} {x : DataW H × List MemPlace} (h : DataW.trod enc Try.prog W base spare held fuel 67 cs = some x) : ∃ d : Int × Key, cs = (deedC d).toList := by
  obtain ⟨xs, n, _, _, hcl, hxl, hf⟩ := DataW.trod_struct Try.underlying67 h
  rw [show Try.prog.cellsOf 67 = 33 by kernel_rfl] at hcl
  have hxl' : xs.length = 2 := hxl
  have h0 := hf 0 _ rfl
  have h1 := hf 1 _ rfl
  rw [List.getElem?_eq_getElem (by omega)] at h0 h1
  rw [show Try.prog.cellsOf _ = 1 by kernel_rfl] at h0
  rw [show Try.prog.cellsOf _ = 32 by kernel_rfl] at h1
  obtain ⟨z, e0, _, _⟩ := DataW.trod_int Try.underlying3 h0
  obtain ⟨k, e1⟩ := cells_key_of h1
  refine ⟨(z, k), ?_⟩
  have e : cs = (cs.drop 0).take 1 ++ (cs.drop 1).take 32 := by
    rw [List.drop_zero, List.take_of_length_le (l := cs.drop 1) (by simp; omega), List.take_append_drop]
  rw [e]
  change (cs.drop 0).take 1 = _ at e0
  change (cs.drop 1).take 32 = _ at e1
  rw [e0, e1]
  simp [deedC]
theorem op_deeds27 {r : Reach} {b2 : Nat} (hv : Value.okWide Try.prog W r b2 60 v) (h : DataW.Trod enc Try.prog W base spare held 60 v d ps) :
    ∃ A c l, v = .slice A l.length c ∧ RW RDeed W (.slice A l.length c) l := by
  obtain ⟨a, len, cap, rfl⟩ := okWide_slice Try.underlying60 hv
  obtain ⟨fuel, hf⟩ := h
  have hf' : DataW.trod enc Try.prog W base spare held fuel 60 [.slice a len cap] = some (d, ps) := by simpa [Value.cells] using hf
  rcases Go.Deep.open_slice Try.underlying60 hf' with ⟨hcs, _⟩ | ⟨a', l, c, m, n, D, Pl, hcs, _, hl, hm, hmm, _, hx⟩
  · injection hcs with hcs
    injection hcs with e1 e2 e3
    subst e1 e2 e3
    exact ⟨none, 0, [], rfl, RW.nil _ _⟩
  · injection hcs with hcs
    injection hcs with e1 e2 e3
    subst e1 e2 e3
    have hlm : len ≤ m := by rw [hmm]; split <;> omega
    rw [show Try.prog.cellsOf 67 = 33 by kernel_rfl] at hx
    haveI : Inhabited (Int × Key) := ⟨(0, kB)⟩
    obtain ⟨f, hfn⟩ := Go.Deep.choose_lt (α := Int × Key) (n := len) (p := fun i p => W.cells? base (a'.add (i * 33)) 33 = some (deedC p).toList) (fun i hi => by
      obtain ⟨cs', h1, h2⟩ := hx i (by omega)
      obtain ⟨p, rfl⟩ := cells_deed h2
      exact ⟨p, h1⟩)
    have hlen : ((List.range len).map f).length = len := by simp
    refine ⟨some a', cap, (List.range len).map f, by rw [hlen], RW.of LDeed (by rw [hlen]; exact hl) (by rw [hlen]; unfold maxLen at hm; omega) (fun i x hi => ?_)⟩
    have hi' : i < len := by
      have := (List.getElem?_eq_some_iff.1 hi).1
      rwa [hlen] at this
    have hxi : f i = x := by
      rw [List.getElem?_map, List.getElem?_range hi'] at hi
      simpa using hi
    subst hxi
    refine ⟨a', rfl, fun j v hj => ?_⟩
    obtain ⟨_, _, hc⟩ := World.cells?_some (hfn i hi')
    have hj4 : j < 33 := by
      have := (Array.getElem?_eq_some_iff.1 hj).1
      rwa [show (RDeed.enc (f i)).size = 33 from deedC_size _] at this
    have := hc j hj4
    show W.cell? ((a'.add (i * 33)).add j) = some v
    rw [this]
    have hj' : (deedC (f i))[j]? = some v := hj
    simpa using hj'
end
end Go.Proofs.Ytapncdgeigbgmaa.Tb
