/- A law's arguments that are messages, opened: numbers, then bytes. -/
import Derived.Test.YtkfjobanbnokoaaZa
import Derived.Test.YtkfjobanbnokoaaOp
set_option linter.unusedSimpArgs false
set_option linter.unusedVariables false
set_option maxRecDepth 100000
namespace Go.Proofs.Ytkfjobanbnokoaa.Mv
open Go.RowKit Go.ChangeShapes Go.WideShapes Go.Proofs.YtkfjobanbnokoaaW.PrintWords Go.Proofs.Ytkfjobanbnokoaa.Bs

section
variable {H : Type} {enc : TypeId × Value → H} {W : World} {base : Nat} {spare : Nat → Bool} {held : Bool} {fuel : Nat} {v : Value} {d : DataW H} {ps : List MemPlace}

/-- The cells of an array of bytes. -/
theorem arr_bytes {t : TypeId} {n : Nat} {cs : List Value} {x : DataW H × List MemPlace} (ht : Try.prog.underlying t = some (.array n 5)) (hc : Try.prog.cellsOf t = n) (h : DataW.trod enc Try.prog W base spare held fuel t cs = some x) : ∃ l : List UInt8, l.length = n ∧ cs = encs B l := by
  obtain ⟨xs, m, _, _, hcl, hxl, hi⟩ := DataW.trod_array ht h
  rw [hc] at hcl
  have hz : ∀ i, i < n → ∃ z : Int, cs[i]? = some (.int .u8 z) ∧ 0 ≤ z ∧ z < 256 := by
    intro i hin
    have h1 := hi i hin
    rw [show Try.prog.cellsOf 5 = 1 by kernel_rfl, Nat.mul_one, List.getElem?_eq_getElem (by omega)] at h1
    have h2 : (cs.drop i).take 1 = [cs[i]] := by
      rw [List.drop_eq_getElem_cons (by omega)]; rfl
    rw [h2] at h1
    obtain ⟨z, e, _, hw⟩ := DataW.trod_int Try.underlying5 h1
    injection e with e _
    have := bounds_u8 hw
    exact ⟨z, by rw [List.getElem?_eq_getElem (by omega), e], by omega, by omega⟩
  refine ⟨cs.map (fun v => match v with | .int _ z => UInt8.ofNat z.toNat | _ => 0), by rw [List.length_map]; exact hcl, ?_⟩
  apply List.ext_getElem?
  intro i
  by_cases hin : i < n
  · obtain ⟨z, e, h0, h1⟩ := hz i hin
    rw [encs, List.map_map, List.getElem?_map, e]
    simp only [Option.map_some, Function.comp]
    rw [B_of z h0 h1]
  · rw [List.getElem?_eq_none (by omega), List.getElem?_eq_none (by rw [encs_length, List.length_map]; omega)]
theorem num_cell {cs : List Value} {x : DataW H × List MemPlace} (h : DataW.trod enc Try.prog W base spare held fuel 128 cs = some x) : ∃ n : Nat, cs = [.int .u32 (n : Int)] ∧ n < 4294967296 := by
  obtain ⟨z, e, _, hw⟩ := DataW.trod_int Try.underlying128 h
  have := bounds_u32 hw
  exact ⟨z.toNat, by rw [e, Int.toNat_of_nonneg (by omega)], by omega⟩
theorem fld {fs : Array Field} {n : Nat} {cs : List Value} {xs : List (DataW H × List MemPlace)} (hf : ∀ (i : Nat) (f : Field), fs[i]? = some f → DataW.trod enc Try.prog W base spare held n f.type ((cs.drop f.offset).take (Try.prog.cellsOf f.type)) = xs[i]?)
    (i : Nat) (f : Field) (hi : fs[i]? = some f) (t : TypeId) (o s : Nat) (ht : f.type = t) (ho : f.offset = o) (hs : Try.prog.cellsOf t = s) (hx : i < xs.length) : ∃ y, DataW.trod enc Try.prog W base spare held n t ((cs.drop o).take s) = some y := by
  subst ht ho hs
  exact ⟨_, (hf i f hi).trans (List.getElem?_eq_getElem hx)⟩
theorem cut2 (cs : List Value) (a b : Nat) (h : cs.length = a + b) : cs = (cs.drop 0).take a ++ (cs.drop a).take b := by
  rw [List.drop_zero, List.take_of_length_le (l := cs.drop a) (by simp; omega), List.take_append_drop]
theorem cut3 (cs : List Value) (a b n : Nat) : (cs.drop a).take (b + n) = (cs.drop a).take b ++ (cs.drop (a + b)).take n := by
  rw [List.take_add, List.drop_drop]

end
end Go.Proofs.Ytkfjobanbnokoaa.Mv
