/- A law's argument that is a key, opened. -/
import Derived.Test.YtapncdgeigbgmaaTa
import Derived.Test.YtapncdgeigbgmaaOp
set_option linter.unusedSimpArgs false
set_option linter.unusedVariables false
set_option maxRecDepth 100000
namespace Go.Proofs.Ytapncdgeigbgmaa.Tb
open Go.RowKit Go.ChangeShapes Go.WideShapes Go.Proofs.YtapncdgeigbgmaaW.PrintWords Go.Proofs.Ytapncdgeigbgmaa.Bs

section
variable {H : Type} {enc : TypeId × Value → H} {W : World} {base : Nat} {spare : Nat → Bool} {held : Bool} {fuel : Nat} {v : Value} {d : DataW H} {ps : List MemPlace}
theorem u32_of {z : Int} (h : 0 ≤ z ∧ z ≤ 4294967295) : ∃ x : UInt32, z = (x.toNat : Int) := ⟨UInt32.ofNat z.toNat, by rw [UInt32.toNat_ofNat']; omega⟩
theorem u8_val (z : Int) (h0 : 0 ≤ z) (h1 : z < 256) : Value.int .u8 ((UInt8.ofNat z.toNat).toNat : Int) = .int .u8 z := by
  congr 1
  rw [UInt8.toNat_ofNat']
  omega
/-- The cells of a key. -/
theorem cells_key_of {cs : List Value} {x : DataW H × List MemPlace} (h : DataW.trod enc Try.prog W base spare held fuel 29 cs = some x) : ∃ k : Key, cs = (keyC k).toList := by
  obtain ⟨xs, m, _, _, hcl, hxl, hi⟩ := DataW.trod_array Try.underlying29 h
  rw [show Try.prog.cellsOf 29 = 32 by kernel_rfl] at hcl
  have hz : ∀ i, i < 32 → ∃ z : Int, cs[i]? = some (.int .u8 z) ∧ 0 ≤ z ∧ z < 256 := by
    intro i hin
    have h1 := hi i hin
    rw [show Try.prog.cellsOf 5 = 1 by kernel_rfl, Nat.mul_one, List.getElem?_eq_getElem (by omega)] at h1
    have h2 : (cs.drop i).take 1 = [cs[i]] := by
      rw [List.drop_eq_getElem_cons (by omega)]; rfl
    rw [h2] at h1
    obtain ⟨z, e, _, hw⟩ := DataW.trod_int Try.underlying5 h1
    injection e with e _
    have := bounds_u8 hw
    exact ⟨z, by rw [List.getElem?_eq_getElem (by omega), e], by omega, by omega⟩
  refine ⟨⟨(cs.map (fun v => match v with | .int _ z => UInt8.ofNat z.toNat | _ => 0)).toArray, by simpa using hcl⟩, ?_⟩
  apply List.ext_getElem?
  intro i
  by_cases hin : i < 32
  · obtain ⟨z, e, h0, h1⟩ := hz i hin
    simp only [keyC, List.map_toArray, List.map_map, List.getElem?_map, e, Option.map_some, Function.comp]
    rw [u8_val z h0 h1]
  · rw [List.getElem?_eq_none (by omega), List.getElem?_eq_none (by simp [keyC]; omega)]
theorem op_key {r : Reach} {b2 : Nat} (hv : Value.okWide Try.prog W r b2 29 v) (h : DataW.Trod enc Try.prog W base spare held 29 v d ps) : ∃ k : Key, v = .agg (keyC k) := by
  obtain ⟨fuel, hf⟩ := h
  cases v with
  | agg cs =>
    have hf' : DataW.trod enc Try.prog W base spare held fuel 29 cs.toList = some (d, ps) := by simpa [Value.cells] using hf
    obtain ⟨k, e⟩ := cells_key_of hf'
    exact ⟨k, by rw [Array.toList_inj.1 e]⟩
  | _ =>
    obtain ⟨k, e⟩ := cells_key_of (cs := #[_].toList) (x := (d, ps)) (by simpa [Value.cells] using hf)
    have := congrArg List.length e
    simp [keyC_size] at this
end
end Go.Proofs.Ytapncdgeigbgmaa.Tb
