/- A law's argument that is a message which carries a packet, opened. -/
import Derived.Test.YtnehbhhjdjiieaaMo
set_option linter.unusedSimpArgs false
set_option linter.unusedVariables false
set_option maxRecDepth 100000
namespace Go.Proofs.Ytnehbhhjdjiieaa.Mv
open Go.RowKit Go.ChangeShapes Go.WideShapes Go.Proofs.YtnehbhhjdjiieaaW.PrintWords Go.Proofs.Ytnehbhhjdjiieaa.Bs

section
variable {H : Type} {enc : TypeId × Value → H} {W : World} {base : Nat} {spare : Nat → Bool} {held : Bool} {fuel : Nat} {v : Value} {d : DataW H} {ps : List MemPlace}

theorem big_cell {cs : List Value} {x : DataW H × List MemPlace} (h : DataW.trod enc Try.prog W base spare held fuel 57 cs = some x) : ∃ n : Nat, cs = [.int .u64 (n : Int)] ∧ n < 18446744073709551616 := by
  obtain ⟨z, e, _, hw⟩ := DataW.trod_int Try.underlying57 h
  have := bounds_u64 hw
  exact ⟨z.toNat, by rw [e, Int.toNat_of_nonneg (by omega)], by omega⟩
theorem one_cell {cs : List Value} {a : Nat} (h : a < cs.length) : (cs.drop a).take 1 = [cs[a]] := by
  rw [List.drop_eq_getElem_cons h]; rfl
/-- The cells of a message that carries a packet. -/
theorem cells_transport {cs : List Value} {x : DataW H × List MemPlace} (h : DataW.trod enc Try.prog W base spare held fuel 59 cs = some x) :
    ∃ (r c : Nat) (A : Option Addr) (k : Nat) (l : List UInt8), cs = [.int .u32 (r : Int), .int .u64 (c : Int), .slice A l.length k] ∧ r < 4294967296 ∧ c < 18446744073709551616 ∧ RB W (.slice A l.length k) l := by
  obtain ⟨xs, n, _, _, hcl, hxl, hf⟩ := DataW.trod_struct Try.underlying59 h
  rw [show Try.prog.cellsOf 59 = 3 by kernel_rfl] at hcl
  have hxl' : xs.length = 3 := hxl
  obtain ⟨y0, h0⟩ := fld hf 0 _ rfl 22 0 1 rfl rfl (by kernel_rfl) (by omega)
  obtain ⟨y1, h1⟩ := fld hf 1 _ rfl 57 1 1 rfl rfl (by kernel_rfl) (by omega)
  obtain ⟨y2, h2⟩ := fld hf 2 _ rfl 27 2 1 rfl rfl (by kernel_rfl) (by omega)
  obtain ⟨r, e0, hr⟩ := num_cell h0
  obtain ⟨c, e1, hc⟩ := big_cell h1
  have e2 := one_cell (cs := cs) (a := 2) (by omega)
  rw [e2] at h2
  obtain ⟨l, hl⟩ := cell_bytes h2
  obtain ⟨A, k, e3, hk, hrd⟩ := hl
  refine ⟨r, c, A, k, l, ?_, hr, hc, ⟨A, k, rfl, hk, hrd⟩⟩
  have hc3 := cut2 cs 1 (1 + 1) (by omega)
  rw [cut3, e0, e1, e2, e3] at hc3
  exact hc3
theorem op_transport {r : Reach} {b2 : Nat} (hv : Value.okWide Try.prog W r b2 59 v) (h : DataW.Trod enc Try.prog W base spare held 59 v d ps) :
    ∃ (n c : Nat) (A : Option Addr) (k : Nat) (l : List UInt8), v = .agg #[.int .u32 (n : Int), .int .u64 (c : Int), .slice A l.length k] ∧ n < 4294967296 ∧ c < 18446744073709551616 ∧ RB W (.slice A l.length k) l := by
  obtain ⟨cs, rfl, hsz⟩ := okWide_struct Try.underlying59 hv
  obtain ⟨fuel, hf⟩ := h
  have hf' : DataW.trod enc Try.prog W base spare held fuel 59 cs.toList = some (d, ps) := by simpa [Value.cells] using hf
  obtain ⟨n, c, A, k, l, e, hn, hc, hb⟩ := cells_transport hf'
  have e2 : cs = #[.int .u32 (n : Int), .int .u64 (c : Int), .slice A l.length k] := by
    apply Array.toList_inj.1
    exact e
  exact ⟨n, c, A, k, l, by rw [e2], hn, hc, hb⟩
end
end Go.Proofs.Ytnehbhhjdjiieaa.Mv
