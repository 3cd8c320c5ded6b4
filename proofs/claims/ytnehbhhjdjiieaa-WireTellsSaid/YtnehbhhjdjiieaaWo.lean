/- A law's argument that is a message of any kind, opened. -/
import Derived.Test.YtnehbhhjdjiieaaDo
import Derived.Test.YtnehbhhjdjiieaaWm
set_option linter.unusedSimpArgs false
set_option linter.unusedVariables false
set_option maxRecDepth 100000
namespace Go.Proofs.Ytnehbhhjdjiieaa.Wm
open Go.RowKit Go.ChangeShapes Go.WideShapes Go.Proofs.YtnehbhhjdjiieaaW.PrintWords Go.Proofs.Ytnehbhhjdjiieaa.Bs Go.Proofs.Ytnehbhhjdjiieaa.Mv

section
variable {H : Type} {enc : TypeId × Value → H} {W : World} {base : Nat} {spare : Nat → Bool} {held : Bool} {fuel : Nat} {v : Value} {d : DataW H} {ps : List MemPlace}

theorem op_message {r : Reach} {b2 : Nat} (hv : Value.okWide Try.prog W r b2 87 v) (h : DataW.Trod enc Try.prog W base spare held 87 v d ps) :
    ∃ (kd : Int) (n1 : Nat) (L1 : List UInt8) (n2 m2 : Nat) (L2 : List UInt8) (n3 : Nat) (L3 : List UInt8) (x y : Nat) (A : Option Addr) (k : Nat) (l : List UInt8), v = .agg (WV kd (MV [n1] L1) (MV [n2, m2] L2) (MV [n3] L3) #[.int .u32 (x : Int), .int .u64 (y : Int), .slice A l.length k]) ∧
      n1 < 4294967296 ∧ L1.length = 140 ∧ n2 < 4294967296 ∧ m2 < 4294967296 ∧ L2.length = 80 ∧ n3 < 4294967296 ∧ L3.length = 56 ∧ x < 4294967296 ∧ y < 18446744073709551616 ∧ RB W (.slice A l.length k) l ∧ -9223372036854775808 ≤ kd ∧ kd ≤ 9223372036854775807 := by
  obtain ⟨cs, rfl, hsz⟩ := okWide_struct Try.underlying87 hv
  obtain ⟨fuel, hf⟩ := h
  have hf' : DataW.trod enc Try.prog W base spare held fuel 87 cs.toList = some (d, ps) := by simpa [Value.cells] using hf
  obtain ⟨xs, n, _, _, hcl, hxl, hg⟩ := DataW.trod_struct Try.underlying87 hf'
  rw [show Try.prog.cellsOf 87 = 284 by kernel_rfl] at hcl
  have hxl' : xs.length = 5 := hxl
  obtain ⟨y0, h0⟩ := fld hg 0 _ rfl 3 0 1 rfl rfl (by kernel_rfl) (by omega)
  obtain ⟨y1, h1⟩ := fld hg 1 _ rfl 50 1 141 rfl rfl (by kernel_rfl) (by omega)
  obtain ⟨y2, h2⟩ := fld hg 2 _ rfl 40 142 82 rfl rfl (by kernel_rfl) (by omega)
  obtain ⟨y3, h3⟩ := fld hg 3 _ rfl 26 224 57 rfl rfl (by kernel_rfl) (by omega)
  obtain ⟨y4, h4⟩ := fld hg 4 _ rfl 59 281 3 rfl rfl (by kernel_rfl) (by omega)
  obtain ⟨kd, e0, _, hw⟩ := DataW.trod_int Try.underlying3 h0
  have hkd := bounds_i64 hw
  obtain ⟨n1, L1, e1, hn1, hL1⟩ := cells_initial h1
  obtain ⟨n2, m2, L2, e2, hn2, hm2, hL2⟩ := cells_answer h2
  obtain ⟨n3, L3, e3, hn3, hL3⟩ := cells_cookie h3
  obtain ⟨x, y, A, k, l, e4, hx, hy, hb⟩ := cells_transport h4
  have hc := cut2 cs.toList 1 (141 + (82 + (57 + 3))) (by omega)
  rw [cut3, cut3, cut3, e0, e1, e2, e3, e4] at hc
  refine ⟨kd, n1, L1, n2, m2, L2, n3, L3, x, y, A, k, l, ?_, hn1, hL1, hn2, hm2, hL2, hn3, hL3, hx, hy, hb, by omega, by omega⟩
  have e : cs = WV kd (MV [n1] L1) (MV [n2, m2] L2) (MV [n3] L3) #[.int .u32 (x : Int), .int .u64 (y : Int), .slice A l.length k] := by
    apply Array.toList_inj.1
    rw [hc]
    unfold WV
    simp only [Array.toList_append, List.append_assoc]
  rw [e]
end
end Go.Proofs.Ytnehbhhjdjiieaa.Wm
