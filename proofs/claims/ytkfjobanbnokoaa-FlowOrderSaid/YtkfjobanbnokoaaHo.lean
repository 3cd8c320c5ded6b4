/- A law's argument that is a head, opened. -/
import Derived.Test.YtkfjobanbnokoaaMo
import Derived.Test.YtkfjobanbnokoaaZb
set_option linter.unusedSimpArgs false
set_option linter.unusedVariables false
set_option maxRecDepth 100000
namespace Go.Proofs.Ytkfjobanbnokoaa.Hd
open Go.RowKit Go.ChangeShapes Go.WideShapes Go.Proofs.YtkfjobanbnokoaaW.PrintWords Go.Proofs.Ytkfjobanbnokoaa.Bs Go.Proofs.Ytkfjobanbnokoaa.Av Go.Proofs.Ytkfjobanbnokoaa.Mv

section
variable {H : Type} {enc : TypeId × Value → H} {W : World} {base : Nat} {spare : Nat → Bool} {held : Bool} {fuel : Nat} {v : Value} {d : DataW H} {ps : List MemPlace}
theorem int_cell {cs : List Value} {x : DataW H × List MemPlace} (h : DataW.trod enc Try.prog W base spare held fuel 3 cs = some x) : ∃ n : Int, cs = [.int .i64 n] ∧ -9223372036854775808 ≤ n ∧ n ≤ 9223372036854775807 := by
  obtain ⟨z, e, _, hw⟩ := DataW.trod_int Try.underlying3 h
  have := bounds_i64 hw
  exact ⟨z, e, by omega, by omega⟩
theorem cells_addr {cs : List Value} {x : DataW H × List MemPlace} (h : DataW.trod enc Try.prog W base spare held fuel 26 cs = some x) :
    ∃ (n : Int) (l : List UInt8), cs = (AV [n] l).toList ∧ (-9223372036854775808 ≤ n ∧ n ≤ 9223372036854775807) ∧ l.length = 16 := by
  obtain ⟨xs, n, _, _, hcl, hxl, hf⟩ := DataW.trod_struct Try.underlying26 h
  rw [show Try.prog.cellsOf 26 = 17 by kernel_rfl] at hcl
  have hxl' : xs.length = 2 := hxl
  obtain ⟨y0, h0⟩ := fld hf 0 _ rfl 3 0 1 rfl rfl (by kernel_rfl) (by omega)
  obtain ⟨y1, h1⟩ := fld hf 1 _ rfl 24 1 16 rfl rfl (by kernel_rfl) (by omega)
  obtain ⟨r, e0, hr0, hr1⟩ := int_cell h0
  obtain ⟨l1, n1, e1⟩ := arr_bytes Try.underlying24 (by kernel_rfl) h1
  refine ⟨r, l1, ?_, ⟨hr0, hr1⟩, n1⟩
  rw [AV_list, ← e1]
  have hc := cut2 cs 1 16 (by omega)
  rw [e0] at hc
  exact hc
theorem cells_head {cs : List Value} {x : DataW H × List MemPlace} (h : DataW.trod enc Try.prog W base spare held fuel 67 cs = some x) :
    ∃ (n0 n1 n2 n3 n4 n5 n6 n7 n8 p : Int) (u : List UInt8) (q : Int) (v : List UInt8), cs = (HV [n0, n1, n2, n3, n4, n5, n6, n7, n8] p u q v).toList ∧ Fits ([n0, n1, n2, n3, n4, n5, n6, n7, n8] ++ [p, q]) ∧ u.length = 16 ∧ v.length = 16 := by
  obtain ⟨xs, n, _, _, hcl, hxl, hf⟩ := DataW.trod_struct Try.underlying67 h
  rw [show Try.prog.cellsOf 67 = 43 by kernel_rfl] at hcl
  have hxl' : xs.length = 11 := hxl
  obtain ⟨y0, h0⟩ := fld hf 0 _ rfl 3 0 1 rfl rfl (by kernel_rfl) (by omega)
  obtain ⟨y1, h1⟩ := fld hf 1 _ rfl 3 1 1 rfl rfl (by kernel_rfl) (by omega)
  obtain ⟨y2, h2⟩ := fld hf 2 _ rfl 3 2 1 rfl rfl (by kernel_rfl) (by omega)
  obtain ⟨y3, h3⟩ := fld hf 3 _ rfl 3 3 1 rfl rfl (by kernel_rfl) (by omega)
  obtain ⟨y4, h4⟩ := fld hf 4 _ rfl 3 4 1 rfl rfl (by kernel_rfl) (by omega)
  obtain ⟨y5, h5⟩ := fld hf 5 _ rfl 3 5 1 rfl rfl (by kernel_rfl) (by omega)
  obtain ⟨y6, h6⟩ := fld hf 6 _ rfl 3 6 1 rfl rfl (by kernel_rfl) (by omega)
  obtain ⟨y7, h7⟩ := fld hf 7 _ rfl 3 7 1 rfl rfl (by kernel_rfl) (by omega)
  obtain ⟨y8, h8⟩ := fld hf 8 _ rfl 3 8 1 rfl rfl (by kernel_rfl) (by omega)
  obtain ⟨y9, h9⟩ := fld hf 9 _ rfl 26 9 17 rfl rfl (by kernel_rfl) (by omega)
  obtain ⟨ya, ha⟩ := fld hf 10 _ rfl 26 26 17 rfl rfl (by kernel_rfl) (by omega)
  obtain ⟨n0, e0, b0⟩ := int_cell h0
  obtain ⟨n1, e1, b1⟩ := int_cell h1
  obtain ⟨n2, e2, b2⟩ := int_cell h2
  obtain ⟨n3, e3, b3⟩ := int_cell h3
  obtain ⟨n4, e4, b4⟩ := int_cell h4
  obtain ⟨n5, e5, b5⟩ := int_cell h5
  obtain ⟨n6, e6, b6⟩ := int_cell h6
  obtain ⟨n7, e7, b7⟩ := int_cell h7
  obtain ⟨n8, e8, b8⟩ := int_cell h8
  obtain ⟨p, u, e9, b9, hu⟩ := cells_addr h9
  obtain ⟨q, v, ea, ba, hv⟩ := cells_addr ha
  refine ⟨n0, n1, n2, n3, n4, n5, n6, n7, n8, p, u, q, v, ?_, ?_, hu, hv⟩
  · have hc := cut2 cs 1 (1 + (1 + (1 + (1 + (1 + (1 + (1 + (1 + (17 + 17))))))))) (by omega)
    rw [cut3, cut3, cut3, cut3, cut3, cut3, cut3, cut3, cut3, e0, e1, e2, e3, e4, e5, e6, e7, e8, e9, ea] at hc
    rw [HV_list]
    exact hc
  · intro n hn
    simp only [List.cons_append, List.nil_append, List.mem_cons, List.not_mem_nil, or_false] at hn
    rcases hn with rfl | rfl | rfl | rfl | rfl | rfl | rfl | rfl | rfl | rfl | rfl <;> assumption
theorem op_head {r : Reach} {b2 : Nat} (hv : Value.okWide Try.prog W r b2 67 v) (h : DataW.Trod enc Try.prog W base spare held 67 v d ps) :
    ∃ (n0 n1 n2 n3 n4 n5 n6 n7 n8 p : Int) (x : List UInt8) (q : Int) (y : List UInt8), v = .agg (HV [n0, n1, n2, n3, n4, n5, n6, n7, n8] p x q y) ∧ Fits ([n0, n1, n2, n3, n4, n5, n6, n7, n8] ++ [p, q]) ∧ x.length = 16 ∧ y.length = 16 := by
  obtain ⟨cs, rfl, hsz⟩ := okWide_struct Try.underlying67 hv
  obtain ⟨fuel, hf⟩ := h
  have hf' : DataW.trod enc Try.prog W base spare held fuel 67 cs.toList = some (d, ps) := by simpa [Value.cells] using hf
  obtain ⟨n0, n1, n2, n3, n4, n5, n6, n7, n8, p, x, q, y, e, hb, hx, hy⟩ := cells_head hf'
  exact ⟨n0, n1, n2, n3, n4, n5, n6, n7, n8, p, x, q, y, by rw [Array.toList_inj.1 e], hb, hx, hy⟩
end
end Go.Proofs.Ytkfjobanbnokoaa.Hd
