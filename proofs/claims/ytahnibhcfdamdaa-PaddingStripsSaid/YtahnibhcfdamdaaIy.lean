/- Heads of family 6: their cells, and compared with themselves. -/
import Derived.Test.YtahnibhcfdamdaaIs
import Derived.Test.YtahnibhcfdamdaaMz
set_option linter.unusedSimpArgs false
set_option linter.unusedVariables false
set_option maxRecDepth 100000
namespace Go.Proofs.Ytahnibhcfdamdaa.Is
open Go.RowKit Go.Proofs.YtahnibhcfdamdaaW.PrintWords Go.Proofs.Ytahnibhcfdamdaa.Bs Go.Proofs.Ytahnibhcfdamdaa.Av Go.Proofs.Ytahnibhcfdamdaa.Ad Go.Proofs.Ytahnibhcfdamdaa.Hd Go.Proofs.Ytahnibhcfdamdaa.Mm Go.Proofs.Ytahnibhcfdamdaa.Le Go.Proofs.Ytahnibhcfdamdaa.Ip Go.Proofs.Ytahnibhcfdamdaa.En Go.Proofs.Ytahnibhcfdamdaa.Co

theorem fits_ns6 (l : List UInt8) : Fits (ns6 l ++ [6, 6]) := by
  have h0 := gb_lt l 0
  have h1 := gb_lt l 1
  have h2 := gb_lt l 2
  have h3 := gb_lt l 3
  have h4 := gb_lt l 4
  have h5 := gb_lt l 5
  have h6 := gb_lt l 6
  have h7 := gb_lt l 7
  intro n hn
  unfold ns6 tot6 at hn
  simp only [List.cons_append, List.nil_append, List.mem_cons, List.not_mem_nil, or_false] at hn
  rcases hn with rfl | rfl | rfl | rfl | rfl | rfl | rfl | rfl | rfl | rfl | rfl <;> omega
theorem fits_zero : Fits ([0, 0, 0, 0, 0, 0, 0, 0, 0] ++ [0, 0]) := by
  intro n hn
  simp only [List.cons_append, List.nil_append, List.mem_cons, List.not_mem_nil, or_false, or_self] at hn
  subst hn; decide
theorem cells_head6 (l : List UInt8) : Cells 31 (head6 l) := by
  unfold head6
  by_cases h : bad6 l = 0
  · rw [if_pos h]
    have hl : 40 ≤ l.length := by rcases bad6_cases l with h | h | h | h <;> omega
    exact cellsH _ _ _ _ _ rfl (by simp; omega) (by simp; omega)
  · rw [if_neg h]; exact cellsZH
theorem eql_head6 (l : List UInt8) : EqlOf 31 (head6 l) (head6 l) true := by
  unfold head6
  by_cases h : bad6 l = 0
  · rw [if_pos h]
    have hl : 40 ≤ l.length := by rcases bad6_cases l with h | h | h | h <;> omega
    exact eql_head_self _ _ _ _ _ rfl (by simp; omega) (by simp; omega) (fits_ns6 l)
  · rw [if_neg h]; exact eql_head_self _ _ _ _ _ rfl rfl rfl fits_zero
end Go.Proofs.Ytahnibhcfdamdaa.Is
