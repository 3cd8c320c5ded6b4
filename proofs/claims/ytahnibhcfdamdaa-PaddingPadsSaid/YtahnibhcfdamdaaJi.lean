/- The laws of layer 19: what they run, and that it says true. -/
import Derived.Test.YtahnibhcfdamdaaJg
import Derived.Test.YtahnibhcfdamdaaJd
import Derived.Test.YtahnibhcfdamdaaIy
set_option linter.unusedSimpArgs false
set_option linter.unusedVariables false
set_option maxRecDepth 100000
namespace Go.Proofs.Ytahnibhcfdamdaa.Is
open Go.RowKit Go.Proofs.YtahnibhcfdamdaaW.PrintWords Go.Proofs.Ytahnibhcfdamdaa.Bs Go.Proofs.Ytahnibhcfdamdaa.Av Go.Proofs.Ytahnibhcfdamdaa.Ad Go.Proofs.Ytahnibhcfdamdaa.Hd Go.Proofs.Ytahnibhcfdamdaa.Mm Go.Proofs.Ytahnibhcfdamdaa.Le Go.Proofs.Ytahnibhcfdamdaa.Ip Go.Proofs.Ytahnibhcfdamdaa.En Go.Proofs.Ytahnibhcfdamdaa.Co Go.Proofs.Ytahnibhcfdamdaa.Os

def ten (n : UInt8) : List UInt8 := pad16 [10, 0, 0, n]
theorem ten_width (n : UInt8) : widthA 4 (ten n) = 32 := (width32 4 (ten n)).2 ⟨rfl, rfl⟩
set_option maxHeartbeats 1000000 in
theorem alive19_any (w0 : World) : Calls Try.prog 23 #[] w0 fun e w' => e = .returned (.bool true) ∧ Below w0.heap.size w0 w' := by
  have BH1 : Hid (Built 23 #[(0, .int .u8 10), (1, .int .u8 0), (2, .int .u8 0), (3, .int .u8 1)] (.agg (encs B (ten 1)).toArray)) := Lib.hid (fun W => by kernel_rfl)
  have BH2 : Hid (Built 23 #[(0, .int .u8 10), (1, .int .u8 0), (2, .int .u8 0), (3, .int .u8 2)] (.agg (encs B (ten 2)).toArray)) := Lib.hid (fun W => by kernel_rfl)
  have BH3 := Lib.hid (built_four (ten 1) rfl)
  have BH4 := Lib.hid (built_four (ten 2) rfl)
  have BH5 := Lib.hid (built_ends 4 4 (ten 1) (ten 2) rfl rfl)
  have LT1 : Hid (LitOf 1 #[(0, .int .u8 7)] [7]) := Lib.hid ⟨rfl, by decide, fun W => by kernel_rfl⟩
  have HL : Hid ((all4 0 0 0 0 0 0 ((ten 1).take 4) ((ten 2).take 4) [7]).length = 21 ∧ ((all4 0 0 0 0 0 0 ((ten 1).take 4) ((ten 2).take 4) [7]).getD 0 0).toNat = 69 ∧ ((all4 0 0 0 0 0 0 ((ten 1).take 4) ((ten 2).take 4) [7]).getD 20 0).toNat = 7) := Lib.hid ⟨rfl, rfl, rfl⟩
  have HM := Lib.hid (Mem.start w0)
  have HB := HM.out.below
  go_enter Try.func23, Try.ntmps23
  go_wp2_with (first | refine m_rd ?_ | (refine m_wr ?_; clear HM HB; intro w b HM HB; try clear b) | (refine m_ap ?_; clear HM HB; intro w Aq cq HM HB) | fail)
  refine (put4_ok 0 0 0 0 0 0 0 0 0 (ten 1) (ten 2) _ [7] _ (HM.out.rb (by ((repeat (first | exact List.Mem.head _ | apply List.Mem.tail)); done))) rfl rfl (by decide) (by decide) (by decide) (by decide) (by decide) (by decide) (ten_width 1) (ten_width 2) (by decide)).mono ?_
  rintro e w ⟨v, rfl, ho, hb⟩
  replace HM := Lib.hid (HM.out.row hb ho)
  replace HB := HM.out.below
  clear ho hb
  generalize all4 0 0 0 0 0 0 ((ten 1).take 4) ((ten 2).take 4) [7] = L at HM HL
  obtain ⟨g, cap, rfl, -, -, hcap⟩ := (HM.out.ob (List.Mem.head _)).form (by rw [HL.out.1]; decide)
  have c0 := ((HM.out.ob (List.Mem.head _)).at_ 0 (by rw [HL.out.1]; decide)).1
  have c40 := ((HM.out.ob (List.Mem.head _)).at_ 20 (by rw [HL.out.1]; decide)).1
  rw [HL.out.2.1] at c0
  rw [HL.out.2.2] at c40
  rw [HL.out.1] at HM hcap ⊢
  go_wp2_with (first | refine m_rd ?_ | (refine m_wr ?_; clear HM HB; intro w b HM HB; try clear b) | (refine m_ap ?_; clear HM HB; intro w Aq cq HM HB) | fail)
  go_ret
  exact ⟨rfl, HB⟩
theorem fits_ns4 (l : List UInt8) : Fits (ns4 l ++ [4, 4]) := by
  have h0 := gb_lt l 0
  have h1 := gb_lt l 1
  have h2 := gb_lt l 2
  have h3 := gb_lt l 3
  have h4 := gb_lt l 4
  have h5 := gb_lt l 5
  have h6 := gb_lt l 6
  have h7 := gb_lt l 7
  have h8 := gb_lt l 8
  have h9 := gb_lt l 9
  intro n hn
  unfold ns4 tot4 siz4 at hn
  simp only [List.cons_append, List.nil_append, List.mem_cons, List.not_mem_nil, or_false] at hn
  rcases hn with rfl | rfl | rfl | rfl | rfl | rfl | rfl | rfl | rfl | rfl | rfl <;> omega
theorem len4 (l : List UInt8) (h : bad4 l = 0) : badS l = 0 ∧ 20 ≤ l.length ∧ 20 ≤ siz4 l ∧ siz4 l ≤ l.length ∧ siz4 l ≤ tot4 l ∧ tot4 l ≤ l.length ∧ sum16 (l.take (siz4 l)) = 65535 ∧ gb l 0 / 16 = 4 := by
  unfold bad4 at h
  by_cases hs : badS l = 0
  · rw [if_neg (by omega)] at h
    have hg : sum16 (l.take (siz4 l)) = 65535 := by
      by_cases hg : sum16 (l.take (siz4 l)) = 65535
      · exact hg
      · rw [if_pos hg] at h; exact absurd h (by decide)
    rcases badS_cases l with h | h | h | h | h | h | h <;> first | omega | exact ⟨hs, by omega, by omega, by omega, by omega, by omega, hg, by omega⟩
  · rw [if_pos hs] at h; exact absurd h hs
theorem cells_head4 (l : List UInt8) : Cells 31 (head4v l) := by
  unfold head4v
  by_cases h : bad4 l = 0
  · rw [if_pos h]
    have hl := (len4 l h).2.1
    exact cellsH _ _ _ _ _ rfl (pad16_length _ (by simp; omega)) (pad16_length _ (by simp; omega))
  · rw [if_neg h]; exact cellsZH
theorem eql_head4 (l : List UInt8) : EqlOf 31 (head4v l) (head4v l) true := by
  unfold head4v
  by_cases h : bad4 l = 0
  · rw [if_pos h]
    have hl := (len4 l h).2.1
    exact eql_head_self _ _ _ _ _ rfl (pad16_length _ (by simp; omega)) (pad16_length _ (by simp; omega)) (fits_ns4 l)
  · rw [if_neg h]; exact eql_head_self _ _ _ _ _ rfl rfl rfl fits_zero
set_option maxHeartbeats 1000000 in
theorem ipfourReads_walk (A : Option Addr) (c : Nat) (l : List UInt8) (w0 : World) (hr : RB w0 (.slice A l.length c) l) :
    Calls Try.prog 6 #[.slice A l.length c] w0 fun e w' => e = .returned (.bool true) ∧ Below w0.heap.size w0 w' := by
  have hl := hr.len
  have HR := Lib.hid hr
  clear hr
  have HM := Lib.hid (Mem.start w0)
  have HB := HM.out.below
  by_cases h3 : 300 < l.length
  · go_enter Try.func6, Try.ntmps6
    go_wp2_with (first | refine m_rd ?_ | (refine m_wr ?_; clear HM HB; intro w b HM HB; try clear b) | (refine m_ap ?_; clear HM HB; intro w Aq cq HM HB) | fail)
    refine (alive19_any _).mono ?_
    rintro e w ⟨rfl, hb⟩
    replace HM := Lib.hid (HM.out.call hb)
    replace HB := HM.out.below
    clear hb
    go_wp2_with (first | refine m_rd ?_ | (refine m_wr ?_; clear HM HB; intro w b HM HB; try clear b) | (refine m_ap ?_; clear HM HB; intro w Aq cq HM HB) | fail)
    go_ret
    exact ⟨rfl, HB⟩
  · have HC := Lib.hid (cells_head4 l)
    have EQ1 := Lib.hid (eql_head4 l)
    go_enter Try.func6, Try.ntmps6
    go_wp2_with (first | refine m_rd ?_ | (refine m_wr ?_; clear HM HB; intro w b HM HB; try clear b) | (refine m_ap ?_; clear HM HB; intro w Aq cq HM HB) | fail)
    refine (parse4_any _ l _ (HR.out.below HB)).mono ?_
    rintro e w ⟨rfl, hb⟩
    replace HM := Lib.hid (HM.out.call hb)
    replace HB := HM.out.below
    clear hb
    go_wp2_with (first | refine m_rd ?_ | (refine m_wr ?_; clear HM HB; intro w b HM HB; try clear b) | (refine m_ap ?_; clear HM HB; intro w Aq cq HM HB) | fail)
    refine (refParse4_any _ l _ (HR.out.below HB)).mono ?_
    rintro e w ⟨rfl, hb⟩
    replace HM := Lib.hid (HM.out.call hb)
    replace HB := HM.out.below
    clear hb
    go_wp2_with (first | refine m_rd ?_ | (refine m_wr ?_; clear HM HB; intro w b HM HB; try clear b) | (refine m_ap ?_; clear HM HB; intro w Aq cq HM HB) | fail)
    refine (alive19_any _).mono ?_
    rintro e w ⟨rfl, hb⟩
    replace HM := Lib.hid (HM.out.call hb)
    replace HB := HM.out.below
    clear hb
    go_wp2_with (first | refine m_rd ?_ | (refine m_wr ?_; clear HM HB; intro w b HM HB; try clear b) | (refine m_ap ?_; clear HM HB; intro w Aq cq HM HB) | fail)
    go_ret
    exact ⟨rfl, HB⟩
end Go.Proofs.Ytahnibhcfdamdaa.Is
