/- Packets of either family: whether one tells an error. -/
import Derived.Test.YtahnibhcfdamdaaKb
set_option linter.unusedSimpArgs false
set_option linter.unusedVariables false
set_option maxRecDepth 100000
namespace Go.Proofs.Ytahnibhcfdamdaa.Pk
open Go.RowKit Go.Proofs.YtahnibhcfdamdaaW.PrintWords Go.Proofs.Ytahnibhcfdamdaa.Bs Go.Proofs.Ytahnibhcfdamdaa.Av Go.Proofs.Ytahnibhcfdamdaa.Ad Go.Proofs.Ytahnibhcfdamdaa.Hd Go.Proofs.Ytahnibhcfdamdaa.Mm Go.Proofs.Ytahnibhcfdamdaa.Le Go.Proofs.Ytahnibhcfdamdaa.Ip Go.Proofs.Ytahnibhcfdamdaa.En Go.Proofs.Ytahnibhcfdamdaa.Co Go.Proofs.Ytahnibhcfdamdaa.Os Go.Proofs.Ytahnibhcfdamdaa.Is


def kindB (t : Nat) : Bool := decide (t = 3 ∨ t = 4 ∨ t = 5 ∨ t = 11 ∨ t = 12)
def failB (pr t : Nat) : Bool := if pr = 58 then decide (t < 128) else kindB t
def KF (t : Nat) (b3 b4 b5 b11 b12 : Bool) : Prop := ((t : Int) == 3) = b3 ∧ ((t : Int) == 4) = b4 ∧ ((t : Int) == 5) = b5 ∧ ((t : Int) == 11) = b11 ∧ ((t : Int) == 12) = b12 ∧ kindB t = (b3 || b4 || b5 || b11 || b12)
theorem kinds (t : Nat) : KF t true false false false false ∨ KF t false true false false false ∨ KF t false false true false false ∨ KF t false false false true false ∨ KF t false false false false true ∨ KF t false false false false false := by
  unfold KF kindB
  by_cases h3 : t = 3
  · subst h3; left; decide
  by_cases h4 : t = 4
  · subst h4; right; left; decide
  by_cases h5 : t = 5
  · subst h5; right; right; left; decide
  by_cases h11 : t = 11
  · subst h11; right; right; right; left; decide
  by_cases h12 : t = 12
  · subst h12; right; right; right; right; left; decide
  right; right; right; right; right
  refine ⟨beq_false_of_ne (by omega), beq_false_of_ne (by omega), beq_false_of_ne (by omega), beq_false_of_ne (by omega), beq_false_of_ne (by omega), ?_⟩
  simp [h3, h4, h5, h11, h12]
set_option maxHeartbeats 2000000 in
theorem fail_any (n0 n1 n2 n3 n4 n5 n6 n7 : Int) (pr t : Nat) (a b : Int) (x y : List UInt8) (ht : t < 256) (hx : x.length = 16) (hy : y.length = 16) (w0 : World) :
    Calls Try.prog 113 #[.agg (HV [n0, n1, n2, n3, n4, n5, n6, n7, (pr : Int)] a x b y), .int .u8 (t : Int)] w0 fun e w' => e = .returned (.bool (failB pr t)) ∧ Below w0.heap.size w0 w' := by
  have HC := Lib.hid (cellsH [n0, n1, n2, n3, n4, n5, n6, n7, (pr : Int)] a x b y rfl hx hy)
  have HX := Lib.hid hx
  have HY := Lib.hid hy
  clear hx hy
  unfold failB
  by_cases hp : pr = 58
  · rw [if_pos hp]
    have hq : ((pr : Int) == 58) = true := by rw [hp]; rfl
    clear hp
    by_cases h : t < 128
    · have h1 : decide ((t : Int) < 128) = true := by simp; omega
      rw [decide_eq_true h]
      clear h
      have HM := Lib.hid (Mem.start w0)
      have HB := HM.out.below
      go_enter Try.func113, Try.ntmps113
      go_wp2_with (first | refine m_rd ?_ | (refine m_wr ?_; clear HM HB; intro w b HM HB; try clear b) | (refine m_ap ?_; clear HM HB; intro w Aq cq HM HB) | fail)
      go_ret
      exact ⟨rfl, HB⟩
    · have h1 : decide ((t : Int) < 128) = false := by simp; omega
      rw [decide_eq_false h]
      clear h
      have HM := Lib.hid (Mem.start w0)
      have HB := HM.out.below
      go_enter Try.func113, Try.ntmps113
      go_wp2_with (first | refine m_rd ?_ | (refine m_wr ?_; clear HM HB; intro w b HM HB; try clear b) | (refine m_ap ?_; clear HM HB; intro w Aq cq HM HB) | fail)
      go_ret
      exact ⟨rfl, HB⟩
  · rw [if_neg hp]
    have hq : ((pr : Int) == 58) = false := beq_false_of_ne (by omega)
    clear hp
    rcases kinds t with h | h | h | h | h | h
    all_goals
      obtain ⟨h3, h4, h5, h11, h12, hk⟩ := h
      rw [hk]
      clear hk
      have HM := Lib.hid (Mem.start w0)
      have HB := HM.out.below
      go_enter Try.func113, Try.ntmps113
      go_wp2_with (first | refine m_rd ?_ | (refine m_wr ?_; clear HM HB; intro w b HM HB; try clear b) | (refine m_ap ?_; clear HM HB; intro w Aq cq HM HB) | fail)
      go_ret
      exact ⟨rfl, HB⟩
end Go.Proofs.Ytahnibhcfdamdaa.Pk
