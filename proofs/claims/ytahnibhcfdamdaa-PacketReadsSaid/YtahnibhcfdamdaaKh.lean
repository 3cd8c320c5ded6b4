/- Layer 21: the chapter's example. -/
import Derived.Test.YtahnibhcfdamdaaKb
import Derived.Test.YtahnibhcfdamdaaIy
import Derived.Test.YtahnibhcfdamdaaIv
set_option linter.unusedSimpArgs false
set_option linter.unusedVariables false
set_option maxRecDepth 100000
namespace Go.Proofs.Ytahnibhcfdamdaa.Pk
open Go.RowKit Go.Proofs.YtahnibhcfdamdaaW.PrintWords Go.Proofs.Ytahnibhcfdamdaa.Bs Go.Proofs.Ytahnibhcfdamdaa.Av Go.Proofs.Ytahnibhcfdamdaa.Ad Go.Proofs.Ytahnibhcfdamdaa.Hd Go.Proofs.Ytahnibhcfdamdaa.Mm Go.Proofs.Ytahnibhcfdamdaa.Le Go.Proofs.Ytahnibhcfdamdaa.Ip Go.Proofs.Ytahnibhcfdamdaa.En Go.Proofs.Ytahnibhcfdamdaa.Co Go.Proofs.Ytahnibhcfdamdaa.Os Go.Proofs.Ytahnibhcfdamdaa.Is


theorem unguard {ops : Array Oper} {rest : List Oper} {op : Oper} {a : Act} {Q : Exit → Act → World → Prop} {w : World} (hw : Region.wanted op (yielded ops a.tmps) = true)
    (h : wpList Try.prog ops Q ({ op with guard := none } :: rest) a w) : wpList Try.prog ops Q (op :: rest) a w := by
  obtain ⟨dst, o, ty, pos, af, gd⟩ := op
  unfold wpList at h ⊢
  rw [if_pos hw]
  split at h
  · exact h
  · rename_i hn; exact absurd (by simp [Region.wanted]) hn
def zero16 : List UInt8 := List.replicate 16 0
theorem built_zero6 : Built 25 #[(0, .int .i64 6)] (.agg (AV [6] zero16)) := fun W => by kernel_rfl
def zs40 : List UInt8 := all6 0 0 0 0 zero16 zero16 []
set_option maxHeartbeats 400000 in
theorem alive21_any (w0 : World) : Calls Try.prog 41 #[] w0 fun e w' => e = .returned (.bool true) ∧ Below w0.heap.size w0 w' := by
  have BH3 := Lib.hid built_zero6
  have BH5 := Lib.hid (built_ends 6 6 zero16 zero16 rfl rfl)
  have LT1 : Hid (LitOf 1 #[(0, .int .u8 0)] [0]) := Lib.hid ⟨rfl, by decide, fun W => by kernel_rfl⟩
  have HP0 : Hid (headP [] = ZH ∧ badP [] = 3) := Lib.hid ⟨by kernel_rfl, by kernel_rfl⟩
  have HL : Hid (zs40.length = 40) := Lib.hid (by kernel_rfl)
  have HW : Hid (wholeB zs40 = true ∧ wholeB (zs40 ++ [0]) = false) := Lib.hid ⟨by kernel_rfl, by kernel_rfl⟩
  have HN1 : Hid (zs40.length + [(0 : UInt8)].length = 41) := Lib.hid (by kernel_rfl)
  have HPUT := fun w => put6_ok 0 0 0 0 0 0 0 0 0 zero16 zero16 _ [] w (RB.nil w) rfl rfl (by decide) (by decide) (by decide) (by decide) (by decide)
  rw [show all6 0 0 0 0 zero16 zero16 [] = zs40 from rfl] at HPUT
  have HPU := Lib.hid HPUT
  have HX : Hid (zero16.length = 16) := Lib.hid rfl
  have e41 : (zs40 ++ [0]).length = 41 := by kernel_rfl
  have H41 := fun A c w => whole_any A c (zs40 ++ [0]) w
  rw [e41] at H41
  replace H41 := Lib.hid H41
  clear e41
  clear HPUT
  have HCA := Lib.hid (cellsA 6 zero16 rfl)
  generalize zs40 = L at *
  generalize zero16 = Z at *
  have HM := Lib.hid (Mem.start w0)
  have HB := HM.out.below
  go_enter Try.func41, Try.ntmps41
  go_wp2_with (first | refine m_rd ?_ | (refine m_wr ?_; clear HM HB; intro w b HM HB; try clear b) | (refine m_ap ?_; clear HM HB; intro w Aq cq HM HB) | fail)
  refine (parseP_any _ [] _ (RB.nil _)).mono ?_
  rintro e w ⟨rfl, hb⟩
  replace HM := Lib.hid (HM.out.call hb)
  replace HB := HM.out.below
  clear hb
  rw [HP0.out.1, HP0.out.2]
  go_wp2_with (first | refine m_rd ?_ | (refine m_wr ?_; clear HM HB; intro w b HM HB; try clear b) | (refine m_ap ?_; clear HM HB; intro w Aq cq HM HB) | fail)
  refine (HPU.out _).mono ?_
  rintro e w ⟨v, rfl, ho, hb⟩
  replace HM := Lib.hid (HM.out.row hb ho)
  replace HB := HM.out.below
  clear ho hb
  obtain ⟨g, cap, rfl, -, -, hcap⟩ := (HM.out.ob (List.Mem.head _)).form (by rw [HL.out]; decide)
  go_wp2_with (first | refine m_rd ?_ | (refine m_wr ?_; clear HM HB; intro w b HM HB; try clear b) | (refine m_ap ?_; clear HM HB; intro w Aq cq HM HB) | fail)
  refine (whole_any _ _ L _ (HM.out.rb (by ((repeat (first | exact List.Mem.head _ | apply List.Mem.tail)); done)))).mono ?_
  rintro e w ⟨rfl, hb⟩
  replace HM := Lib.hid (HM.out.call hb)
  replace HB := HM.out.below
  clear hb
  rw [HW.out.1]
  go_wp2_with (first | refine m_rd ?_ | (refine m_wr ?_; clear HM HB; intro w b HM HB; try clear b) | (refine m_ap ?_; clear HM HB; intro w Aq cq HM HB) | fail | ((with_reducible refine g_builtin rfl ?_); (refine unguard (by kernel_rfl) ?_); refine m_ap ?_; clear HM HB; intro w Aq cq HM HB))
  refine (H41.out _ _ _ (HM.out.rb (by ((repeat (first | exact List.Mem.head _ | apply List.Mem.tail)); done)))).mono ?_
  rintro e w ⟨rfl, hb⟩
  replace HM := Lib.hid (HM.out.call hb)
  replace HB := HM.out.below
  clear hb
  rw [HW.out.2]
  go_wp2_with (first | refine m_rd ?_ | (refine m_wr ?_; clear HM HB; intro w b HM HB; try clear b) | (refine m_ap ?_; clear HM HB; intro w Aq cq HM HB) | fail)
  go_ret
  exact ⟨rfl, HB⟩
end Go.Proofs.Ytahnibhcfdamdaa.Pk
