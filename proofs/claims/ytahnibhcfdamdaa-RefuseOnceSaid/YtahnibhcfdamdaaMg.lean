/- The laws of Mn once more, for regions with guards: whether an operation is wanted is decided at once. -/
import Derived.Test.YtahnibhcfdamdaaZb
set_option linter.unusedSimpArgs false
set_option linter.unusedVariables false
set_option maxRecDepth 100000
namespace Go.Proofs.Ytahnibhcfdamdaa.Mm
open Go.RowKit Go.Proofs.YtahnibhcfdamdaaW.PrintWords Go.Proofs.Ytahnibhcfdamdaa.Bs Go.Proofs.Ytahnibhcfdamdaa.Co Go.Proofs.Ytahnibhcfdamdaa.Hd Go.Proofs.Ytahnibhcfdamdaa.Av Go.Proofs.Ytahnibhcfdamdaa.Ad
theorem wanted_none {op : Oper} {y : Nat → Option Bool} (h : op.guard = none) : Region.wanted op y = true := by
  unfold Region.wanted
  rw [h]
theorem wanted_some {op : Oper} {ops : Array Oper} {tmps : Array Value} {j : Nat} {b : Bool} {d : Tmp} (h : op.guard = some (j, b)) (hd : (ops[j]?).bind (·.dst) = some d) (ht : tmps[d]? = some (.bool b)) : Region.wanted op (yielded ops tmps) = true := by
  unfold Region.wanted yielded
  rw [h]
  simp [hd, ht]
section
variable {ops : Array Oper} {rest : List Oper} {op : Oper} {a : Act} {Q : Exit → Act → World → Prop} {w0 w : World} {es : List Ent}
theorem m_rdg {v : Value} (k : wpList Try.prog ops Q rest (a.put op.dst v) w) (HM : HMem w0 w es := by first | exact HM | fail)
    (h : Rd w0 es op a v := by first
      | ((with_reducible apply Rd.g_load); (next => with_reducible exact rfl); first
        | ((with_reducible apply Rd.int); (next => with_reducible exact rfl); (next => exact rfl); (next => ((repeat (first | exact List.Mem.head _ | apply List.Mem.tail)); done)); (next => first | exact HV_num _ _ _ _ _ _ _ rfl | exact AV_num _ _ _ | exact HV_at9 _ _ _ _ _ rfl | exact HV_at26 _ _ _ _ _ rfl HX.out))
        | ((with_reducible apply Rd.whole); (next => with_reducible exact rfl); (next => kernel_rfl); (next => exact rfl); (next => ((repeat (first | exact List.Mem.head _ | apply List.Mem.tail)); done)))
        | ((with_reducible apply Rd.src); (next => with_reducible exact rfl); (next => exact rfl); (next => ((repeat (first | exact List.Mem.head _ | apply List.Mem.tail)); done)); (next => exact rfl); (next => first | exact HX.out | exact HY.out))
        | ((with_reducible apply Rd.dst); (next => with_reducible exact rfl); (next => exact rfl); (next => ((repeat (first | exact List.Mem.head _ | apply List.Mem.tail)); done)); (next => exact rfl); (next => first | exact HX.out | exact HY.out); (next => first | exact HY.out | exact HX.out)))
      | ((with_reducible apply Rd.g_build); (next => with_reducible exact rfl); apply Rd.build; (next => with_reducible exact rfl); first
        | ((next => exact BH1.out); (next => exact rfl)) | ((next => exact BH2.out); (next => exact rfl)) | ((next => exact BH3.out); (next => exact rfl)) | ((next => exact BH4.out); (next => exact rfl)) | ((next => exact BH5.out); (next => exact rfl)) | ((next => exact BH6.out); (next => exact rfl)) | ((next => exact built_zeroH); (next => exact rfl)) | ((next => exact built_zeroA); (next => exact rfl)))
      | ((with_reducible apply Rd.eql); (next => with_reducible exact rfl); (next => exact rfl); (next => exact rfl); (next => first | exact EQ1.out | exact EQ2.out | exact EQ3.out | exact EQ4.out); (next => kernel_rfl))
      | ((with_reducible apply Rd.neq); (next => with_reducible exact rfl); (next => exact rfl); (next => exact rfl); (next => first | exact EQ1.out | exact EQ2.out | exact EQ3.out | exact EQ4.out); (next => kernel_rfl))
      | fail)
    (hw : Region.wanted op (yielded ops a.tmps) = true := by first | exact wanted_none rfl | exact wanted_some rfl rfl rfl | fail) : wpList Try.prog ops Q (op :: rest) a w :=
  BigFrame.wpList_want hw fun K hK => h.run w K Q HM.out (hK _ _ k)
theorem m_wrg {v : Nat → Value} {e : Nat → List Ent} (k : ∀ w1 b, HMem w0 w1 (e b) → Below w0.heap.size w0 w1 → wpList Try.prog ops Q rest (a.put op.dst (v b)) w1) (HM : HMem w0 w es := by first | exact HM | fail)
    (h : Wr w0 es op a v e := by first
      | ((with_reducible apply Wr.g_store); (next => with_reducible exact rfl); first
        | ((with_reducible apply Wr.put); (next => with_reducible exact rfl); (next => exact rfl); (next => exact rfl); (next => ((repeat (first | exact Upd.head _ | apply Upd.tail)); done)); (next => exact HV_num _ _ _ _ _ _ _ rfl); (next => exact HV_set1 _ _ _ _ _ _ _ rfl))
        | ((with_reducible apply Wr.putRow); (next => with_reducible exact rfl); (next => exact rfl); (next => exact rfl); (next => ((repeat (first | exact Upd.head _ | apply Upd.tail)); done)); (next => first | exact rfl | exact decide_eq_true (by omega)); (next => exact ⟨by omega, by omega⟩))
        | ((with_reducible apply Wr.whole); (next => with_reducible exact rfl); (next => exact rfl); (next => exact rfl); (next => ((repeat (first | exact Upd.head _ | apply Upd.tail)); done)); (next => (first | with_reducible exact cellsZH | with_reducible exact cellsZA | with_reducible exact HC.out | exact (show Hid (Cells _ _) by assumption).out))))
      | ((with_reducible apply Wr.g_slice); (next => with_reducible exact rfl); first
        | ((with_reducible apply Wr.lit); (next => with_reducible exact rfl); first | ((next => exact LT1.out); (next => exact rfl)) | ((next => exact LT2.out); (next => exact rfl)) | ((next => exact LT3.out); (next => exact rfl)))
        | ((with_reducible apply Wr.sl1); (next => with_reducible exact rfl); (next => exact rfl))
        | ((with_reducible apply Wr.sl2); (next => with_reducible exact rfl); (next => exact rfl); (next => exact rfl))
        | ((with_reducible apply Wr.sl3); (next => with_reducible exact rfl); (next => exact rfl); (next => exact rfl); (next => exact rfl))
        | ((with_reducible apply Wr.sl4); (next => with_reducible exact rfl); (next => exact rfl); (next => exact rfl); (next => exact rfl); (next => exact rfl)))
      | ((with_reducible apply Wr.make); (next => with_reducible exact rfl); (next => exact rfl); (next => exact rfl); (next => omega))
      | ((with_reducible apply Wr.alloc); (next => with_reducible exact rfl); first | ((next => exact zeroH); (next => exact cellsZH)) | ((next => exact zeroA); (next => exact cellsZA)))
      | ((with_reducible apply Wr.box); (next => with_reducible exact rfl); (next => exact rfl); (next => (first | with_reducible exact cellsZH | with_reducible exact cellsZA | with_reducible exact HC.out | exact (show Hid (Cells _ _) by assumption).out)))
      | fail)
    (hw : Region.wanted op (yielded ops a.tmps) = true := by first | exact wanted_none rfl | exact wanted_some rfl rfl rfl | fail) : wpList Try.prog ops Q (op :: rest) a w :=
  BigFrame.wpList_want hw fun K hK => h.run w K Q HM.out (fun w1 b hm => hK _ _ (k w1 b (Lib.hid hm) hm.below))
end
end Go.Proofs.Ytahnibhcfdamdaa.Mm
