/- Further step laws: a byte of a row of the call's own is stored. -/
import Derived.Test.YtahnibhcfdamdaaMz
set_option linter.unusedSimpArgs false
set_option linter.unusedVariables false
set_option maxRecDepth 100000
namespace Go.Proofs.Ytahnibhcfdamdaa.Mm
open Go.RowKit Go.Proofs.YtahnibhcfdamdaaW.PrintWords Go.Proofs.Ytahnibhcfdamdaa.Bs Go.Proofs.Ytahnibhcfdamdaa.Co

theorem run_store8 (W : World) (a : Addr) (n : Int) (v0 : Value) (hc : W.cell? a = some v0) (hf : W.frozen? a = false) : (storeVar 5 a (.int .u8 n)).run Try.prog W = .ok () (W.setCell a (.int .u8 n)) := by
  have hi : ∃ i, Try.prog.info? 5 = some i ∧ i.size = 1 := by
    have h : (Try.prog.info? 5).map (·.size) = some 1 := by kernel_rfl
    obtain ⟨i, hi, h⟩ := Option.map_eq_some_iff.1 h
    exact ⟨i, hi, h⟩
  obtain ⟨i, hi, h1⟩ := hi
  simp [storeVar, sizeOf, typeInfo, hi, h1, go_sem, hc, hf]
theorem Mem.putRow {w0 w : World} {es es' : List Ent} (h : Mem w0 w es) {g k cap j : Nat} {l : List UInt8} {n : Int} (h0 : 0 ≤ n) (h1 : n < 256) (u : Upd (.row (.slice (some ⟨g, 0, none⟩) k cap) l) (.row (.slice (some ⟨g, 0, none⟩) k cap) (l.set j (UInt8.ofNat n.toNat))) es es') : Mem w0 (w.setCell ⟨g, j, none⟩ (.int .u8 n)) es' :=
  h.turn u (grown_set w g j _) ((h.ob u.mem).store j n h0 h1) (fun k hk => .inl hk)
section
variable {ops : Array Oper} {rest : List Oper} {op : Oper} {a : Act} {Q : Exit → Act → World → Prop} {w0 w : World} {es es' : List Ent}
theorem m_putRow {x y : Operand} (ho : op.op = .store 5 x y) (hw : Region.wanted op (yielded ops a.tmps) = true) {g j : Nat} (hx : a.eval x = .pointer (some ⟨g, j, none⟩)) {n : Int} (hy : a.eval y = .int .u8 n) (HM : HMem w0 w es) {k cap : Nat} {l : List UInt8}
    (u : Upd (.row (.slice (some ⟨g, 0, none⟩) k cap) l) (.row (.slice (some ⟨g, 0, none⟩) k cap) (l.set j (UInt8.ofNat n.toNat))) es es') (hj : decide (j < k) = true) (hn : 0 ≤ n ∧ n < 256)
    (h : ∀ w1, HMem w0 w1 es' → Below w0.heap.size w0 w1 → wpList Try.prog ops Q rest (a.put op.dst undef) w1) : wpList Try.prog ops Q (op :: rest) a w := by
  refine BigFrame.wpList_want hw fun K hK => ?_
  unfold Oper.wp
  have hob := HM.out.ob u.mem
  have hat := hob.at_ j (by have := of_decide_eq_true hj; rw [← hob.size]; exact this)
  have hrun := run_store8 w ⟨g, j, none⟩ n _ hat.1 hat.2
  simp [execOp, ho, hx, hy, Instr.storeAt, Instr.sureAddr, hrun, Result.andThen]
  have hm := HM.out.putRow hn.1 hn.2 u
  exact hK _ _ (h _ (Lib.hid hm) hm.below)
end
theorem Mem.form {w0 w : World} {es : List Ent} (h : Mem w0 w es) {v : Value} {l : List UInt8} (m : Ent.row v l ∈ es) (hp : 0 < l.length) : ∃ g cap, v = .slice (some ⟨g, 0, none⟩) l.length cap ∧ l.length ≤ cap := by
  obtain ⟨g, cap, e, _, _, hc⟩ := (h.ob m).form hp
  exact ⟨g, cap, e, hc⟩
theorem i64_join (h l k : Nat) (hl : l < 2 ^ k) (hs : h * 2 ^ k + l < 9223372036854775808) : bits .or .i64 ((h * 2 ^ k : Nat) : Int) (l : Int) = ((h * 2 ^ k + l : Nat) : Int) := by
  have hh : h * 2 ^ k < 2 ^ 63 := by omega
  have hl2 : l < 2 ^ 63 := by omega
  rw [bits_join .i64 63 (by decide) (fun n h0 h1 => by rw [IntKind.wrap_i64]; omega) k _ _ (by omega) (by exact_mod_cast Nat.mul_mod_left h (2 ^ k)) (by exact_mod_cast hh) (by omega) (by exact_mod_cast hl) (by exact_mod_cast hl2)]
  omega
end Go.Proofs.Ytahnibhcfdamdaa.Mm
