/- Package flow: the flow of any bytes, all cases; the document's. -/
import Derived.Test.YtkfjobanbnokoaaVf
import Derived.Test.YtkfjobanbnokoaaZl
set_option linter.unusedSimpArgs false
set_option linter.unusedVariables false
set_option linter.unusedSectionVars false
set_option maxRecDepth 100000
namespace Go.Proofs.Ytkfjobanbnokoaa.Fw
open Go.RowKit Go.Proofs.YtkfjobanbnokoaaW.PrintWords Go.Proofs.Ytkfjobanbnokoaa.Bs Go.Proofs.Ytkfjobanbnokoaa.Gm
open Go.Proofs.Ytkfjobanbnokoaa.Hd (HV) 
open Go.Proofs.Ytkfjobanbnokoaa.Ip (gb gb_lt)
open Go.Proofs.Ytkfjobanbnokoaa.Av (AV)
open Go.Proofs.Ytkfjobanbnokoaa.Pk (badP headP verP sizP totP proP srcP dstP wholeB lateB Known known)

def fl0 (l : List UInt8) (sp dp : Nat) : Flow := ⟨Int64.ofNat (verP l), Int64.ofNat (proP l), adrN (verP l) (srcP l), adrN (verP l) (dstP l), Int64.ofNat sp, Int64.ofNat dp⟩
theorem iV_nat {n : Nat} (h : n < 9223372036854775808) : iV (Int64.ofNat n) = .int .i64 (n : Int) := by unfold iV; rw [i64_nat n h]
theorem ofK {l : List UInt8} (hb : badP l = 0) : OfK l l.length (headP l) (flowC (fl0 l 0 0)) (verP l) (proP l) (sizP l) (AV [(verP l : Int)] (srcP l)) (AV [(verP l : Int)] (dstP l)) := by
  obtain ⟨v, sz, tt, cl, id, fl, fr, tl, pr, x, y, K⟩ := known l hb
  have hv : v = 4 ∨ v = 6 := K.fam.imp (·.1) (·.1)
  have hlow := K.low
  have hsm := K.small
  have hF := FV_flow (v := v) (pr := pr) (sp := 0) (dp := 0) (by omega) (by omega) K.lx K.ly (by omega) (by omega)
  have hx := K.lx
  have hy := K.ly
  have hh := K.head
  unfold fl0
  rw [← K.ver, ← K.siz, ← K.pro, ← K.src, ← K.dst, ← hF, hh]
  exact ⟨rfl, headC hx hy, Hd.HV_num _ _ _ _ _ 0 _ rfl, Hd.HV_num _ _ _ _ _ 8 _ rfl, Hd.HV_num _ _ _ _ _ 1 _ rfl, ⟨Hd.HV_src _ _ _ _ _ 9 rfl hx, adr_size _ hx, by kernel_rfl⟩, ⟨Hd.HV_dst _ _ _ _ _ 26 rfl hx, adr_size _ hy, by kernel_rfl⟩,
    built_flow _ _ _ _ hx hy, built_rflow _ _ _ _ hx hy, by rw [show ((0 : Nat) : Int) = 0 from rfl] at hF; rw [show ((0 : Nat) : Int) = 0 from rfl, hF]; exact cellsFlow _, by rw [show ((0 : Nat) : Int) = 0 from rfl] at hF; rw [show ((0 : Nat) : Int) = 0 from rfl, hF]; exact cellsRFlow _, by omega, by omega⟩
theorem ofF_eq {l : List UInt8} (h : ofBad l = 0) : ofF l = fl0 l (port l 0) (port l 2) := by unfold ofF; rw [if_pos h]; rfl
theorem low_of {l : List UInt8} (hb : badP l = 0) : 20 ≤ sizP l ∧ sizP l ≤ l.length := by
  obtain ⟨v, sz, tt, cl, id, fl, fr, tl, pr, x, y, K⟩ := known l hb
  have h := K.low
  rw [← K.siz]
  omega
theorem of_any (A : Option Addr) (c : Nat) (l : List UInt8) (w0 : World) (hr : RB w0 (.slice A l.length c) l) : Calls Try.prog 8 #[.slice A l.length c] w0 fun e w' => e = .returned (.tuple #[.agg (flowC (ofF l)), .int .i64 (ofBad l : Nat)]) ∧ Below w0.heap.size w0 w' := by
  by_cases hb : badP l = 0
  · cases hw : wholeB l
    · have e1 : ofBad l = 5 := by unfold ofBad; rw [if_pos hb, hw]; rfl
      have e2 : ofF l = zF := by unfold ofF; rw [e1]; rfl
      rw [e1, e2]
      exact of_form hr hb hw
    · have e1 : ofBad l = 0 := by unfold ofBad; rw [if_pos hb, hw]; rfl
      have hlow := low_of hb
      have hP := fun w hr' => (Pk.parseP_any (.slice A l.length c) l w hr')
      have hW := fun w hr' => (Pk.whole_any A c l w hr')
      have hT := fun w hr' => (Pk.later_any A c l w hr')
      rw [hb] at hP
      rw [hw] at hW
      rw [ofF_eq e1, e1]
      cases hp : portsB l
      · have p0 : ∀ i, port l i = 0 := fun i => by unfold port; rw [hp]; rfl
        rw [p0, p0]
        exact of_none (ofK hb) hr (Lib.hid hP) (Lib.hid hW) (Lib.hid hT) (by omega) hp
      · have p0 : ∀ i, port l i = 256 * gb l (sizP l + i) + gb l (sizP l + i + 1) := fun i => by unfold port; rw [hp]; rfl
        unfold portsB at hp
        rw [Bool.and_eq_true, Bool.and_eq_true, decide_eq_true_eq] at hp
        obtain ⟨⟨hp1, hp2⟩, hp3⟩ := hp
        have hlt : lateB l = false := by simpa using hp2
        rw [hlt] at hT
        have b0 : ∀ i j, 256 * gb l i + gb l j < 9223372036854775808 := fun i j => by have := gb_lt l i; have := gb_lt l j; omega
        rw [p0, p0]
        refine of_some (cf1 := flowC (fl0 l (256 * gb l (sizP l + 0) + gb l (sizP l + 0 + 1)) 0)) (ofK hb) hr (Lib.hid hP) (Lib.hid hW) (Lib.hid hT) (by omega) hp1 hp3 rfl rfl rfl rfl (Lib.hid ((flow_sp _).trans (congrArg some (iV_nat (by omega))))) (Lib.hid ?_) (Lib.hid ((flow_dp _).trans (congrArg some (iV_nat (by omega))))) (Lib.hid ?_) (Lib.hid (cellsFlow _))
        · exact (congrArg _ (iV_nat (b0 _ _)).symm).trans (set_sp _ _)
        · exact (congrArg _ (iV_nat (b0 _ _)).symm).trans (set_dp _ _)
  · have e1 : ofBad l = badP l := by unfold ofBad; rw [if_neg hb]
    have e2 : ofF l = zF := by unfold ofF; rw [e1, if_neg hb]
    rw [e1, e2]
    exact of_bad hr hb
end Go.Proofs.Ytkfjobanbnokoaa.Fw
