/- Layer 54: addresses, flows and tallies as values; '==' on them decided exactly; flows as keys. -/
import Derived.Test.YtkfjobanbnokoaaPn
import Derived.Test.YtkfjobanbnokoaaRt
import Derived.DeepKeys
import Derived.DeepKeys4
import Derived.WalkSpells
set_option linter.unusedSimpArgs false
set_option linter.unusedVariables false
set_option linter.unusedSectionVars false
set_option maxRecDepth 100000
namespace Go.Proofs.Ytkfjobanbnokoaa.Fw
open Go.RowKit Go.Proofs.YtkfjobanbnokoaaW.PrintWords Go.Proofs.Ytkfjobanbnokoaa.Bs Go.Proofs.Ytkfjobanbnokoaa.Gm
open Go.Maps (Keyed)

abbrev B16 := Vector UInt8 16
structure Adr where
  v : Int64
  b : B16
deriving DecidableEq
structure Flow where
  v : Int64
  pr : Int64
  s : Adr
  d : Adr
  sp : Int64
  dp : Int64
deriving DecidableEq
def iV (x : Int64) : Value := .int .i64 x.toInt
def b16C (b : B16) : Array Value := b.toArray.map fun x => .int .u8 (x.toNat : Int)
def adrC (a : Adr) : Array Value := #[iV a.v] ++ b16C a.b
def flowC (f : Flow) : Array Value := #[iV f.v, iV f.pr] ++ (adrC f.s ++ (adrC f.d ++ #[iV f.sp, iV f.dp]))
theorem b16C_size (b : B16) : (b16C b).size = 16 := by simp [b16C]
theorem adrC_size (a : Adr) : (adrC a).size = 17 := by simp [adrC, b16C_size]
theorem flowC_size (f : Flow) : (flowC f).size = 38 := by simp [flowC, adrC_size]
theorem b16C_one (b : B16) : (b16C b).all (·.oneCell') = true := by
  rw [Array.all_eq_true_iff_forall_mem]
  intro x hx
  obtain ⟨y, _, rfl⟩ := Array.mem_map.1 hx
  rfl
theorem adrC_one (a : Adr) : (adrC a).all (·.oneCell') = true := by
  unfold adrC
  rw [Array.all_append, b16C_one]
  simp [Value.oneCell', iV]
theorem flowC_one (f : Flow) : (flowC f).all (·.oneCell') = true := by
  unfold flowC
  simp only [Array.all_append, adrC_one]
  simp [Value.oneCell', iV]
theorem iV_inj {x y : Int64} (h : iV x = iV y) : x = y := by
  injection h with _ h
  exact Int64.toInt_inj.1 h
theorem b16C_inj {a b : B16} (h : b16C a = b16C b) : a = b := by
  apply Vector.toArray_inj.1
  refine Array.map_inj_right (fun x y hxy => ?_) |>.1 h
  injection hxy with _ hxy
  exact UInt8.toNat_inj.1 (by omega)
theorem adrC_inj {a b : Adr} (h : adrC a = adrC b) : a = b := by
  unfold adrC at h
  have h1 := congrArg Array.toList h
  simp only [Array.toList_append, List.cons_append, List.nil_append] at h1
  injection h1 with e1 e2
  have := b16C_inj (Array.toList_inj.1 e2)
  have := iV_inj e1
  cases a; cases b
  simp_all
theorem append_cut {α : Type} {a b c d : List α} (h : a ++ b = c ++ d) (hl : a.length = c.length) : a = c ∧ b = d := List.append_inj h hl
theorem flowC_inj {f g : Flow} (h : flowC f = flowC g) : f = g := by
  unfold flowC at h
  have h1 := congrArg Array.toList h
  simp only [Array.toList_append, List.cons_append, List.nil_append] at h1
  injection h1 with e1 h2
  injection h2 with e2 h3
  obtain ⟨e3, h4⟩ := append_cut h3 (by simp [adrC_size])
  obtain ⟨e4, h5⟩ := append_cut h4 (by simp [adrC_size])
  injection h5 with e5 h6
  injection h6 with e6 _
  have q1 := iV_inj e1
  have q2 := iV_inj e2
  have q3 := adrC_inj (Array.toList_inj.1 e3)
  have q4 := adrC_inj (Array.toList_inj.1 e4)
  have q5 := iV_inj e5
  have q6 := iV_inj e6
  cases f; cases g
  simp only at q1 q2 q3 q4 q5 q6
  subst q1 q2 q3 q4 q5 q6
  rfl
theorem wf_of {q : IntKind} {a b n : Int} (h0 : q.min = a) (h1 : q.max = b) (h2 : a ≤ n) (h3 : n ≤ b) : (Lit.int q n).wf = true := by
  subst h0
  subst h1
  show (decide _ && decide _) = true
  rw [decide_eq_true h2, decide_eq_true h3]
  rfl
theorem iV_wf (x : Int64) : (Lit.int .i64 x.toInt).wf = true := wf_of (a := -9223372036854775808) (b := 9223372036854775807) rfl rfl (by have := Int64.le_toInt x; simpa using this) (by have := Int64.toInt_lt x; omega)
theorem lay : laidOutB Try.prog = true := by kernel_rfl
theorem mapM_ex {α β : Type} {f : α → Option β} : ∀ {l : List α}, (∀ x ∈ l, ∃ y, f x = some y) → ∃ ys, l.mapM f = some ys
  | [], _ => ⟨[], rfl⟩
  | x :: l, h => by
    obtain ⟨y, hy⟩ := h x (List.mem_cons_self ..)
    obtain ⟨ys, hys⟩ := mapM_ex (l := l) (fun z hz => h z (List.mem_cons_of_mem _ hz))
    rw [List.mapM_cons, hy, hys]
    exact ⟨_, rfl⟩
theorem lits_int {d : Nat} {t : TypeId} {q : IntKind} {z : Int} (hu : Try.prog.underlying t = some (.int q)) (hw : (Lit.int q z).wf = true) : ∃ ls, Try.prog.keyLits (d + 1) t [.int q z] = some ls := by
  unfold Program.keyLits
  rw [hu]
  simp [hw]
theorem lits_array {d n : Nat} {t e : TypeId} {cs : List Value} (hu : Try.prog.underlying t = some (.array n e)) (hc : cs.length = Try.prog.cellsOf t) (h : ∀ i, i < n → ∃ ls, Try.prog.keyLits d e ((cs.drop (i * Try.prog.cellsOf e)).take (Try.prog.cellsOf e)) = some ls) : ∃ ls, Try.prog.keyLits (d + 1) t cs = some ls := by
  unfold Program.keyLits
  rw [hu]
  simp only [hc, if_true]
  obtain ⟨ys, hy⟩ := mapM_ex (f := fun i => Try.prog.keyLits d e ((cs.drop (i * Try.prog.cellsOf e)).take (Try.prog.cellsOf e))) (l := List.range n) (fun i hi => h i (List.mem_range.1 hi))
  rw [hy]
  exact ⟨_, rfl⟩
theorem lits_struct {d : Nat} {t : TypeId} {fs : Array Field} {cs : List Value} (hu : Try.prog.underlying t = some (.struct fs)) (hc : cs.length = Try.prog.cellsOf t) (hb : fs.all (·.name != "_") = true) (h : ∀ f ∈ fs.toList, ∃ ls, Try.prog.keyLits d f.type ((cs.drop f.offset).take (Try.prog.cellsOf f.type)) = some ls) : ∃ ls, Try.prog.keyLits (d + 1) t cs = some ls := by
  unfold Program.keyLits
  rw [hu]
  simp only [hc, hb, and_self, if_true]
  obtain ⟨ys, hy⟩ := mapM_ex h
  rw [hy]
  exact ⟨_, rfl⟩
theorem b16_lits (b : B16) (d : Nat) : ∃ ls, Try.prog.keyLits (d + 2) 24 (b16C b).toList = some ls := by
  refine lits_array Try.underlying24 (by rw [Array.length_toList, b16C_size]; kernel_rfl) (fun i hi => ?_)
  rw [show Try.prog.cellsOf 5 = 1 by kernel_rfl, Nat.mul_one]
  have : ((b16C b).toList.drop i).take 1 = [.int .u8 (b[i].toNat : Int)] := by
    rw [List.drop_eq_getElem_cons (by simp [b16C_size, hi])]
    simp [b16C]
  rw [this]
  have h := b[i].toNat_lt
  exact lits_int Try.underlying5 (wf_of (a := 0) (b := 255) rfl rfl (by omega) (by omega))
theorem adr_lits (a : Adr) (d : Nat) : ∃ ls, Try.prog.keyLits (d + 3) 26 (adrC a).toList = some ls := by
  refine lits_struct Try.underlying26 (by rw [Array.length_toList, adrC_size]; kernel_rfl) (by kernel_rfl) (fun f hf => ?_)
  simp only [List.mem_cons, List.not_mem_nil, or_false] at hf
  rcases hf with rfl | rfl
  · show ∃ ls, Try.prog.keyLits (d + 2) 3 (((adrC a).toList.drop 0).take (Try.prog.cellsOf 3)) = some ls
    rw [show Try.prog.cellsOf 3 = 1 by kernel_rfl]
    have : ((adrC a).toList.drop 0).take 1 = [iV a.v] := by simp [adrC]
    rw [this]
    exact lits_int Try.underlying3 (iV_wf _)
  · show ∃ ls, Try.prog.keyLits (d + 2) 24 (((adrC a).toList.drop 1).take (Try.prog.cellsOf 24)) = some ls
    rw [show Try.prog.cellsOf 24 = 16 by kernel_rfl]
    have : ((adrC a).toList.drop 1).take 16 = (b16C a.b).toList := by
      simp only [adrC, Array.toList_append, List.cons_append, List.nil_append, List.drop_succ_cons, List.drop_zero]
      exact List.take_of_length_le (by simp [b16C_size])
    rw [this]
    exact b16_lits a.b d
theorem flow_list (f : Flow) : (flowC f).toList = iV f.v :: iV f.pr :: ((adrC f.s).toList ++ ((adrC f.d).toList ++ [iV f.sp, iV f.dp])) := by simp [flowC]
theorem flow_lits {t : TypeId} {fs : Array Field} (hu : Try.prog.underlying t = some (.struct fs)) (hc : Try.prog.cellsOf t = 38) (hb : fs.all (·.name != "_") = true) (hf : fs.toList.map (fun f => (f.type, f.offset)) = [(3, 0), (3, 1), (26, 2), (26, 19), (3, 36), (3, 37)]) (f : Flow) (d : Nat) : ∃ ls, Try.prog.keyLits (d + 4) t (flowC f).toList = some ls := by
  refine lits_struct hu (by rw [Array.length_toList, flowC_size, hc]) hb (fun g hg => ?_)
  have hm : (g.type, g.offset) ∈ fs.toList.map (fun f => (f.type, f.offset)) := List.mem_map.2 ⟨g, hg, rfl⟩
  rw [hf] at hm
  have c1 : Try.prog.cellsOf 3 = 1 := by kernel_rfl
  have c17 : Try.prog.cellsOf 26 = 17 := by kernel_rfl
  have hs : (adrC f.s).toList.length = 17 := by simp [adrC_size]
  have hd : (adrC f.d).toList.length = 17 := by simp [adrC_size]
  simp only [List.mem_cons, List.not_mem_nil, or_false, Prod.mk.injEq] at hm
  rw [flow_list]
  rcases hm with ⟨e1, e2⟩ | ⟨e1, e2⟩ | ⟨e1, e2⟩ | ⟨e1, e2⟩ | ⟨e1, e2⟩ | ⟨e1, e2⟩ <;> rw [e1, e2] <;> first | rw [c1] | rw [c17]
  · exact lits_int Try.underlying3 (iV_wf _)
  · exact lits_int Try.underlying3 (iV_wf _)
  · have : ((iV f.v :: iV f.pr :: ((adrC f.s).toList ++ ((adrC f.d).toList ++ [iV f.sp, iV f.dp]))).drop 2).take 17 = (adrC f.s).toList := by
      show ((adrC f.s).toList ++ _).take 17 = _
      rw [List.take_left' hs]
    rw [this]
    exact adr_lits f.s d
  · have : ((iV f.v :: iV f.pr :: ((adrC f.s).toList ++ ((adrC f.d).toList ++ [iV f.sp, iV f.dp]))).drop 19).take 17 = (adrC f.d).toList := by
      show (((adrC f.s).toList ++ _).drop 17).take 17 = _
      rw [List.drop_left' hs, List.take_left' hd]
    rw [this]
    exact adr_lits f.d d
  · have : ((iV f.v :: iV f.pr :: ((adrC f.s).toList ++ ((adrC f.d).toList ++ [iV f.sp, iV f.dp]))).drop 36).take 1 = [iV f.sp] := by
      show (((adrC f.s).toList ++ _).drop (17 + 17)).take 1 = _
      rw [← List.drop_drop, List.drop_left' hs, List.drop_left' hd]
      rfl
    rw [this]
    exact lits_int Try.underlying3 (iV_wf _)
  · have : ((iV f.v :: iV f.pr :: ((adrC f.s).toList ++ ((adrC f.d).toList ++ [iV f.sp, iV f.dp]))).drop 37).take 1 = [iV f.dp] := by
      show (((adrC f.s).toList ++ _).drop (17 + (17 + 1))).take 1 = _
      rw [← List.drop_drop, List.drop_left' hs, ← List.drop_drop, List.drop_left' hd]
      rfl
    rw [this]
    exact lits_int Try.underlying3 (iV_wf _)
theorem fflow_lits (f : Flow) (d : Nat) : ∃ ls, Try.prog.keyLits (d + 4) 28 (flowC f).toList = some ls := flow_lits Try.underlying28 (by kernel_rfl) (by kernel_rfl) (by kernel_rfl) f d
theorem rflow_lits (f : Flow) (d : Nat) : ∃ ls, Try.prog.keyLits (d + 4) 32 (flowC f).toList = some ls := flow_lits Try.underlying32 (by kernel_rfl) (by kernel_rfl) (by kernel_rfl) f d
/-- A key that is a struct. -/
theorem key_struct {α : Type} {t : TypeId} {fs : Array Field} {enc : α → Array Value} {m : Nat} (hu : Try.prog.underlying t = some (.struct fs)) (hc : ∀ x, (enc x).size = Try.prog.cellsOf t) (hkt : Try.prog.keyType t = true) (hl : ∀ x d, ∃ ls, Try.prog.keyLits (d + m) t (enc x).toList = some ls) (hm : m ≤ Try.prog.types.size) (x : α) :
    (Value.agg (enc x)).formed Try.prog t = true ∧ ∃ ls, Try.prog.keyLits (Try.prog.types.size + 1) t (enc x).toList = some ls ∧ keyOf Try.prog t (.agg (enc x)) = some (.string (keyBytes ls)) := by
  have hf : (Value.agg (enc x)).formed Try.prog t = true := by simp [Value.formed, hu, hc x]
  obtain ⟨ls, h⟩ := hl x (Try.prog.types.size + 1 - m)
  rw [show Try.prog.types.size + 1 - m + m = Try.prog.types.size + 1 by omega] at h
  refine ⟨hf, ls, h, ?_⟩
  unfold keyOf
  rw [hu]
  simp only [hkt, hf, Bool.and_self, if_true, Value.cells]
  rw [h]
  rfl
theorem eq_struct {α : Type} [DecidableEq α] {t : TypeId} {fs : Array Field} {enc : α → Array Value} {m : Nat} (hu : Try.prog.underlying t = some (.struct fs)) (hc : ∀ x, (enc x).size = Try.prog.cellsOf t) (hkt : Try.prog.keyType t = true) (hl : ∀ x d, ∃ ls, Try.prog.keyLits (d + m) t (enc x).toList = some ls) (hm : m ≤ Try.prog.types.size)
    (hinj : ∀ x y, enc x = enc y → x = y) (hK : Keyed Try.prog t) {D : Nat} (hD : D + m = 10000) (hat : Try.prog.keyTypeAt m t = true) (x y : α) : EqlOf t (enc x) (enc y) (decide (x = y)) := fun W => by
  obtain ⟨fx, lx, h1, k1⟩ := key_struct hu hc hkt hl hm x
  obtain ⟨fy, ly, h2, k2⟩ := key_struct hu hc hkt hl hm y
  obtain ⟨r, hr, hi⟩ := run_equalIn_deep (P := Try.prog) D m t hat W _ _ (.agg (enc x)) (.agg (enc y)) lx ly fx fy h1 h2
  have he : r = decide (x = y) := by
    by_cases e : x = y
    · subst e
      rw [h1] at h2
      injection h2 with h2
      rw [decide_eq_true rfl]
      exact hi.2 h2
    · rw [decide_eq_false e]
      cases r with
      | false => rfl
      | true =>
        have hl := hi.1 rfl
        subst hl
        have := hK.inj k1 k2
        injection this with this
        exact absurd (hinj _ _ this) e
  rw [← he]
  rw [hD] at hr
  simp only [binOp]
  simp [Op.equal, Op.maxDepth, hr]
theorem adr_law : Keyed Try.prog 26 := Keyed.of_law (deep_law_laid lay (m := 3) (by omega) (by decide +kernel) (by kernel_rfl) (by kernel_rfl))
theorem fflow_law : Keyed Try.prog 28 := Keyed.of_law (deep_law_laid lay (m := 4) (by omega) (by decide +kernel) (by kernel_rfl) (by kernel_rfl))
theorem rflow_law : Keyed Try.prog 32 := Keyed.of_law (deep_law_laid lay (m := 4) (by omega) (by decide +kernel) (by kernel_rfl) (by kernel_rfl))
theorem eq_adr (x y : Adr) : EqlOf 26 (adrC x) (adrC y) (decide (x = y)) := eq_struct (m := 3) Try.underlying26 (fun x => by rw [adrC_size]; kernel_rfl) (by kernel_rfl) adr_lits (by decide +kernel) (fun _ _ => adrC_inj) adr_law (D := 9997) rfl (by kernel_rfl) x y
theorem eq_flow (x y : Flow) : EqlOf 28 (flowC x) (flowC y) (decide (x = y)) := eq_struct (m := 4) Try.underlying28 (fun x => by rw [flowC_size]; kernel_rfl) (by kernel_rfl) fflow_lits (by decide +kernel) (fun _ _ => flowC_inj) fflow_law (D := 9996) rfl (by kernel_rfl) x y
theorem eq_rflow (x y : Flow) : EqlOf 32 (flowC x) (flowC y) (decide (x = y)) := eq_struct (m := 4) Try.underlying32 (fun x => by rw [flowC_size]; kernel_rfl) (by kernel_rfl) rflow_lits (by decide +kernel) (fun _ _ => flowC_inj) rflow_law (D := 9996) rfl (by kernel_rfl) x y
theorem cellsAdr (a : Adr) : Cells 26 (adrC a) := ⟨by rw [adrC_size]; kernel_rfl, adrC_one a⟩
theorem cellsFlow (f : Flow) : Cells 28 (flowC f) := ⟨by rw [flowC_size]; kernel_rfl, flowC_one f⟩
theorem cellsRFlow (f : Flow) : Cells 32 (flowC f) := ⟨by rw [flowC_size]; kernel_rfl, flowC_one f⟩
theorem flow_key (f : Flow) : ∃ kl, keyOf Try.prog 28 (.agg (flowC f)) = some kl := by
  obtain ⟨_, ls, _, h⟩ := key_struct (m := 4) (enc := flowC) Try.underlying28 (fun x => by rw [flowC_size]; kernel_rfl) (by kernel_rfl) fflow_lits (by decide +kernel) f
  exact ⟨_, h⟩
end Go.Proofs.Ytkfjobanbnokoaa.Fw
