/- Package sessions: the kinds of its maps and rows; what a table is; reading it. -/
import Derived.Test.YtapncdgeigbgmaaPn
import Derived.Test.YtapncdgeigbgmaaRt
import Derived.Test.YtapncdgeigbgmaaSj
import Derived.DeepKeys4
import Derived.WalkSpells
set_option linter.unusedSimpArgs false
set_option linter.unusedVariables false
set_option linter.unusedSectionVars false
set_option maxRecDepth 100000
namespace Go.Proofs.Ytapncdgeigbgmaa.Tb
open Go.RowKit Go.Proofs.YtapncdgeigbgmaaW.PrintWords Go.Proofs.Ytapncdgeigbgmaa.Bs Go.Proofs.Ytapncdgeigbgmaa.Gm Go.Proofs.Ytapncdgeigbgmaa.Sf
open Go.Maps (Keyed)

/-- A key. -/
abbrev Key := Vector UInt8 32
def keyC (k : Key) : Array Value := k.toArray.map fun b => .int .u8 (b.toNat : Int)
theorem keyC_size (k : Key) : (keyC k).size = 32 := by simp [keyC]
theorem keyC_one (k : Key) : (keyC k).all (·.oneCell') = true := by
  rw [Array.all_eq_true_iff_forall_mem]
  intro x hx
  obtain ⟨b, _, rfl⟩ := Array.mem_map.1 hx
  rfl
theorem keyC_inj {a b : Key} (h : keyC a = keyC b) : a = b := by
  apply Vector.toArray_inj.1
  refine Array.map_inj_right (fun x y hxy => ?_) |>.1 h
  injection hxy with _ hxy
  exact UInt8.toNat_inj.1 (by omega)
theorem keyC_at (k : Key) {i : Nat} (hi : i < 32) : (keyC k).toList[i]? = some (.int .u8 (k[i].toNat : Int)) := by
  simp [keyC, hi]
theorem mapM_some {α β : Type} {f : α → Option β} {g : α → β} : ∀ {l : List α}, (∀ x ∈ l, f x = some (g x)) → l.mapM f = some (l.map g)
  | [], _ => rfl
  | x :: l, h => by
    rw [List.mapM_cons, h x (List.mem_cons_self ..), mapM_some (fun y hy => h y (List.mem_cons_of_mem _ hy))]
    rfl
theorem wf_of {q : IntKind} {a b n : Int} (h0 : q.min = a) (h1 : q.max = b) (h2 : a ≤ n) (h3 : n ≤ b) : (Lit.int q n).wf = true := by
  subst h0
  subst h1
  show (decide _ && decide _) = true
  rw [decide_eq_true h2, decide_eq_true h3]
  rfl
theorem lay : laidOutB Try.prog = true := by kernel_rfl
theorem key_lits (k : Key) (d : Nat) : ∃ ls, Try.prog.keyLits (d + 2) 29 (keyC k).toList = some ls := by
  have h8 : ∀ x : UInt8, Try.prog.keyLits (d + 1) 5 [.int .u8 (x.toNat : Int)] = some [.int .u8 (x.toNat : Int)] := fun x => by
    have hx : (Lit.int .u8 (x.toNat : Int)).wf = true := by
      have h := x.toNat_lt
      exact wf_of (a := 0) (b := 255) rfl rfl (by omega) (by omega)
    unfold Program.keyLits
    rw [Try.underlying5]
    simp [hx]
  have hu : Try.prog.underlying 29 = some (.array 32 5) := Try.underlying29
  have hc : Try.prog.cellsOf 29 = 32 := by kernel_rfl
  have hc8 : Try.prog.cellsOf 5 = 1 := by kernel_rfl
  unfold Program.keyLits
  rw [hu]
  simp only [hc, hc8, Nat.mul_one, Array.length_toList, keyC_size, if_true]
  rw [mapM_some (g := fun i => [.int .u8 (((k.toArray[i]?).getD 0).toNat : Int)])]
  · exact ⟨_, rfl⟩
  · intro i hi
    have hi : i < 32 := by simpa using hi
    have : ((keyC k).toList.drop i).take 1 = [.int .u8 (k[i].toNat : Int)] := by
      rw [List.drop_eq_getElem_cons (by simp [keyC_size, hi])]
      simp [keyC]
    rw [this, h8]
    simp [hi]
theorem keyC_key (k : Key) : ∃ kl, keyOf Try.prog 29 (.agg (keyC k)) = some kl := by
  have hu : Try.prog.underlying 29 = some (.array 32 5) := Try.underlying29
  have hn : Try.prog.types.size + 1 = (Try.prog.types.size - 1) + 2 := by kernel_rfl
  obtain ⟨ls, hl⟩ := key_lits k (Try.prog.types.size - 1)
  have hkt : Try.prog.keyType 29 = true := by kernel_rfl
  have hf : (Value.agg (keyC k)).formed Try.prog 29 = true := by
    have hc : Try.prog.cellsOf 29 = 32 := by kernel_rfl
    simp [Value.formed, hu, keyC_size, hc]
  unfold keyOf
  rw [hu]
  simp only [hkt, hf, Bool.and_self, if_true, Value.cells]
  rw [hn, hl]
  exact ⟨_, rfl⟩
theorem key_law : Keyed Try.prog 29 := Keyed.of_law (deep_law_laid lay (m := 2) (by omega) (by decide +kernel) (by kernel_rfl) (by kernel_rfl))
theorem num_law : Keyed Try.prog 23 := Maps.int_keyed Try.underlying23
theorem num_key (x : UInt32) : ∃ kl, keyOf Try.prog 23 (.int .u32 (x.toNat : Int)) = some kl := ⟨_, Maps.keyOf_int_mk Try.underlying23 (by
  have h := x.toNat_lt
  exact wf_of (a := 0) (b := 4294967295) rfl rfl (by omega) (by omega))⟩

theorem neqMap (m : Option Nat) (w : World) : (binOp .neq 89 (.map m) (.map none)).run Try.prog w = .ok (.bool (!m.isNone)) w := run_neq_map_nil w _ _ _ m Try.underlying89
/-- The sessions by their numbers; the numbers of a key's sessions; rows of numbers. -/
def MB : MK UInt32 Nat := ⟨89, 23, 26, fun x => .int .u32 (x.toNat : Int), fun b => .pointer (some ⟨b, 0, none⟩), .pointer none⟩
def MO : MK Key Value := ⟨90, 29, 98, fun k => .agg (keyC k), fun v => v, .slice none 0 0⟩
def RN : RK UInt32 := ⟨98, 23, 1, 4, fun x => #[.int .u32 (x.toNat : Int)]⟩
theorem LN : RN.Law := RK.law_of Try.underlying98 (by kernel_rfl) (by decide) (by decide) (fun x => rfl) (fun x => by simp [RN, Value.oneCell'])
theorem LB : MB.Law := ⟨num_law, fun x y h => by
  injection h with _ h
  exact UInt32.toNat_inj.1 (by omega), Try.underlying89, fun W => by kernel_rfl, num_key⟩
theorem LO : MO.Law := ⟨key_law, fun x y h => by
  injection h with h
  exact keyC_inj h, Try.underlying90, fun W => by kernel_rfl, keyC_key⟩
end Go.Proofs.Ytapncdgeigbgmaa.Tb
namespace Go.Proofs.Ytapncdgeigbgmaa.Gm
open Go.RowKit Go.Proofs.YtapncdgeigbgmaaW.PrintWords Go.Proofs.Ytapncdgeigbgmaa.Bs
theorem skip_if {c : Bool} {A B : Prop} (h : c = false) (b : B) : if c = true then A else B := by rw [h]; simpa using b
theorem Wr.box1 {w0 : World} {es : List Ent} {op : Oper} {a : Act} {t : TypeId} {x : Operand} (ho : op.op = .box t x) {z : Value} (hx : a.eval x = z) (h1 : z.oneCell' = true) (hi : (Try.prog.info? t).map (·.size) = some 1) : Wr w0 es op a (fun b => .pointer (some ⟨b, 0, none⟩)) (fun b => .blk b #[z] t :: es) := .mk fun w K Q HM hK => by
  unfold Oper.wp
  simp [execOp, ho, newVar, newRow, Result.andThen, hx]
  have h := HM.alloc #[z] t hi
  rw [← one_cells h1] at h
  refine hK _ _ ?_
  rw [one_cells h1] at h ⊢
  exact h
end Go.Proofs.Ytapncdgeigbgmaa.Gm
