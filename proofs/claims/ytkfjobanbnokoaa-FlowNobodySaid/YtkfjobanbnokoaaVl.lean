/- Package flow: Note. -/
import Derived.Test.YtkfjobanbnokoaaVk
set_option linter.unusedSimpArgs false
set_option linter.unusedVariables false
set_option linter.unusedSectionVars false
set_option maxRecDepth 100000
namespace Go.Proofs.Ytkfjobanbnokoaa.Fw
open Go.RowKit Go.Proofs.YtkfjobanbnokoaaW.PrintWords Go.Proofs.Ytkfjobanbnokoaa.Bs Go.Proofs.Ytkfjobanbnokoaa.Gm
open Go.Proofs.Ytkfjobanbnokoaa.Av (AV)

theorem eqMapT (m : Option Nat) (w : World) : (binOp .eql 75 (.map m) (.map none)).run Try.prog w = .ok (.bool m.isNone) w := run_eql_map_nil w _ _ _ m Try.underlying75
theorem tbl_cell {w0 w : World} {es : List Ent} {bt bm : Nat} {room : Int} (HM : Mem w0 w es) (m : tblB bt room bm ∈ es) : w.cell? ⟨bt, 1, none⟩ = some (.map (some bm)) := (blk_cell (HM.get m) 1).trans rfl
set_option maxHeartbeats 1000000 in
theorem note_bad {w0 w : World} {es : List Ent} {bt bm : Nat} {room : Int} {A : Option Addr} {c : Nat} {b : List UInt8} (HM : HMem w0 w (tblB bt room bm :: es)) (hr : RB w (.slice A b.length c) b) (hb : ofBad b ≠ 0) :
    Calls Try.prog 20 #[.pointer (some ⟨bt, 0, none⟩), .slice A b.length c] w fun e w' => e = .returned (.int .i64 (ofBad b : Nat)) ∧ HMem w0 w' (tblB bt room bm :: es) := by
  have HO := Lib.hid (of_any A c b w hr)
  have HZ := Lib.hid (cellsFlow (ofF b))
  have AL1 := Lib.hid zeroFlow
  have hne : (((ofBad b : Nat) : Int) != 0) = true := bne_iff_ne.2 (by omega)
  have heq := eqMapT
  have hcell := tbl_cell HM.out (List.Mem.head _)
  have HB := HM.out.below
  clear hr hb
  generalize ((ofBad b : Nat) : Int) = bb at *
  generalize flowC (ofF b) = cf at *
  go_enter Try.func20, Try.ntmps20
  go_wp2_with fail
  refine HO.out.mono ?_
  rintro e w ⟨rfl, hb⟩
  replace HM := Lib.hid (HM.out.call hb)
  replace HB := HM.out.below
  clear hb hcell
  go_wp2_with (first | refine m_rd ?_ | (refine m_wr ?_; clear HM HB; intro w b HM HB; try clear b) | fail)
  go_ret
  exact ⟨rfl, Lib.hid HM.out.tail⟩
theorem lookT {w0 : World} {es : List Ent} {op : Oper} {a : Act} {tm tk : Operand} {bm : Nat} {l : List (Flow × Tal)} {k : Flow} {o : Option Tal} {v : Value} {is : Bool} (ho : op.op = .lookup 75 tm tk true) (hm : a.eval tm = .map (some bm)) (hk : a.eval tk = .agg (flowC k)) (m : mapE MT bm l ∈ es) (hg : getK l k = o) (hv : lookV MT true o = .tuple #[v, .bool is]) : Rd w0 es op a (.tuple #[v, .bool is]) := by
  rw [← hv]
  exact Rd.look LT ho hm hk m hg
theorem yields_mlen {ops : Array Oper} {op : Oper} {a : Act} {κ ν : Type} [DecidableEq κ] {M : MK κ ν} (L : M.Law) {w0 : World} {es : List Ent} {tm : Operand} {bm n : Nat} {l : List (κ × ν)} (ho : op.op = .call { callee := .builtin .len, args := #[tm], argTypes := #[M.t] }) (hm : a.eval tm = .map (some bm)) {S : World → Prop} (hS : ∀ w', S w' → Mem w0 w' es) (m : mapE M bm l ∈ es) (hn : l.length = n)
    (hw : Region.wanted op (yielded ops a.tmps) = true) : YieldsIf Try.prog ops S op (.int .i64 n) a :=
  .inl ⟨hw, fun w' h => by
    subst hn
    have hrun := ((hS w' h).mapAt m).len L.ht op.type
    unfold execOp
    simp only [ho, resolve, invoke, builtin, Sem.run_bind, Sem.run_pure, Result.andThen_ok, List.map_toArray, List.map_cons, List.map_nil, hm, hrun]⟩
/-- What holds behind a region, with one thing that its orders choose anew. -/
def Leaf1 {α : Type} (w0 : World) (F : α → Act) (E : α → List Ent) : Exit → Act → World → Prop
  | .normal, a, w => ∃ x, a = F x ∧ Mem w0 w (E x)
  | _, _, _ => False
theorem leaf1 {α : Type} {w0 w : World} {F : α → Act} {E : α → List Ent} {es : List Ent} (HM : HMem w0 w es) (x : α) (hp : es.Perm (E x)) {a : Act} (ha : a = F x) : Leaf1 w0 F E .normal a w := ⟨x, ha, HM.out.perm hp⟩
theorem region_cut1 {α : Type} {id : Nat} {ops : Array Oper} {d : Bool} {a : Act} {w w0 : World} {Q : Exit → Act → World → Prop} {F : α → Act} (E : α → List Ent) (h : (Code.region id ops d).wp Try.prog (Leaf1 w0 F E) a w)
    (k : ∀ x w, HMem w0 w (E x) → Q .normal (F x) w) : (Code.region id ops d).wp Try.prog Q a w := by
  refine Code.wp_mono (fun e a w q => ?_) h
  cases e <;> first | exact q.elim | skip
  obtain ⟨x, rfl, hm⟩ := q
  exact k x w (Lib.hid hm)
section
variable {w0 w : World} {es : List Ent} {bt bm n N : Nat} {room a d : Int} {A : Option Addr} {c : Nat} {bs : List UInt8} {k : Flow} {l : List (Flow × Tal)} {o : Option Tal} {cf ck cx c1 c2 c3 : Array Value} {x' : Tal}
set_option maxHeartbeats 4000000 in
theorem note_full (HM : HMem w0 w (tblB bt room bm :: mapE MT bm l :: es)) (HO : Hid (Calls Try.prog 8 #[.slice A n c] w fun e w' => e = .returned (.tuple #[.agg cf, .int .i64 0]) ∧ Below w.heap.size w w'))
    (HT : Hid (∀ w0, Calls Try.prog 13 #[.agg cf] w0 fun e w' => e = .returned (.agg (flowC k)) ∧ Below w0.heap.size w0 w')) (HZ : Hid (Cells 28 cf)) (HG : Hid (getK l k = none)) (hN : l.length = N) (hfull : decide (room ≤ (N : Int)) = true) :
    Calls Try.prog 20 #[.pointer (some ⟨bt, 0, none⟩), .slice A n c] w fun e w' => e = .returned (.int .i64 7) ∧ HMem w0 w' (tblB bt room bm :: mapE MT bm l :: es) := by
  have HK := Lib.hid (cellsFlow k)
  have HX := Lib.hid (cellsTal zT)
  have AL1 := Lib.hid zeroFlow
  have AL2 := Lib.hid zeroTal
  have heq := eqMapT
  have hcell := tbl_cell HM.out (List.Mem.head _)
  have HB := HM.out.below
  have HLV : Hid (lookV MT true none = .tuple #[.agg (tallyC zT), .bool false]) := Lib.hid rfl
  obtain ⟨cz, hcz⟩ : ∃ cz, tallyC zT = cz := ⟨_, rfl⟩
  rw [hcz] at HX HLV AL2
  generalize flowC zF = zf at AL1
  go_enter Try.func20, Try.ntmps20
  go_wp2_with fail
  refine HO.out.mono ?_
  rintro e w ⟨rfl, hb⟩
  replace HM := Lib.hid (HM.out.call hb)
  replace HB := HM.out.below
  clear hb hcell
  go_wp2_with (first | (refine m_wr ?_ HM (Wr.alloc rfl AL1.out.1 AL1.out.2) (wanted_none rfl); clear HM HB; intro w b5 HM HB) | refine m_rd ?_ | (refine m_wr ?_; clear HM HB; intro w b HM HB; try clear b) | fail)
  refine (HT.out w).mono ?_
  rintro e w ⟨rfl, hb⟩
  replace HM := Lib.hid (HM.out.call hb)
  replace HB := HM.out.below
  clear hb
  go_wp2_with (first | (refine m_wr ?_ HM (Wr.alloc rfl AL1.out.1 AL1.out.2) (wanted_none rfl); clear HM HB; intro w b7 HM HB) | refine m_rd ?_ | (refine m_wr ?_; clear HM HB; intro w b HM HB; try clear b) | fail)
  apply region_cut1 (w0 := w0) (fun (b8 : Nat) => .blk b8 cz 57 :: .blk b7 (flowC k) 28 :: .blk b5 cf 28 :: tblB bt room bm :: mapE MT bm l :: es)
  case h =>
    try simp only [Act.put, List.setIfInBounds_toArray, List.set_cons_zero, List.set_cons_succ]
    refine wp_region_held_drew (S := fun w' => Mem w0 w' [Ent.blk b7 (flowC k) 28, tblB bt room bm]) (by kernel_rfl) (HM.out.drew.sub (by repeat (first | exact List.nil_sublist _ | apply List.Sublist.cons_cons | apply List.Sublist.cons))) (fun hS => ?_)
    replace HM := Lib.hid HM.out.drew
    replace HB := HM.out.below
    refine tk 0 30 ?_
    refine tk 1 31 ?_
    refine tk 2 32 ?_
    refine tkv 3 33 (.map (some bm)) rfl (yields_cell rfl (by kernel_rfl) rfl (fun _ h => h) (by (first | ((repeat (first | with_reducible exact List.Mem.head _ | with_reducible apply List.Mem.tail)); done) | ((repeat (first | exact List.Mem.head _ | apply List.Mem.tail)); done))) rfl (by kernel_rfl)) ?_
    refine tkv 4 34 (.agg (flowC k)) rfl (yields_own rfl rfl (fun _ h => h) (by (first | ((repeat (first | with_reducible exact List.Mem.head _ | with_reducible apply List.Mem.tail)); done) | ((repeat (first | exact List.Mem.head _ | apply List.Mem.tail)); done))) Try.underlying28 rfl HK.out.1 (by kernel_rfl)) ?_
    refine wpAnyH_ready (rs := [5, 9]) (by kernel_rfl) (by simp) (rmore 5 rfl (fun K' hK => ?_) (rmore 9 rfl (fun K' hK => ?_) AllReadyH.nil))
    · refine s_rd ?_ HM (lookT (k := k) rfl rfl rfl (by (first | ((repeat (first | with_reducible exact List.Mem.head _ | with_reducible apply List.Mem.tail)); done) | ((repeat (first | exact List.Mem.head _ | apply List.Mem.tail)); done))) HG.out HLV.out) (by kernel_rfl)
      refine hK.out _ _ (HM.out.sub (by repeat (first | exact List.nil_sublist _ | apply List.Sublist.cons_cons | apply List.Sublist.cons))) (fun hS2 => ?_)
      clear hS hK
      have hS := hS2
      clear hS2
      try simp only [Act.put, List.setIfInBounds_toArray, List.set_cons_zero, List.set_cons_succ]
      refine tk 6 29 ?_
      refine tk 7 36 ?_
      refine tk 8 37 ?_
      refine rone 9 rfl fun K' hK => ?_
      refine s_wr ?_ HM (Wr.alloc rfl AL2.out.1 AL2.out.2) (by kernel_rfl)
      clear HM HB
      intro w b8 HM HB
      refine hK.out _ _ (HM.out.sub (by repeat (first | exact List.nil_sublist _ | apply List.Sublist.cons_cons | apply List.Sublist.cons))) (fun hS2 => ?_)
      clear hS hK
      have hS := hS2
      clear hS2
      try simp only [Act.put, List.setIfInBounds_toArray, List.set_cons_zero, List.set_cons_succ]
      refine rone 10 rfl fun K' hK => ?_
      refine s_wr ?_ HM (Wr.whole rfl rfl rfl (by (first | ((repeat (first | with_reducible exact Upd.head _ | with_reducible apply Upd.tail)); done) | ((repeat (first | exact Upd.head _ | apply Upd.tail)); done))) HX.out) (by kernel_rfl)
      clear HM HB
      intro w _ HM HB
      refine hK.out _ _ (HM.out.sub (by repeat (first | exact List.nil_sublist _ | apply List.Sublist.cons_cons | apply List.Sublist.cons))) (fun hS2 => ?_)
      clear hS hK
      have hS := hS2
      clear hS2
      try simp only [Act.put, List.setIfInBounds_toArray, List.set_cons_zero, List.set_cons_succ]
      refine tk 11 9 ?_
      refine wpAnyH_done (by kernel_rfl) ?_ _
      clear hS
      exact leaf1 HM b8 (List.Perm.refl _) rfl
    · refine s_wr ?_ HM (Wr.alloc rfl AL2.out.1 AL2.out.2) (by kernel_rfl)
      clear HM HB
      intro w b8 HM HB
      refine hK.out _ _ (HM.out.sub (by repeat (first | exact List.nil_sublist _ | apply List.Sublist.cons_cons | apply List.Sublist.cons))) (fun hS2 => ?_)
      clear hS hK
      have hS := hS2
      clear hS2
      try simp only [Act.put, List.setIfInBounds_toArray, List.set_cons_zero, List.set_cons_succ]
      refine rone 5 rfl fun K' hK => ?_
      refine s_rd ?_ HM (lookT (k := k) rfl rfl rfl (by (first | ((repeat (first | with_reducible exact List.Mem.head _ | with_reducible apply List.Mem.tail)); done) | ((repeat (first | exact List.Mem.head _ | apply List.Mem.tail)); done))) HG.out HLV.out) (by kernel_rfl)
      refine hK.out _ _ (HM.out.sub (by repeat (first | exact List.nil_sublist _ | apply List.Sublist.cons_cons | apply List.Sublist.cons))) (fun hS2 => ?_)
      clear hS hK
      have hS := hS2
      clear hS2
      try simp only [Act.put, List.setIfInBounds_toArray, List.set_cons_zero, List.set_cons_succ]
      refine tk 6 29 ?_
      refine tk 7 36 ?_
      refine tk 8 37 ?_
      refine rone 10 rfl fun K' hK => ?_
      refine s_wr ?_ HM (Wr.whole rfl rfl rfl (by (first | ((repeat (first | with_reducible exact Upd.head _ | with_reducible apply Upd.tail)); done) | ((repeat (first | exact Upd.head _ | apply Upd.tail)); done))) HX.out) (by kernel_rfl)
      clear HM HB
      intro w _ HM HB
      refine hK.out _ _ (HM.out.sub (by repeat (first | exact List.nil_sublist _ | apply List.Sublist.cons_cons | apply List.Sublist.cons))) (fun hS2 => ?_)
      clear hS hK
      have hS := hS2
      clear hS2
      try simp only [Act.put, List.setIfInBounds_toArray, List.set_cons_zero, List.set_cons_succ]
      refine tk 11 9 ?_
      refine wpAnyH_done (by kernel_rfl) ?_ _
      clear hS
      exact leaf1 HM b8 (List.Perm.refl _) rfl
  case k =>
    intro b8 w HM
    have HB := HM.out.below
    go_wp2_with fail
    try simp only [Act.put, List.setIfInBounds_toArray, List.set_cons_zero, List.set_cons_succ]
    refine wp_region_held_drew (S := fun w' => Mem w0 w' [tblB bt room bm, mapE MT bm l]) (by kernel_rfl) (HM.out.drew.sub (by repeat (first | exact List.nil_sublist _ | apply List.Sublist.cons_cons | apply List.Sublist.cons))) (fun hS => ?_)
    replace HM := Lib.hid HM.out.drew
    replace HB := HM.out.below
    refine tk 0 38 ?_
    refine tk 1 39 ?_
    refine tk 2 40 ?_
    refine tk 3 41 ?_
    refine tk 4 42 ?_
    refine tk 5 43 ?_
    refine tkv 6 44 (.map (some bm)) rfl (yields_cell rfl (by kernel_rfl) rfl (fun _ h => h) (by (first | ((repeat (first | with_reducible exact List.Mem.head _ | with_reducible apply List.Mem.tail)); done) | ((repeat (first | exact List.Mem.head _ | apply List.Mem.tail)); done))) rfl (by kernel_rfl)) ?_
    refine tkv 7 45 (.int .i64 N) rfl (yields_mlen LT rfl rfl (fun _ h => h) (by (first | ((repeat (first | with_reducible exact List.Mem.head _ | with_reducible apply List.Mem.tail)); done) | ((repeat (first | exact List.Mem.head _ | apply List.Mem.tail)); done))) hN (by kernel_rfl)) ?_
    refine tk 8 46 ?_
    refine tk 9 47 ?_
    refine tk 10 48 ?_
    refine tkv 11 49 (.int .i64 room) rfl (yields_cell rfl (by kernel_rfl) rfl (fun _ h => h) (by (first | ((repeat (first | with_reducible exact List.Mem.head _ | with_reducible apply List.Mem.tail)); done) | ((repeat (first | exact List.Mem.head _ | apply List.Mem.tail)); done))) rfl (by kernel_rfl)) ?_
    refine tk 12 50 ?_
    refine tk 13 51 ?_
    refine wpAnyH_done (by kernel_rfl) ?_ _
    clear hS
    go_wp2_with fail
    go_ret
    exact ⟨rfl, Lib.hid HM.out.tail.tail.tail⟩
end
end Go.Proofs.Ytkfjobanbnokoaa.Fw
