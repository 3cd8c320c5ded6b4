/- Layer 54: FlowOf's walk. -/
import Derived.Test.YtkfjobanbnokoaaVt
set_option linter.unusedSimpArgs false
set_option linter.unusedVariables false
set_option linter.unusedSectionVars false
set_option maxRecDepth 100000
namespace Go.Proofs.Ytkfjobanbnokoaa.Fw
open Go.RowKit Go.Proofs.YtkfjobanbnokoaaW.PrintWords Go.Proofs.Ytkfjobanbnokoaa.Bs Go.Proofs.Ytkfjobanbnokoaa.Gm

theorem skip_if {c : Bool} {A B : Prop} (h : c = false) (b : B) : if c = true then A else B := by rw [h]; simpa using b
theorem run_neq_of' {t : TypeId} {vx vy : Array Value} {r : Bool} (h : EqlOf t vx vy r) (W : World) : (binOp .neq t (.agg vx) (.agg vy)).run Try.prog W = .ok (.bool (!r)) W := run_neq_of h W
theorem yields_eql {ops : Array Oper} {S : World → Prop} {op : Oper} {a : Act} {t u : TypeId} {x y : Operand} (ho : op.op = .binOp .eql t x y u) {vx vy : Array Value} (hx : a.eval x = .agg vx) (hy : a.eval y = .agg vy) {r : Bool} (hgt : Try.prog.eqGuardType Try.prog.depth t = false) (he : EqlOf t vx vy r) (hw : Region.wanted op (yielded ops a.tmps) = true) : YieldsIf Try.prog ops S op (.bool r) a :=
  .inl ⟨hw, fun w _ => by
    have h1 := he w
    have hg : (eqGuard .eql t x y (.agg vx) (.agg vy)).run Try.prog w = .ok () w := by simp [eqGuard, hgt]
    simp [execOp, ho, resolve, hx, hy, hg, h1, Result.andThen]⟩
theorem yields_neq {ops : Array Oper} {S : World → Prop} {op : Oper} {a : Act} {t u : TypeId} {x y : Operand} (ho : op.op = .binOp .neq t x y u) {vx vy : Array Value} (hx : a.eval x = .agg vx) (hy : a.eval y = .agg vy) {r : Bool} (hgt : Try.prog.eqGuardType Try.prog.depth t = false) (he : EqlOf t vx vy r) (hw : Region.wanted op (yielded ops a.tmps) = true) : YieldsIf Try.prog ops S op (.bool (!r)) a :=
  .inl ⟨hw, fun w _ => by
    have h1 := run_neq_of he w
    have hg : (eqGuard .neq t x y (.agg vx) (.agg vy)).run Try.prog w = .ok () w := by simp [eqGuard, hgt]
    simp [execOp, ho, resolve, hx, hy, hg, h1, Result.andThen]⟩
theorem self_eq {α : Type} [DecidableEq α] {t : TypeId} {vx : Array Value} {x : α} (h : EqlOf t vx vx (decide (x = x))) : EqlOf t vx vx true := by rwa [decide_eq_true rfl] at h
abbrev Fn1 (F : FuncId) (v u : Array Value) : Prop := ∀ w0, Calls Try.prog F #[.agg v] w0 fun e w' => e = .returned (.agg u) ∧ Below w0.heap.size w0 w'
section
variable {cf co ck : Array Value} {A : Option Addr} {n c : Nat} {l : List UInt8} {bad : Nat}
set_option maxHeartbeats 8000000 in
theorem of_law (w0 : World) (hr : RB w0 (.slice A n c) l) (h3 : ¬ (3000 : Int) < n) (HF : Hid (Cells 28 cf)) (HRF : Hid (Cells 32 cf)) (HO : Hid (Cells 28 co)) (HRO : Hid (Cells 32 co))
    (H1 : Hid (∀ w, RB w (.slice A n c) l → Calls Try.prog 8 #[.slice A n c] w fun e w' => e = .returned (.tuple #[.agg cf, .int .i64 bad]) ∧ Below w.heap.size w w'))
    (H2 : Hid (∀ w, RB w (.slice A n c) l → Calls Try.prog 9 #[.slice A n c] w fun e w' => e = .returned (.tuple #[.agg cf, .int .i64 bad]) ∧ Below w.heap.size w w'))
    (O1 : Hid (Fn1 11 cf co)) (O2 : Hid (Fn1 11 co cf)) (O3 : Hid (Fn1 12 cf co)) (P1 : Hid (Fn1 10 cf cf)) (P2 : Hid (Fn1 10 co co)) (P3 : Hid (Fn1 10 ck ck))
    (T1 : Hid (Fn1 13 cf ck)) (T2 : Hid (Fn1 13 co ck)) (T3 : Hid (Fn1 14 cf ck))
    (E1 : Hid (EqlOf 32 cf cf true)) (E2 : Hid (EqlOf 32 co co true)) (E3 : Hid (EqlOf 28 cf cf true)) (E4 : Hid (EqlOf 32 ck ck true)) (E5 : Hid (EqlOf 28 ck ck true)) :
    Calls Try.prog 3 #[.slice A n c] w0 fun e w' => e = .returned (.bool true) ∧ Below w0.heap.size w0 w' := by
  have HR := Lib.hid hr
  have AL1 := Lib.hid zeroFlow
  have AL2 := Lib.hid zeroRFlow
  generalize flowC zF = zf at *
  clear hr
  obtain ⟨z, hz⟩ : ∃ z, ((bad : Int) != 0) = z := ⟨_, rfl⟩
  have hq : ((bad : Int) != (bad : Int)) = false := by simp
  generalize (bad : Int) = bi at *
  have HM := Lib.hid (Mem.start w0)
  have HB := HM.out.below
  go_enter Try.func3, Try.ntmps3
  go_wp2_with fail
  refine (H1.out _ (HR.out.below HB)).mono ?_
  rintro e w ⟨rfl, hb⟩
  replace HM := Lib.hid (HM.out.call hb)
  replace HB := HM.out.below
  clear hb
  go_wp2_with (first | (refine m_wr ?_ HM (Wr.alloc rfl AL1.out.1 AL1.out.2) (wanted_none rfl); clear HM HB; intro w b3 HM HB; (try simp only [Act.put, List.setIfInBounds_toArray, List.set_cons_zero, List.set_cons_succ])) | (refine m_rd ?_; (try simp only [Act.put, List.setIfInBounds_toArray, List.set_cons_zero, List.set_cons_succ])) | (refine m_wr ?_; clear HM HB; intro w b HM HB; (try simp only [Act.put, List.setIfInBounds_toArray, List.set_cons_zero, List.set_cons_succ]); try clear b) | fail)
  refine (H2.out _ (HR.out.below HB)).mono ?_
  rintro e w ⟨rfl, hb⟩
  replace HM := Lib.hid (HM.out.call hb)
  replace HB := HM.out.below
  clear hb
  go_wp2_with (first | (refine m_wr ?_ HM (Wr.alloc rfl AL2.out.1 AL2.out.2) (wanted_none rfl); clear HM HB; intro w b5 HM HB; (try simp only [Act.put, List.setIfInBounds_toArray, List.set_cons_zero, List.set_cons_succ])) | (refine m_rd ?_; (try simp only [Act.put, List.setIfInBounds_toArray, List.set_cons_zero, List.set_cons_succ])) | (refine m_wr ?_; clear HM HB; intro w b HM HB; (try simp only [Act.put, List.setIfInBounds_toArray, List.set_cons_zero, List.set_cons_succ]); try clear b) | fail)
  try simp only [Act.put, List.setIfInBounds_toArray, List.set_cons_zero, List.set_cons_succ]
  refine wp_region_held_drew (S := fun w' => Mem w0 w' [Ent.blk b5 cf 32, Ent.blk b3 cf 28]) (by kernel_rfl) (HM.out.drew.sub (by repeat (first | exact List.nil_sublist _ | apply List.Sublist.cons_cons | apply List.Sublist.cons))) (fun hS => ?_)
  replace HM := Lib.hid HM.out.drew
  replace HB := HM.out.below
  refine tkv 0 22 (.agg cf) rfl (yields_own rfl rfl (fun _ h => h) (by (first | ((repeat (first | with_reducible exact List.Mem.head _ | with_reducible apply List.Mem.tail)); done) | ((repeat (first | exact List.Mem.head _ | apply List.Mem.tail)); done))) Try.underlying28 rfl HF.out.1 (by kernel_rfl)) ?_
  refine tkv 2 24 (.agg cf) rfl (yields_own rfl rfl (fun _ h => h) (by (first | ((repeat (first | with_reducible exact List.Mem.head _ | with_reducible apply List.Mem.tail)); done) | ((repeat (first | exact List.Mem.head _ | apply List.Mem.tail)); done))) Try.underlying32 rfl HRF.out.1 (by kernel_rfl)) ?_
  refine rone 1 rfl fun K' hK => ?_
  go_simp
  refine (P1.out _).mono ?_
  rintro e w ⟨rfl, hb⟩
  replace HM := Lib.hid (HM.out.call hb)
  replace HB := HM.out.below
  clear hb
  refine hK.out _ _ (HM.out.sub (by repeat (first | exact List.nil_sublist _ | apply List.Sublist.cons_cons | apply List.Sublist.cons))) (fun hS2 => ?_)
  clear hS hK
  have hS := hS2
  clear hS2
  try simp only [Act.put, List.setIfInBounds_toArray, List.set_cons_zero, List.set_cons_succ]
  refine tkv 3 25 (.bool (!true)) rfl (yields_neq rfl rfl rfl (by kernel_rfl) E1.out (by kernel_rfl)) ?_
  refine tk 4 26 ?_
  refine tk 5 27 ?_
  refine tk 6 28 ?_
  refine tk 7 29 ?_
  refine tk 8 30 ?_
  refine wpAnyH_done (by kernel_rfl) ?_ _
  clear hS
  go_wp2_with (first | (refine m_rd ?_; (try simp only [Act.put, List.setIfInBounds_toArray, List.set_cons_zero, List.set_cons_succ])) | (refine m_wr ?_; clear HM HB; intro w b HM HB; (try simp only [Act.put, List.setIfInBounds_toArray, List.set_cons_zero, List.set_cons_succ]); try clear b) | fail)
  refine (O1.out _).mono ?_
  rintro e w ⟨rfl, hb⟩
  replace HM := Lib.hid (HM.out.call hb)
  replace HB := HM.out.below
  clear hb
  go_wp2_with (first | (refine m_wr ?_ HM (Wr.alloc rfl AL1.out.1 AL1.out.2) (wanted_none rfl); clear HM HB; intro w b7 HM HB; (try simp only [Act.put, List.setIfInBounds_toArray, List.set_cons_zero, List.set_cons_succ])) | (refine m_rd ?_; (try simp only [Act.put, List.setIfInBounds_toArray, List.set_cons_zero, List.set_cons_succ])) | (refine m_wr ?_; clear HM HB; intro w b HM HB; (try simp only [Act.put, List.setIfInBounds_toArray, List.set_cons_zero, List.set_cons_succ]); try clear b) | fail)
  cases z
  · skip
    try simp only [Act.put, List.setIfInBounds_toArray, List.set_cons_zero, List.set_cons_succ]
    refine wp_region_held_drew (S := fun w' => Mem w0 w' [Ent.blk b7 co 28, Ent.blk b5 cf 32, Ent.blk b3 cf 28]) (by kernel_rfl) (HM.out.drew.sub (by repeat (first | exact List.nil_sublist _ | apply List.Sublist.cons_cons | apply List.Sublist.cons))) (fun hS => ?_)
    replace HM := Lib.hid HM.out.drew
    replace HB := HM.out.below
    refine tkv 0 33 (.agg co) rfl (yields_own rfl rfl (fun _ h => h) (by (first | ((repeat (first | with_reducible exact List.Mem.head _ | with_reducible apply List.Mem.tail)); done) | ((repeat (first | exact List.Mem.head _ | apply List.Mem.tail)); done))) Try.underlying28 rfl HO.out.1 (by kernel_rfl)) ?_
    refine tkv 2 35 (.agg cf) rfl (yields_own rfl rfl (fun _ h => h) (by (first | ((repeat (first | with_reducible exact List.Mem.head _ | with_reducible apply List.Mem.tail)); done) | ((repeat (first | exact List.Mem.head _ | apply List.Mem.tail)); done))) Try.underlying32 rfl HRF.out.1 (by kernel_rfl)) ?_
    refine rone 1 rfl fun K' hK => ?_
    go_simp
    refine (P2.out _).mono ?_
    rintro e w ⟨rfl, hb⟩
    replace HM := Lib.hid (HM.out.call hb)
    replace HB := HM.out.below
    clear hb
    refine hK.out _ _ (HM.out.sub (by repeat (first | exact List.nil_sublist _ | apply List.Sublist.cons_cons | apply List.Sublist.cons))) (fun hS2 => ?_)
    clear hS hK
    have hS := hS2
    clear hS2
    try simp only [Act.put, List.setIfInBounds_toArray, List.set_cons_zero, List.set_cons_succ]
    refine rone 3 rfl fun K' hK => ?_
    go_simp
    refine (O3.out _).mono ?_
    rintro e w ⟨rfl, hb⟩
    replace HM := Lib.hid (HM.out.call hb)
    replace HB := HM.out.below
    clear hb
    refine hK.out _ _ (HM.out.sub (by repeat (first | exact List.nil_sublist _ | apply List.Sublist.cons_cons | apply List.Sublist.cons))) (fun hS2 => ?_)
    clear hS hK
    have hS := hS2
    clear hS2
    try simp only [Act.put, List.setIfInBounds_toArray, List.set_cons_zero, List.set_cons_succ]
    refine tkv 4 37 (.bool true) rfl (yields_eql rfl rfl rfl (by kernel_rfl) E2.out (by kernel_rfl)) ?_
    refine tk 5 38 ?_
    refine tkv 6 39 (.agg co) rfl (yields_own rfl rfl (fun _ h => h) (by (first | ((repeat (first | with_reducible exact List.Mem.head _ | with_reducible apply List.Mem.tail)); done) | ((repeat (first | exact List.Mem.head _ | apply List.Mem.tail)); done))) Try.underlying28 rfl HO.out.1 (by kernel_rfl)) ?_
    refine tkv 8 41 (.agg cf) rfl (yields_own rfl rfl (fun _ h => h) (by (first | ((repeat (first | with_reducible exact List.Mem.head _ | with_reducible apply List.Mem.tail)); done) | ((repeat (first | exact List.Mem.head _ | apply List.Mem.tail)); done))) Try.underlying28 rfl HF.out.1 (by kernel_rfl)) ?_
    refine rone 7 rfl fun K' hK => ?_
    rw [if_pos (by kernel_rfl)]
    go_simp
    refine (O2.out _).mono ?_
    rintro e w ⟨rfl, hb⟩
    replace HM := Lib.hid (HM.out.call hb)
    replace HB := HM.out.below
    clear hb
    refine hK.out _ _ (HM.out.sub (by repeat (first | exact List.nil_sublist _ | apply List.Sublist.cons_cons | apply List.Sublist.cons))) (fun hS2 => ?_)
    clear hS hK
    have hS := hS2
    clear hS2
    try simp only [Act.put, List.setIfInBounds_toArray, List.set_cons_zero, List.set_cons_succ]
    refine tkv 9 42 (.bool true) rfl (yields_eql rfl rfl rfl (by kernel_rfl) E3.out (by kernel_rfl)) ?_
    refine tk 10 43 ?_
    refine tk 11 44 ?_
    refine tk 12 45 ?_
    refine tk 13 46 ?_
    refine tk 14 47 ?_
    refine tkv 15 48 (.agg cf) rfl (yields_own rfl rfl (fun _ h => h) (by (first | ((repeat (first | with_reducible exact List.Mem.head _ | with_reducible apply List.Mem.tail)); done) | ((repeat (first | exact List.Mem.head _ | apply List.Mem.tail)); done))) Try.underlying28 rfl HF.out.1 (by kernel_rfl)) ?_
    refine tkv 18 51 (.agg cf) rfl (yields_own rfl rfl (fun _ h => h) (by (first | ((repeat (first | with_reducible exact List.Mem.head _ | with_reducible apply List.Mem.tail)); done) | ((repeat (first | exact List.Mem.head _ | apply List.Mem.tail)); done))) Try.underlying32 rfl HRF.out.1 (by kernel_rfl)) ?_
    refine rone 16 rfl fun K' hK => ?_
    rw [if_pos (by kernel_rfl)]
    go_simp
    refine (T1.out _).mono ?_
    rintro e w ⟨rfl, hb⟩
    replace HM := Lib.hid (HM.out.call hb)
    replace HB := HM.out.below
    clear hb
    refine hK.out _ _ (HM.out.sub (by repeat (first | exact List.nil_sublist _ | apply List.Sublist.cons_cons | apply List.Sublist.cons))) (fun hS2 => ?_)
    clear hS hK
    have hS := hS2
    clear hS2
    try simp only [Act.put, List.setIfInBounds_toArray, List.set_cons_zero, List.set_cons_succ]
    refine rone 17 rfl fun K' hK => ?_
    rw [if_pos (by kernel_rfl)]
    go_simp
    refine (P3.out _).mono ?_
    rintro e w ⟨rfl, hb⟩
    replace HM := Lib.hid (HM.out.call hb)
    replace HB := HM.out.below
    clear hb
    refine hK.out _ _ (HM.out.sub (by repeat (first | exact List.nil_sublist _ | apply List.Sublist.cons_cons | apply List.Sublist.cons))) (fun hS2 => ?_)
    clear hS hK
    have hS := hS2
    clear hS2
    try simp only [Act.put, List.setIfInBounds_toArray, List.set_cons_zero, List.set_cons_succ]
    refine rone 19 rfl fun K' hK => ?_
    rw [if_pos (by kernel_rfl)]
    go_simp
    refine (T3.out _).mono ?_
    rintro e w ⟨rfl, hb⟩
    replace HM := Lib.hid (HM.out.call hb)
    replace HB := HM.out.below
    clear hb
    refine hK.out _ _ (HM.out.sub (by repeat (first | exact List.nil_sublist _ | apply List.Sublist.cons_cons | apply List.Sublist.cons))) (fun hS2 => ?_)
    clear hS hK
    have hS := hS2
    clear hS2
    try simp only [Act.put, List.setIfInBounds_toArray, List.set_cons_zero, List.set_cons_succ]
    refine tkv 20 53 (.bool true) rfl (yields_eql rfl rfl rfl (by kernel_rfl) E4.out (by kernel_rfl)) ?_
    refine tk 21 54 ?_
    refine tkv 22 55 (.agg co) rfl (yields_own rfl rfl (fun _ h => h) (by (first | ((repeat (first | with_reducible exact List.Mem.head _ | with_reducible apply List.Mem.tail)); done) | ((repeat (first | exact List.Mem.head _ | apply List.Mem.tail)); done))) Try.underlying28 rfl HO.out.1 (by kernel_rfl)) ?_
    refine tkv 24 57 (.agg cf) rfl (yields_own rfl rfl (fun _ h => h) (by (first | ((repeat (first | with_reducible exact List.Mem.head _ | with_reducible apply List.Mem.tail)); done) | ((repeat (first | exact List.Mem.head _ | apply List.Mem.tail)); done))) Try.underlying28 rfl HF.out.1 (by kernel_rfl)) ?_
    refine rone 23 rfl fun K' hK => ?_
    rw [if_pos (by kernel_rfl)]
    go_simp
    refine (T2.out _).mono ?_
    rintro e w ⟨rfl, hb⟩
    replace HM := Lib.hid (HM.out.call hb)
    replace HB := HM.out.below
    clear hb
    refine hK.out _ _ (HM.out.sub (by repeat (first | exact List.nil_sublist _ | apply List.Sublist.cons_cons | apply List.Sublist.cons))) (fun hS2 => ?_)
    clear hS hK
    have hS := hS2
    clear hS2
    try simp only [Act.put, List.setIfInBounds_toArray, List.set_cons_zero, List.set_cons_succ]
    refine rone 25 rfl fun K' hK => ?_
    rw [if_pos (by kernel_rfl)]
    go_simp
    refine (T1.out _).mono ?_
    rintro e w ⟨rfl, hb⟩
    replace HM := Lib.hid (HM.out.call hb)
    replace HB := HM.out.below
    clear hb
    refine hK.out _ _ (HM.out.sub (by repeat (first | exact List.nil_sublist _ | apply List.Sublist.cons_cons | apply List.Sublist.cons))) (fun hS2 => ?_)
    clear hS hK
    have hS := hS2
    clear hS2
    try simp only [Act.put, List.setIfInBounds_toArray, List.set_cons_zero, List.set_cons_succ]
    refine tkv 26 59 (.bool true) rfl (yields_eql rfl rfl rfl (by kernel_rfl) E5.out (by kernel_rfl)) ?_
    refine tk 27 60 ?_
    refine tk 28 61 ?_
    refine tk 29 62 ?_
    refine tk 30 63 ?_
    refine rone 31 rfl fun K' hK => ?_
    rw [if_pos (by kernel_rfl)]
    go_simp
    refine (alive_any _).mono ?_
    rintro e w ⟨rfl, hb⟩
    replace HM := Lib.hid (HM.out.call hb)
    replace HB := HM.out.below
    clear hb
    refine hK.out _ _ (HM.out.sub (by repeat (first | exact List.nil_sublist _ | apply List.Sublist.cons_cons | apply List.Sublist.cons))) (fun hS2 => ?_)
    clear hS hK
    have hS := hS2
    clear hS2
    try simp only [Act.put, List.setIfInBounds_toArray, List.set_cons_zero, List.set_cons_succ]
    refine tk 32 65 ?_
    refine tk 33 2 ?_
    refine wpAnyH_done (by kernel_rfl) ?_ _
    clear hS
    go_wp2_with fail
    go_ret
    exact ⟨rfl, HB⟩
  · skip
    try simp only [Act.put, List.setIfInBounds_toArray, List.set_cons_zero, List.set_cons_succ]
    refine wp_region_held_drew (S := fun w' => Mem w0 w' [Ent.blk b7 co 28, Ent.blk b5 cf 32, Ent.blk b3 cf 28]) (by kernel_rfl) (HM.out.drew.sub (by repeat (first | exact List.nil_sublist _ | apply List.Sublist.cons_cons | apply List.Sublist.cons))) (fun hS => ?_)
    replace HM := Lib.hid HM.out.drew
    replace HB := HM.out.below
    refine tkv 0 33 (.agg co) rfl (yields_own rfl rfl (fun _ h => h) (by (first | ((repeat (first | with_reducible exact List.Mem.head _ | with_reducible apply List.Mem.tail)); done) | ((repeat (first | exact List.Mem.head _ | apply List.Mem.tail)); done))) Try.underlying28 rfl HO.out.1 (by kernel_rfl)) ?_
    refine tkv 2 35 (.agg cf) rfl (yields_own rfl rfl (fun _ h => h) (by (first | ((repeat (first | with_reducible exact List.Mem.head _ | with_reducible apply List.Mem.tail)); done) | ((repeat (first | exact List.Mem.head _ | apply List.Mem.tail)); done))) Try.underlying32 rfl HRF.out.1 (by kernel_rfl)) ?_
    refine rone 1 rfl fun K' hK => ?_
    go_simp
    refine (P2.out _).mono ?_
    rintro e w ⟨rfl, hb⟩
    replace HM := Lib.hid (HM.out.call hb)
    replace HB := HM.out.below
    clear hb
    refine hK.out _ _ (HM.out.sub (by repeat (first | exact List.nil_sublist _ | apply List.Sublist.cons_cons | apply List.Sublist.cons))) (fun hS2 => ?_)
    clear hS hK
    have hS := hS2
    clear hS2
    try simp only [Act.put, List.setIfInBounds_toArray, List.set_cons_zero, List.set_cons_succ]
    refine rone 3 rfl fun K' hK => ?_
    go_simp
    refine (O3.out _).mono ?_
    rintro e w ⟨rfl, hb⟩
    replace HM := Lib.hid (HM.out.call hb)
    replace HB := HM.out.below
    clear hb
    refine hK.out _ _ (HM.out.sub (by repeat (first | exact List.nil_sublist _ | apply List.Sublist.cons_cons | apply List.Sublist.cons))) (fun hS2 => ?_)
    clear hS hK
    have hS := hS2
    clear hS2
    try simp only [Act.put, List.setIfInBounds_toArray, List.set_cons_zero, List.set_cons_succ]
    refine tkv 4 37 (.bool true) rfl (yields_eql rfl rfl rfl (by kernel_rfl) E2.out (by kernel_rfl)) ?_
    refine tk 5 38 ?_
    refine tkv 6 39 (.agg co) rfl (yields_own rfl rfl (fun _ h => h) (by (first | ((repeat (first | with_reducible exact List.Mem.head _ | with_reducible apply List.Mem.tail)); done) | ((repeat (first | exact List.Mem.head _ | apply List.Mem.tail)); done))) Try.underlying28 rfl HO.out.1 (by kernel_rfl)) ?_
    refine tkv 8 41 (.agg cf) rfl (yields_own rfl rfl (fun _ h => h) (by (first | ((repeat (first | with_reducible exact List.Mem.head _ | with_reducible apply List.Mem.tail)); done) | ((repeat (first | exact List.Mem.head _ | apply List.Mem.tail)); done))) Try.underlying28 rfl HF.out.1 (by kernel_rfl)) ?_
    refine rone 7 rfl fun K' hK => ?_
    rw [if_pos (by kernel_rfl)]
    go_simp
    refine (O2.out _).mono ?_
    rintro e w ⟨rfl, hb⟩
    replace HM := Lib.hid (HM.out.call hb)
    replace HB := HM.out.below
    clear hb
    refine hK.out _ _ (HM.out.sub (by repeat (first | exact List.nil_sublist _ | apply List.Sublist.cons_cons | apply List.Sublist.cons))) (fun hS2 => ?_)
    clear hS hK
    have hS := hS2
    clear hS2
    try simp only [Act.put, List.setIfInBounds_toArray, List.set_cons_zero, List.set_cons_succ]
    refine tkv 9 42 (.bool true) rfl (yields_eql rfl rfl rfl (by kernel_rfl) E3.out (by kernel_rfl)) ?_
    refine tk 10 43 ?_
    refine tk 11 44 ?_
    refine tk 12 45 ?_
    refine tk 13 46 ?_
    refine tk 14 47 ?_
    refine tku 15 48 ?_
    refine tku 18 51 ?_
    refine rone 16 rfl fun K' hK => ?_
    refine skip_if (by kernel_rfl) ?_
    refine hK.out _ _ (HM.out.sub (by repeat (first | exact List.nil_sublist _ | apply List.Sublist.cons_cons | apply List.Sublist.cons))) (fun hS2 => ?_)
    clear hS hK
    have hS := hS2
    clear hS2
    try simp only [Act.put, List.setIfInBounds_toArray, List.set_cons_zero, List.set_cons_succ]
    refine rone 17 rfl fun K' hK => ?_
    refine skip_if (by kernel_rfl) ?_
    refine hK.out _ _ (HM.out.sub (by repeat (first | exact List.nil_sublist _ | apply List.Sublist.cons_cons | apply List.Sublist.cons))) (fun hS2 => ?_)
    clear hS hK
    have hS := hS2
    clear hS2
    try simp only [Act.put, List.setIfInBounds_toArray, List.set_cons_zero, List.set_cons_succ]
    refine rone 19 rfl fun K' hK => ?_
    refine skip_if (by kernel_rfl) ?_
    refine hK.out _ _ (HM.out.sub (by repeat (first | exact List.nil_sublist _ | apply List.Sublist.cons_cons | apply List.Sublist.cons))) (fun hS2 => ?_)
    clear hS hK
    have hS := hS2
    clear hS2
    try simp only [Act.put, List.setIfInBounds_toArray, List.set_cons_zero, List.set_cons_succ]
    refine tku 20 53 ?_
    refine tku 21 54 ?_
    refine tku 22 55 ?_
    refine tku 24 57 ?_
    refine rone 23 rfl fun K' hK => ?_
    refine skip_if (by kernel_rfl) ?_
    refine hK.out _ _ (HM.out.sub (by repeat (first | exact List.nil_sublist _ | apply List.Sublist.cons_cons | apply List.Sublist.cons))) (fun hS2 => ?_)
    clear hS hK
    have hS := hS2
    clear hS2
    try simp only [Act.put, List.setIfInBounds_toArray, List.set_cons_zero, List.set_cons_succ]
    refine rone 25 rfl fun K' hK => ?_
    refine skip_if (by kernel_rfl) ?_
    refine hK.out _ _ (HM.out.sub (by repeat (first | exact List.nil_sublist _ | apply List.Sublist.cons_cons | apply List.Sublist.cons))) (fun hS2 => ?_)
    clear hS hK
    have hS := hS2
    clear hS2
    try simp only [Act.put, List.setIfInBounds_toArray, List.set_cons_zero, List.set_cons_succ]
    refine tku 26 59 ?_
    refine tku 27 60 ?_
    refine tk 28 61 ?_
    refine tk 29 62 ?_
    refine tk 30 63 ?_
    refine rone 31 rfl fun K' hK => ?_
    rw [if_pos (by kernel_rfl)]
    go_simp
    refine (alive_any _).mono ?_
    rintro e w ⟨rfl, hb⟩
    replace HM := Lib.hid (HM.out.call hb)
    replace HB := HM.out.below
    clear hb
    refine hK.out _ _ (HM.out.sub (by repeat (first | exact List.nil_sublist _ | apply List.Sublist.cons_cons | apply List.Sublist.cons))) (fun hS2 => ?_)
    clear hS hK
    have hS := hS2
    clear hS2
    try simp only [Act.put, List.setIfInBounds_toArray, List.set_cons_zero, List.set_cons_succ]
    refine tk 32 65 ?_
    refine tk 33 2 ?_
    refine wpAnyH_done (by kernel_rfl) ?_ _
    clear hS
    go_wp2_with fail
    go_ret
    exact ⟨rfl, HB⟩
end
theorem flowOf_walk (A : Option Addr) (c : Nat) (l : List UInt8) (w0 : World) (hr : RB w0 (.slice A l.length c) l) :
    Calls Try.prog 3 #[.slice A l.length c] w0 fun e w' => e = .returned (.bool true) ∧ Below w0.heap.size w0 w' := by
  by_cases h3 : (3000 : Int) < (l.length : Nat)
  · have HM := Lib.hid (Mem.start w0)
    have HB := HM.out.below
    go_enter Try.func3, Try.ntmps3
    go_wp2_with fail
    refine (alive_any _).mono ?_
    rintro e w ⟨rfl, hb⟩
    replace HM := Lib.hid (HM.out.call hb)
    replace HB := HM.out.below
    clear hb
    go_wp2_with fail
    go_ret
    exact ⟨rfl, HB⟩
  · have hT := talk_other (ofF l)
    exact of_law w0 hr h3 (Lib.hid (cellsFlow (ofF l))) (Lib.hid (cellsRFlow (ofF l))) (Lib.hid (cellsFlow (otherF (ofF l)))) (Lib.hid (cellsRFlow (otherF (ofF l)))) (Lib.hid fun w h => of_any A c l w h) (Lib.hid fun w h => refOf_any A c l w h)
      (Lib.hid (other_any (ofF l))) (Lib.hid (by have := other_any (otherF (ofF l)); rwa [other_other] at this)) (Lib.hid (refOther_any (ofF l))) (Lib.hid (plain_any (ofF l))) (Lib.hid (plain_any (otherF (ofF l)))) (Lib.hid (plain_any (talkF (ofF l))))
      (Lib.hid (talk_any (ofF l))) (Lib.hid (by have := talk_any (otherF (ofF l)); rwa [hT] at this)) (Lib.hid (refTalk_any (ofF l))) (Lib.hid (self_eq (eq_rflow _ _))) (Lib.hid (self_eq (eq_rflow _ _))) (Lib.hid (self_eq (eq_flow _ _))) (Lib.hid (self_eq (eq_rflow _ _))) (Lib.hid (self_eq (eq_flow _ _)))
end Go.Proofs.Ytkfjobanbnokoaa.Fw
