/- Layer 54: a law's argument that is a flow, opened; FlowOrder's walk. -/
import Derived.Test.YtkfjobanbnokoaaVu
import Derived.Test.YtkfjobanbnokoaaHo
set_option linter.unusedSimpArgs false
set_option linter.unusedVariables false
set_option linter.unusedSectionVars false
set_option maxRecDepth 100000
namespace Go.Proofs.Ytkfjobanbnokoaa.Fw
open Go.RowKit Go.ChangeShapes Go.WideShapes Go.Proofs.YtkfjobanbnokoaaW.PrintWords Go.Proofs.Ytkfjobanbnokoaa.Bs Go.Proofs.Ytkfjobanbnokoaa.Gm
open Go.Proofs.Ytkfjobanbnokoaa.Av (AV)

section
variable {H : Type} {enc : TypeId × Value → H} {W : World} {base : Nat} {spare : Nat → Bool} {held : Bool} {fuel : Nat} {v : Value} {d : DataW H} {ps : List MemPlace}
theorem i64_of {z : Int} (h0 : -9223372036854775808 ≤ z) (h1 : z ≤ 9223372036854775807) : ∃ x : Int64, x.toInt = z := ⟨Int64.ofInt z, by rw [Int64.toInt_ofInt_of_le (by simpa using h0) (by have : (2 : Int) ^ 63 = 9223372036854775808 := rfl; omega)]⟩
theorem b16_of {l : List UInt8} (h : l.length = 16) : ∃ b : B16, b.toList = l := ⟨b16 l, b16_list h⟩
theorem adr_of {cs : List Value} {x : DataW H × List MemPlace} (h : DataW.trod enc Try.prog W base spare held fuel 26 cs = some x) : ∃ a : Adr, cs = (adrC a).toList := by
  obtain ⟨n, l, e, ⟨h0, h1⟩, hl⟩ := Hd.cells_addr h
  obtain ⟨x, hx⟩ := i64_of h0 h1
  obtain ⟨b, hb⟩ := b16_of hl
  refine ⟨⟨x, b⟩, ?_⟩
  rw [e, adrC_AV, hx, hb]
theorem int_of {cs : List Value} {x : DataW H × List MemPlace} (h : DataW.trod enc Try.prog W base spare held fuel 3 cs = some x) : ∃ n : Int64, cs = [iV n] := by
  obtain ⟨n, e, h0, h1⟩ := Hd.int_cell h
  obtain ⟨x, hx⟩ := i64_of h0 h1
  exact ⟨x, by unfold iV; rw [e, hx]⟩
theorem cells_flow {cs : List Value} {x : DataW H × List MemPlace} (h : DataW.trod enc Try.prog W base spare held fuel 28 cs = some x) : ∃ f : Flow, cs = (flowC f).toList := by
  obtain ⟨xs, n, _, _, hcl, hxl, hf⟩ := DataW.trod_struct Try.underlying28 h
  rw [show Try.prog.cellsOf 28 = 38 by kernel_rfl] at hcl
  have hxl' : xs.length = 6 := hxl
  obtain ⟨y0, h0⟩ := Mv.fld hf 0 _ rfl 3 0 1 rfl rfl (by kernel_rfl) (by omega)
  obtain ⟨y1, h1⟩ := Mv.fld hf 1 _ rfl 3 1 1 rfl rfl (by kernel_rfl) (by omega)
  obtain ⟨y2, h2⟩ := Mv.fld hf 2 _ rfl 26 2 17 rfl rfl (by kernel_rfl) (by omega)
  obtain ⟨y3, h3⟩ := Mv.fld hf 3 _ rfl 26 19 17 rfl rfl (by kernel_rfl) (by omega)
  obtain ⟨y4, h4⟩ := Mv.fld hf 4 _ rfl 3 36 1 rfl rfl (by kernel_rfl) (by omega)
  obtain ⟨y5, h5⟩ := Mv.fld hf 5 _ rfl 3 37 1 rfl rfl (by kernel_rfl) (by omega)
  obtain ⟨n0, e0⟩ := int_of h0
  obtain ⟨n1, e1⟩ := int_of h1
  obtain ⟨a2, e2⟩ := adr_of h2
  obtain ⟨a3, e3⟩ := adr_of h3
  obtain ⟨n4, e4⟩ := int_of h4
  obtain ⟨n5, e5⟩ := int_of h5
  refine ⟨⟨n0, n1, a2, a3, n4, n5⟩, ?_⟩
  have hc := Mv.cut2 cs 1 (1 + (17 + (17 + (1 + 1)))) (by omega)
  rw [Mv.cut3, Mv.cut3, Mv.cut3, Mv.cut3, e0, e1, e2, e3, e4, e5] at hc
  rw [flow_list]
  exact hc
theorem op_flow {r : Reach} {b2 : Nat} (hv : Value.okWide Try.prog W r b2 28 v) (h : DataW.Trod enc Try.prog W base spare held 28 v d ps) : ∃ f : Flow, v = .agg (flowC f) := by
  obtain ⟨cs, rfl, hsz⟩ := okWide_struct Try.underlying28 hv
  obtain ⟨fuel, hf⟩ := h
  have hf' : DataW.trod enc Try.prog W base spare held fuel 28 cs.toList = some (d, ps) := by simpa [Value.cells] using hf
  obtain ⟨f, e⟩ := cells_flow hf'
  exact ⟨f, by rw [Array.toList_inj.1 e]⟩
end
theorem refRight_adr (a : Adr) (w : World) : Calls Try.prog 15 #[.agg (adrC a)] w fun e w' => e = .returned (.bool (Ad.rightA a.v.toInt a.b.toList)) ∧ Below w.heap.size w w' := by
  rw [adrC_AV]
  exact Ad.refRight_any _ _ w (by simp)
abbrev Fb1 (F : FuncId) (v : Array Value) (r : Bool) : Prop := ∀ w0, Calls Try.prog F #[.agg v] w0 fun e w' => e = .returned (.bool r) ∧ Below w0.heap.size w0 w'
abbrev Fb2 (F : FuncId) (v u : Array Value) (r : Bool) : Prop := ∀ w0, Calls Try.prog F #[.agg v, .agg u] w0 fun e w' => e = .returned (.bool r) ∧ Below w0.heap.size w0 w'
section
variable {cf cg ck s1 d1 s2 d2 : Array Value} {r1 r2 r3 r4 lf lg dd : Bool}
set_option maxHeartbeats 8000000 in
theorem order_law (w0 : World) (HF : Hid (Cells 28 cf)) (HG : Hid (Cells 28 cg))
    (PT1 : Hid (PartOf 26 cf 2 s1)) (PT2 : Hid (PartOf 26 cf 19 d1)) (PT3 : Hid (PartOf 26 cg 2 s2)) (PT4 : Hid (PartOf 26 cg 19 d2))
    (R1 : Hid (Fb1 15 s1 r1)) (R2 : Hid (Fb1 15 d1 r2)) (R3 : Hid (Fb1 15 s2 r3)) (R4 : Hid (Fb1 15 d2 r4))
    (L1 : Hid (Fb2 16 cf cg lf)) (L2 : Hid (Fb2 16 cg cf lg)) (L3 : Hid (Fb2 17 cf cg lf)) (L4 : Hid (Fb2 17 cg cf lg))
    (P1 : Hid (Fn1 10 cf cf)) (P2 : Hid (Fn1 10 cg cg)) (P3 : Hid (Fn1 10 ck ck))
    (T1 : Hid (Fn1 13 cf ck)) (T3 : Hid (Fn1 14 cf ck)) (hd : (lf != lg) = dd) (E1 : Hid (EqlOf 28 cf cg (!dd))) (E4 : Hid (EqlOf 32 ck ck true)) :
    Calls Try.prog 4 #[.agg cf, .agg cg] w0 fun e w' => e = .returned (.bool true) ∧ Below w0.heap.size w0 w' := by
  cases r1
  · have HM := Lib.hid (Mem.start w0)
    have HB := HM.out.below
    go_enter Try.func4, Try.ntmps4
    go_wp2_with (first | (refine m_rd ?_; (try simp only [Act.put, List.setIfInBounds_toArray, List.set_cons_zero, List.set_cons_succ])) | (refine m_wr ?_; clear HM HB; intro w b HM HB; (try simp only [Act.put, List.setIfInBounds_toArray, List.set_cons_zero, List.set_cons_succ]); try clear b) | fail)
    refine (R1.out _).mono ?_
    rintro e w ⟨rfl, hb⟩
    replace HM := Lib.hid (HM.out.call hb)
    replace HB := HM.out.below
    clear hb
    go_wp2_with (first | (refine m_rd ?_; (try simp only [Act.put, List.setIfInBounds_toArray, List.set_cons_zero, List.set_cons_succ])) | (refine m_wr ?_; clear HM HB; intro w b HM HB; (try simp only [Act.put, List.setIfInBounds_toArray, List.set_cons_zero, List.set_cons_succ]); try clear b) | fail)
    refine (alive_any _).mono ?_
    rintro e w ⟨rfl, hb⟩
    replace HM := Lib.hid (HM.out.call hb)
    replace HB := HM.out.below
    clear hb
    go_wp2_with fail
    go_ret
    exact ⟨rfl, HB⟩
  cases r2
  · have HM := Lib.hid (Mem.start w0)
    have HB := HM.out.below
    go_enter Try.func4, Try.ntmps4
    go_wp2_with (first | (refine m_rd ?_; (try simp only [Act.put, List.setIfInBounds_toArray, List.set_cons_zero, List.set_cons_succ])) | (refine m_wr ?_; clear HM HB; intro w b HM HB; (try simp only [Act.put, List.setIfInBounds_toArray, List.set_cons_zero, List.set_cons_succ]); try clear b) | fail)
    refine (R1.out _).mono ?_
    rintro e w ⟨rfl, hb⟩
    replace HM := Lib.hid (HM.out.call hb)
    replace HB := HM.out.below
    clear hb
    go_wp2_with (first | (refine m_rd ?_; (try simp only [Act.put, List.setIfInBounds_toArray, List.set_cons_zero, List.set_cons_succ])) | (refine m_wr ?_; clear HM HB; intro w b HM HB; (try simp only [Act.put, List.setIfInBounds_toArray, List.set_cons_zero, List.set_cons_succ]); try clear b) | fail)
    refine (R2.out _).mono ?_
    rintro e w ⟨rfl, hb⟩
    replace HM := Lib.hid (HM.out.call hb)
    replace HB := HM.out.below
    clear hb
    go_wp2_with (first | (refine m_rd ?_; (try simp only [Act.put, List.setIfInBounds_toArray, List.set_cons_zero, List.set_cons_succ])) | (refine m_wr ?_; clear HM HB; intro w b HM HB; (try simp only [Act.put, List.setIfInBounds_toArray, List.set_cons_zero, List.set_cons_succ]); try clear b) | fail)
    refine (alive_any _).mono ?_
    rintro e w ⟨rfl, hb⟩
    replace HM := Lib.hid (HM.out.call hb)
    replace HB := HM.out.below
    clear hb
    go_wp2_with fail
    go_ret
    exact ⟨rfl, HB⟩
  cases r3
  · have HM := Lib.hid (Mem.start w0)
    have HB := HM.out.below
    go_enter Try.func4, Try.ntmps4
    go_wp2_with (first | (refine m_rd ?_; (try simp only [Act.put, List.setIfInBounds_toArray, List.set_cons_zero, List.set_cons_succ])) | (refine m_wr ?_; clear HM HB; intro w b HM HB; (try simp only [Act.put, List.setIfInBounds_toArray, List.set_cons_zero, List.set_cons_succ]); try clear b) | fail)
    refine (R1.out _).mono ?_
    rintro e w ⟨rfl, hb⟩
    replace HM := Lib.hid (HM.out.call hb)
    replace HB := HM.out.below
    clear hb
    go_wp2_with (first | (refine m_rd ?_; (try simp only [Act.put, List.setIfInBounds_toArray, List.set_cons_zero, List.set_cons_succ])) | (refine m_wr ?_; clear HM HB; intro w b HM HB; (try simp only [Act.put, List.setIfInBounds_toArray, List.set_cons_zero, List.set_cons_succ]); try clear b) | fail)
    refine (R2.out _).mono ?_
    rintro e w ⟨rfl, hb⟩
    replace HM := Lib.hid (HM.out.call hb)
    replace HB := HM.out.below
    clear hb
    go_wp2_with (first | (refine m_rd ?_; (try simp only [Act.put, List.setIfInBounds_toArray, List.set_cons_zero, List.set_cons_succ])) | (refine m_wr ?_; clear HM HB; intro w b HM HB; (try simp only [Act.put, List.setIfInBounds_toArray, List.set_cons_zero, List.set_cons_succ]); try clear b) | fail)
    refine (R3.out _).mono ?_
    rintro e w ⟨rfl, hb⟩
    replace HM := Lib.hid (HM.out.call hb)
    replace HB := HM.out.below
    clear hb
    go_wp2_with (first | (refine m_rd ?_; (try simp only [Act.put, List.setIfInBounds_toArray, List.set_cons_zero, List.set_cons_succ])) | (refine m_wr ?_; clear HM HB; intro w b HM HB; (try simp only [Act.put, List.setIfInBounds_toArray, List.set_cons_zero, List.set_cons_succ]); try clear b) | fail)
    refine (alive_any _).mono ?_
    rintro e w ⟨rfl, hb⟩
    replace HM := Lib.hid (HM.out.call hb)
    replace HB := HM.out.below
    clear hb
    go_wp2_with fail
    go_ret
    exact ⟨rfl, HB⟩
  cases r4
  · have HM := Lib.hid (Mem.start w0)
    have HB := HM.out.below
    go_enter Try.func4, Try.ntmps4
    go_wp2_with (first | (refine m_rd ?_; (try simp only [Act.put, List.setIfInBounds_toArray, List.set_cons_zero, List.set_cons_succ])) | (refine m_wr ?_; clear HM HB; intro w b HM HB; (try simp only [Act.put, List.setIfInBounds_toArray, List.set_cons_zero, List.set_cons_succ]); try clear b) | fail)
    refine (R1.out _).mono ?_
    rintro e w ⟨rfl, hb⟩
    replace HM := Lib.hid (HM.out.call hb)
    replace HB := HM.out.below
    clear hb
    go_wp2_with (first | (refine m_rd ?_; (try simp only [Act.put, List.setIfInBounds_toArray, List.set_cons_zero, List.set_cons_succ])) | (refine m_wr ?_; clear HM HB; intro w b HM HB; (try simp only [Act.put, List.setIfInBounds_toArray, List.set_cons_zero, List.set_cons_succ]); try clear b) | fail)
    refine (R2.out _).mono ?_
    rintro e w ⟨rfl, hb⟩
    replace HM := Lib.hid (HM.out.call hb)
    replace HB := HM.out.below
    clear hb
    go_wp2_with (first | (refine m_rd ?_; (try simp only [Act.put, List.setIfInBounds_toArray, List.set_cons_zero, List.set_cons_succ])) | (refine m_wr ?_; clear HM HB; intro w b HM HB; (try simp only [Act.put, List.setIfInBounds_toArray, List.set_cons_zero, List.set_cons_succ]); try clear b) | fail)
    refine (R3.out _).mono ?_
    rintro e w ⟨rfl, hb⟩
    replace HM := Lib.hid (HM.out.call hb)
    replace HB := HM.out.below
    clear hb
    go_wp2_with (first | (refine m_rd ?_; (try simp only [Act.put, List.setIfInBounds_toArray, List.set_cons_zero, List.set_cons_succ])) | (refine m_wr ?_; clear HM HB; intro w b HM HB; (try simp only [Act.put, List.setIfInBounds_toArray, List.set_cons_zero, List.set_cons_succ]); try clear b) | fail)
    refine (R4.out _).mono ?_
    rintro e w ⟨rfl, hb⟩
    replace HM := Lib.hid (HM.out.call hb)
    replace HB := HM.out.below
    clear hb
    go_wp2_with (first | (refine m_rd ?_; (try simp only [Act.put, List.setIfInBounds_toArray, List.set_cons_zero, List.set_cons_succ])) | (refine m_wr ?_; clear HM HB; intro w b HM HB; (try simp only [Act.put, List.setIfInBounds_toArray, List.set_cons_zero, List.set_cons_succ]); try clear b) | fail)
    refine (alive_any _).mono ?_
    rintro e w ⟨rfl, hb⟩
    replace HM := Lib.hid (HM.out.call hb)
    replace HB := HM.out.below
    clear hb
    go_wp2_with fail
    go_ret
    exact ⟨rfl, HB⟩
  have hb : (lf == lf) = true := by simp
  have hb2 : (lg == lg) = true := by simp
  have HD := Lib.hid hd
  clear hd
  have HM := Lib.hid (Mem.start w0)
  have HB := HM.out.below
  go_enter Try.func4, Try.ntmps4
  go_wp2_with (first | (refine m_wr ?_ HM (Wr.box rfl rfl HF.out) (wanted_none rfl); clear HM HB; intro w bf HM HB; (try simp only [Act.put, List.setIfInBounds_toArray, List.set_cons_zero, List.set_cons_succ])) | (refine m_wr ?_ HM (Wr.box rfl rfl HG.out) (wanted_none rfl); clear HM HB; intro w bg HM HB; (try simp only [Act.put, List.setIfInBounds_toArray, List.set_cons_zero, List.set_cons_succ])) | (refine m_rd ?_; (try simp only [Act.put, List.setIfInBounds_toArray, List.set_cons_zero, List.set_cons_succ])) | (refine m_wr ?_; clear HM HB; intro w b HM HB; (try simp only [Act.put, List.setIfInBounds_toArray, List.set_cons_zero, List.set_cons_succ]); try clear b) | fail)
  refine (R1.out _).mono ?_
  rintro e w ⟨rfl, hb⟩
  replace HM := Lib.hid (HM.out.call hb)
  replace HB := HM.out.below
  clear hb
  go_wp2_with (first | (refine m_rd ?_; (try simp only [Act.put, List.setIfInBounds_toArray, List.set_cons_zero, List.set_cons_succ])) | (refine m_wr ?_; clear HM HB; intro w b HM HB; (try simp only [Act.put, List.setIfInBounds_toArray, List.set_cons_zero, List.set_cons_succ]); try clear b) | fail)
  refine (R2.out _).mono ?_
  rintro e w ⟨rfl, hb⟩
  replace HM := Lib.hid (HM.out.call hb)
  replace HB := HM.out.below
  clear hb
  go_wp2_with (first | (refine m_rd ?_; (try simp only [Act.put, List.setIfInBounds_toArray, List.set_cons_zero, List.set_cons_succ])) | (refine m_wr ?_; clear HM HB; intro w b HM HB; (try simp only [Act.put, List.setIfInBounds_toArray, List.set_cons_zero, List.set_cons_succ]); try clear b) | fail)
  refine (R3.out _).mono ?_
  rintro e w ⟨rfl, hb⟩
  replace HM := Lib.hid (HM.out.call hb)
  replace HB := HM.out.below
  clear hb
  go_wp2_with (first | (refine m_rd ?_; (try simp only [Act.put, List.setIfInBounds_toArray, List.set_cons_zero, List.set_cons_succ])) | (refine m_wr ?_; clear HM HB; intro w b HM HB; (try simp only [Act.put, List.setIfInBounds_toArray, List.set_cons_zero, List.set_cons_succ]); try clear b) | fail)
  refine (R4.out _).mono ?_
  rintro e w ⟨rfl, hb⟩
  replace HM := Lib.hid (HM.out.call hb)
  replace HB := HM.out.below
  clear hb
  go_wp2_with (first | (refine m_rd ?_; (try simp only [Act.put, List.setIfInBounds_toArray, List.set_cons_zero, List.set_cons_succ])) | (refine m_wr ?_; clear HM HB; intro w b HM HB; (try simp only [Act.put, List.setIfInBounds_toArray, List.set_cons_zero, List.set_cons_succ]); try clear b) | fail)
  refine (L1.out _).mono ?_
  rintro e w ⟨rfl, hb⟩
  replace HM := Lib.hid (HM.out.call hb)
  replace HB := HM.out.below
  clear hb
  go_wp2_with (first | (refine m_rd ?_; (try simp only [Act.put, List.setIfInBounds_toArray, List.set_cons_zero, List.set_cons_succ])) | (refine m_wr ?_; clear HM HB; intro w b HM HB; (try simp only [Act.put, List.setIfInBounds_toArray, List.set_cons_zero, List.set_cons_succ]); try clear b) | fail)
  refine (L2.out _).mono ?_
  rintro e w ⟨rfl, hb⟩
  replace HM := Lib.hid (HM.out.call hb)
  replace HB := HM.out.below
  clear hb
  go_wp2_with (first | (refine m_rd ?_; (try simp only [Act.put, List.setIfInBounds_toArray, List.set_cons_zero, List.set_cons_succ])) | (refine m_wr ?_; clear HM HB; intro w b HM HB; (try simp only [Act.put, List.setIfInBounds_toArray, List.set_cons_zero, List.set_cons_succ]); try clear b) | fail)
  try simp only [Act.put, List.setIfInBounds_toArray, List.set_cons_zero, List.set_cons_succ]
  refine wp_region_held_drew (S := fun w' => Mem w0 w' [Ent.blk bg cg 28, Ent.blk bf cf 28]) (by kernel_rfl) (HM.out.drew.sub (by repeat (first | exact List.nil_sublist _ | apply List.Sublist.cons_cons | apply List.Sublist.cons))) (fun hS => ?_)
  replace HM := Lib.hid HM.out.drew
  replace HB := HM.out.below
  refine tk 0 36 ?_
  refine tkv 1 37 (.agg cf) rfl (yields_own rfl rfl (fun _ h => h) (by (first | ((repeat (first | with_reducible exact List.Mem.head _ | with_reducible apply List.Mem.tail)); done) | ((repeat (first | exact List.Mem.head _ | apply List.Mem.tail)); done))) Try.underlying28 rfl HF.out.1 (by kernel_rfl)) ?_
  refine tkv 3 39 (.agg cg) rfl (yields_own rfl rfl (fun _ h => h) (by (first | ((repeat (first | with_reducible exact List.Mem.head _ | with_reducible apply List.Mem.tail)); done) | ((repeat (first | exact List.Mem.head _ | apply List.Mem.tail)); done))) Try.underlying28 rfl HG.out.1 (by kernel_rfl)) ?_
  refine rone 2 rfl fun K' hK => ?_
  go_simp
  refine (P1.out _).mono ?_
  rintro e w ⟨rfl, hb⟩
  replace HM := Lib.hid (HM.out.call hb)
  replace HB := HM.out.below
  clear hb
  refine hK.out _ _ (HM.out.sub (by repeat (first | exact List.nil_sublist _ | apply List.Sublist.cons_cons | apply List.Sublist.cons))) (fun hS2 => ?_)
  clear hS hK
  have hS := hS2
  clear hS2
  try simp only [Act.put, List.setIfInBounds_toArray, List.set_cons_zero, List.set_cons_succ]
  refine rone 4 rfl fun K' hK => ?_
  go_simp
  refine (P2.out _).mono ?_
  rintro e w ⟨rfl, hb⟩
  replace HM := Lib.hid (HM.out.call hb)
  replace HB := HM.out.below
  clear hb
  refine hK.out _ _ (HM.out.sub (by repeat (first | exact List.nil_sublist _ | apply List.Sublist.cons_cons | apply List.Sublist.cons))) (fun hS2 => ?_)
  clear hS hK
  have hS := hS2
  clear hS2
  try simp only [Act.put, List.setIfInBounds_toArray, List.set_cons_zero, List.set_cons_succ]
  refine rone 5 rfl fun K' hK => ?_
  go_simp
  refine (L3.out _).mono ?_
  rintro e w ⟨rfl, hb⟩
  replace HM := Lib.hid (HM.out.call hb)
  replace HB := HM.out.below
  clear hb
  refine hK.out _ _ (HM.out.sub (by repeat (first | exact List.nil_sublist _ | apply List.Sublist.cons_cons | apply List.Sublist.cons))) (fun hS2 => ?_)
  clear hS hK
  have hS := hS2
  clear hS2
  try simp only [Act.put, List.setIfInBounds_toArray, List.set_cons_zero, List.set_cons_succ]
  refine tkv 6 42 (.bool true) rfl (.inl ⟨by kernel_rfl, fun w' hw => by go_simp⟩) ?_
  refine tk 7 43 ?_
  refine tk 8 44 ?_
  refine tkv 9 45 (.agg cg) rfl (yields_own rfl rfl (fun _ h => h) (by (first | ((repeat (first | with_reducible exact List.Mem.head _ | with_reducible apply List.Mem.tail)); done) | ((repeat (first | exact List.Mem.head _ | apply List.Mem.tail)); done))) Try.underlying28 rfl HG.out.1 (by kernel_rfl)) ?_
  refine tkv 11 47 (.agg cf) rfl (yields_own rfl rfl (fun _ h => h) (by (first | ((repeat (first | with_reducible exact List.Mem.head _ | with_reducible apply List.Mem.tail)); done) | ((repeat (first | exact List.Mem.head _ | apply List.Mem.tail)); done))) Try.underlying28 rfl HF.out.1 (by kernel_rfl)) ?_
  refine rone 10 rfl fun K' hK => ?_
  rw [if_pos (by kernel_rfl)]
  go_simp
  refine (P2.out _).mono ?_
  rintro e w ⟨rfl, hb⟩
  replace HM := Lib.hid (HM.out.call hb)
  replace HB := HM.out.below
  clear hb
  refine hK.out _ _ (HM.out.sub (by repeat (first | exact List.nil_sublist _ | apply List.Sublist.cons_cons | apply List.Sublist.cons))) (fun hS2 => ?_)
  clear hS hK
  have hS := hS2
  clear hS2
  try simp only [Act.put, List.setIfInBounds_toArray, List.set_cons_zero, List.set_cons_succ]
  refine rone 12 rfl fun K' hK => ?_
  rw [if_pos (by kernel_rfl)]
  go_simp
  refine (P1.out _).mono ?_
  rintro e w ⟨rfl, hb⟩
  replace HM := Lib.hid (HM.out.call hb)
  replace HB := HM.out.below
  clear hb
  refine hK.out _ _ (HM.out.sub (by repeat (first | exact List.nil_sublist _ | apply List.Sublist.cons_cons | apply List.Sublist.cons))) (fun hS2 => ?_)
  clear hS hK
  have hS := hS2
  clear hS2
  try simp only [Act.put, List.setIfInBounds_toArray, List.set_cons_zero, List.set_cons_succ]
  refine rone 13 rfl fun K' hK => ?_
  rw [if_pos (by kernel_rfl)]
  go_simp
  refine (L4.out _).mono ?_
  rintro e w ⟨rfl, hb⟩
  replace HM := Lib.hid (HM.out.call hb)
  replace HB := HM.out.below
  clear hb
  refine hK.out _ _ (HM.out.sub (by repeat (first | exact List.nil_sublist _ | apply List.Sublist.cons_cons | apply List.Sublist.cons))) (fun hS2 => ?_)
  clear hS hK
  have hS := hS2
  clear hS2
  try simp only [Act.put, List.setIfInBounds_toArray, List.set_cons_zero, List.set_cons_succ]
  refine tkv 14 50 (.bool true) rfl (.inl ⟨by kernel_rfl, fun w' hw => by go_simp⟩) ?_
  refine tk 15 51 ?_
  refine tk 16 52 ?_
  refine tk 17 53 ?_
  refine tk 18 54 ?_
  refine tkv 19 55 (.bool (lf != lg)) rfl (.inl ⟨by kernel_rfl, fun w' hw => by go_simp; cases lf <;> cases lg <;> rfl⟩) ?_
  refine tkv 20 56 (.agg cf) rfl (yields_own rfl rfl (fun _ h => h) (by (first | ((repeat (first | with_reducible exact List.Mem.head _ | with_reducible apply List.Mem.tail)); done) | ((repeat (first | exact List.Mem.head _ | apply List.Mem.tail)); done))) Try.underlying28 rfl HF.out.1 (by kernel_rfl)) ?_
  refine tkv 21 57 (.agg cg) rfl (yields_own rfl rfl (fun _ h => h) (by (first | ((repeat (first | with_reducible exact List.Mem.head _ | with_reducible apply List.Mem.tail)); done) | ((repeat (first | exact List.Mem.head _ | apply List.Mem.tail)); done))) Try.underlying28 rfl HG.out.1 (by kernel_rfl)) ?_
  refine tkv 22 58 (.bool (!(!dd))) rfl (yields_neq rfl rfl rfl (by kernel_rfl) E1.out (by kernel_rfl)) ?_
  refine tkv 23 59 (.bool true) rfl (.inl ⟨by kernel_rfl, fun w' hw => by go_simp; exact HD.out⟩) ?_
  refine tk 24 60 ?_
  refine tk 25 61 ?_
  refine tkv 26 62 (.agg cf) rfl (yields_own rfl rfl (fun _ h => h) (by (first | ((repeat (first | with_reducible exact List.Mem.head _ | with_reducible apply List.Mem.tail)); done) | ((repeat (first | exact List.Mem.head _ | apply List.Mem.tail)); done))) Try.underlying28 rfl HF.out.1 (by kernel_rfl)) ?_
  refine tkv 29 65 (.agg cf) rfl (yields_own rfl rfl (fun _ h => h) (by (first | ((repeat (first | with_reducible exact List.Mem.head _ | with_reducible apply List.Mem.tail)); done) | ((repeat (first | exact List.Mem.head _ | apply List.Mem.tail)); done))) Try.underlying28 rfl HF.out.1 (by kernel_rfl)) ?_
  refine rone 27 rfl fun K' hK => ?_
  rw [if_pos (by kernel_rfl)]
  go_simp
  refine (T1.out _).mono ?_
  rintro e w ⟨rfl, hb⟩
  replace HM := Lib.hid (HM.out.call hb)
  replace HB := HM.out.below
  clear hb
  refine hK.out _ _ (HM.out.sub (by repeat (first | exact List.nil_sublist _ | apply List.Sublist.cons_cons | apply List.Sublist.cons))) (fun hS2 => ?_)
  clear hS hK
  have hS := hS2
  clear hS2
  try simp only [Act.put, List.setIfInBounds_toArray, List.set_cons_zero, List.set_cons_succ]
  refine rone 28 rfl fun K' hK => ?_
  rw [if_pos (by kernel_rfl)]
  go_simp
  refine (P3.out _).mono ?_
  rintro e w ⟨rfl, hb⟩
  replace HM := Lib.hid (HM.out.call hb)
  replace HB := HM.out.below
  clear hb
  refine hK.out _ _ (HM.out.sub (by repeat (first | exact List.nil_sublist _ | apply List.Sublist.cons_cons | apply List.Sublist.cons))) (fun hS2 => ?_)
  clear hS hK
  have hS := hS2
  clear hS2
  try simp only [Act.put, List.setIfInBounds_toArray, List.set_cons_zero, List.set_cons_succ]
  refine rone 30 rfl fun K' hK => ?_
  rw [if_pos (by kernel_rfl)]
  go_simp
  refine (P1.out _).mono ?_
  rintro e w ⟨rfl, hb⟩
  replace HM := Lib.hid (HM.out.call hb)
  replace HB := HM.out.below
  clear hb
  refine hK.out _ _ (HM.out.sub (by repeat (first | exact List.nil_sublist _ | apply List.Sublist.cons_cons | apply List.Sublist.cons))) (fun hS2 => ?_)
  clear hS hK
  have hS := hS2
  clear hS2
  try simp only [Act.put, List.setIfInBounds_toArray, List.set_cons_zero, List.set_cons_succ]
  refine rone 31 rfl fun K' hK => ?_
  rw [if_pos (by kernel_rfl)]
  go_simp
  refine (T3.out _).mono ?_
  rintro e w ⟨rfl, hb⟩
  replace HM := Lib.hid (HM.out.call hb)
  replace HB := HM.out.below
  clear hb
  refine hK.out _ _ (HM.out.sub (by repeat (first | exact List.nil_sublist _ | apply List.Sublist.cons_cons | apply List.Sublist.cons))) (fun hS2 => ?_)
  clear hS hK
  have hS := hS2
  clear hS2
  try simp only [Act.put, List.setIfInBounds_toArray, List.set_cons_zero, List.set_cons_succ]
  refine tkv 32 68 (.bool true) rfl (yields_eql rfl rfl rfl (by kernel_rfl) E4.out (by kernel_rfl)) ?_
  refine tk 33 69 ?_
  refine tk 34 70 ?_
  refine rone 35 rfl fun K' hK => ?_
  rw [if_pos (by kernel_rfl)]
  go_simp
  refine (alive_any _).mono ?_
  rintro e w ⟨rfl, hb⟩
  replace HM := Lib.hid (HM.out.call hb)
  replace HB := HM.out.below
  clear hb
  refine hK.out _ _ (HM.out.sub (by repeat (first | exact List.nil_sublist _ | apply List.Sublist.cons_cons | apply List.Sublist.cons))) (fun hS2 => ?_)
  clear hS hK
  have hS := hS2
  clear hS2
  try simp only [Act.put, List.setIfInBounds_toArray, List.set_cons_zero, List.set_cons_succ]
  refine tk 36 72 ?_
  refine tk 37 4 ?_
  refine wpAnyH_done (by kernel_rfl) ?_ _
  clear hS
  go_wp2_with fail
  go_ret
  exact ⟨rfl, HB⟩
end
theorem flowOrder_walk (f g : Flow) (w0 : World) : Calls Try.prog 4 #[.agg (flowC f), .agg (flowC g)] w0 fun e w' => e = .returned (.bool true) ∧ Below w0.heap.size w0 w' :=
  order_law (ck := flowC (talkF f)) w0 (Lib.hid (cellsFlow f)) (Lib.hid (cellsFlow g)) (Lib.hid (part_s f)) (Lib.hid (part_d f)) (Lib.hid (part_s g)) (Lib.hid (part_d g)) (Lib.hid (refRight_adr f.s)) (Lib.hid (refRight_adr f.d)) (Lib.hid (refRight_adr g.s)) (Lib.hid (refRight_adr g.d))
    (Lib.hid (less_any f g)) (Lib.hid (less_any g f)) (Lib.hid (refLess_any f g)) (Lib.hid (refLess_any g f)) (Lib.hid (plain_any f)) (Lib.hid (plain_any g)) (Lib.hid (plain_any (talkF f))) (Lib.hid (talk_any f)) (Lib.hid (refTalk_any f)) (lessF_one f g)
    (Lib.hid (by have := eq_flow f g; simpa using this)) (Lib.hid (self_eq (eq_rflow _ _)))
end Go.Proofs.Ytkfjobanbnokoaa.Fw
