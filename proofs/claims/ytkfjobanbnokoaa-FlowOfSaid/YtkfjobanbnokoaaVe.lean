/- Package flow: the order of flows; the talk. -/
import Derived.Test.YtkfjobanbnokoaaVd
set_option linter.unusedSimpArgs false
set_option linter.unusedVariables false
set_option linter.unusedSectionVars false
set_option maxRecDepth 100000
namespace Go.Proofs.Ytkfjobanbnokoaa.Fw
open Go.RowKit Go.Proofs.YtkfjobanbnokoaaW.PrintWords Go.Proofs.Ytkfjobanbnokoaa.Bs Go.Proofs.Ytkfjobanbnokoaa.Gm

def RI : RK Int := ⟨113, 3, 1, 8, fun x => #[.int .i64 x]⟩
theorem lawI : RI.Law := RK.law_of Try.underlying113 (by kernel_rfl) (by decide) (by decide) (fun _ => rfl) (fun x => by simp [RI, Value.oneCell'])
theorem compare_any (a b : Int) (w : World) : Calls Try.prog 42 #[.int .i64 a, .int .i64 b] w fun e w' => e = .returned (.int .i64 (cmpZ a b)) ∧ w = w' := by
  obtain ⟨r, hr⟩ : ∃ r, cmpZ a b = r := ⟨_, rfl⟩
  rw [hr]
  by_cases h1 : a < b
  · obtain rfl : r = -1 := by rw [← hr]; unfold cmpZ; rw [if_pos h1]
    clear hr
    go_enter Try.func42, Try.ntmps42
    go_wp2
    go_ret
    exact ⟨rfl, rfl⟩
  · by_cases h2 : b < a
    · obtain rfl : r = 1 := by rw [← hr]; unfold cmpZ; rw [if_neg h1, if_pos h2]
      clear hr
      go_enter Try.func42, Try.ntmps42
      go_wp2
      go_ret
      exact ⟨rfl, rfl⟩
    · obtain rfl : r = 0 := by rw [← hr]; unfold cmpZ; rw [if_neg h1, if_neg h2]
      clear hr
      go_enter Try.func42, Try.ntmps42
      go_wp2
      go_ret
      exact ⟨rfl, rfl⟩
set_option maxHeartbeats 1000000 in
theorem or_any {A : Option Addr} {c : Nat} {l : List Int} {w : World} (h : RW RI w (.slice A l.length c) l) : Calls Try.prog 52 #[.slice A l.length c] w fun e w' => e = .returned (.int .i64 (orZ l)) ∧ w = w' := by
  have hm : l.length ≤ 9223372036854775807 := by obtain ⟨_, _, _, _, h, _⟩ := h; exact h
  have HR : Hid (∀ (i : Nat) (x : Int), l[i]? = some x → ∃ ad, A = some ad ∧ w.cell? (ad.add i) = some (.int .i64 x)) := Lib.hid fun i x hx => by
    obtain ⟨ad, e, hr⟩ := h.elem lawI hx
    refine ⟨ad, e, ?_⟩
    have := hr 0 (.int .i64 x) rfl
    rw [Gm.add_add] at this
    simpa [RI] using this
  clear h
  obtain ⟨n, hn⟩ : ∃ n, l.length = n := ⟨_, rfl⟩
  rw [hn] at hm ⊢
  have HN := Lib.hid hn
  clear hn
  go_enter Try.func52, Try.ntmps52
  go_wp2
  go_loopw [5, 8] (fun v5 v8 wr => ∃ i : Nat, i ≤ n ∧ v8 = .int .i64 i ∧ Hid (orZ l = orZ (l.drop i)) ∧ w = wr) (fun _ v8 _ => n - (intOf v8).toNat)
  case atStart => exact ⟨0, Nat.zero_le _, rfl, Lib.hid (by simp), rfl⟩
  case round =>
    obtain ⟨i, hi, rfl, HO, rfl⟩ := hrel
    by_cases hlt : i < n
    · obtain ⟨x, hx⟩ : ∃ x, l[i]? = some x := ⟨l[i]'(by have := HN.out; omega), List.getElem?_eq_getElem _⟩
      obtain ⟨ad, rfl, hcell⟩ := HR.out i x hx
      have hd : l.drop i = x :: l.drop (i + 1) := by
        obtain ⟨hil, e⟩ := List.getElem?_eq_some_iff.1 hx
        rw [List.drop_eq_getElem_cons hil, e]
      have HD := Lib.hid hd
      clear hx hd
      by_cases h0 : x = 0
      · subst h0
        go_wp2
        go_roundw
        case rel => exact ⟨i + 1, by omega, by go_num, Lib.hid (by rw [HO.out, HD.out]; simp [orZ]), trivial⟩
        case measure => (simp [intOf]) <;> omega
      · have hb : (x != 0) = true := by simpa using h0
        have HX := Lib.hid h0
        clear h0
        go_wp2
        go_ret
        refine ⟨?_, rfl⟩
        rw [HO.out, HD.out]
        unfold orZ
        rw [if_neg HX.out]
        rfl
    · go_wp2
      go_ret
      refine ⟨?_, rfl⟩
      rw [HO.out, List.drop_of_length_le (by have := HN.out; omega)]
      rfl
set_option maxHeartbeats 1000000 in
theorem ahead_any (x y : Adr) (w0 : World) : Calls Try.prog 53 #[.agg (adrC x), .agg (adrC y)] w0 fun e w' => e = .returned (.int .i64 (aheadZ x y)) ∧ Below w0.heap.size w0 w' := by
  have CX := Lib.hid (cellsAdr x)
  have CY := Lib.hid (cellsAdr y)
  have HL := Lib.hid fun w0 => addrLess_any x y w0
  have heq := eq_adr x y
  have hz := aheadZ_is x y
  by_cases hxy : x = y
  · rw [if_pos hxy] at hz
    rw [decide_eq_true hxy] at heq
    have EQ1 := Lib.hid heq
    rw [hz]
    clear hz heq hxy HL
    generalize adrC x = cx at *
    generalize adrC y = cy at *
    clear x y
    have HM := Lib.hid (Mem.start w0)
    have HB := HM.out.below
    go_enter Try.func53, Try.ntmps53
    go_wp2_with (first | refine m_rd ?_ | (refine m_wr ?_; clear HM HB; intro w b HM HB; try clear b) | fail)
    go_ret
    exact ⟨rfl, HB⟩
  · rw [if_neg hxy] at hz
    rw [decide_eq_false hxy] at heq
    have EQ1 := Lib.hid heq
    rw [hz]
    clear hz heq hxy
    generalize lessA x y = lb at *
    generalize adrC x = cx at *
    generalize adrC y = cy at *
    clear x y
    have HM := Lib.hid (Mem.start w0)
    have HB := HM.out.below
    go_enter Try.func53, Try.ntmps53
    go_wp2_with (first | refine m_rd ?_ | (refine m_wr ?_; clear HM HB; intro w b HM HB; try clear b) | fail)
    refine (HL.out w).mono ?_
    rintro e w ⟨rfl, hb⟩
    replace HM := Lib.hid (HM.out.call hb)
    replace HB := HM.out.below
    clear hb
    cases lb
    all_goals
      go_wp2_with (first | refine m_rd ?_ | (refine m_wr ?_; clear HM HB; intro w b HM HB; try clear b) | fail)
      go_ret
      exact ⟨rfl, HB⟩
theorem part_range {w : World} {b : Nat} {cs vs : Array Value} {T t : TypeId} {o : Nat} (h : w.heap[b]? = some (.cells cs T (0, 0))) (hp : PartOf t cs o vs) : RangeA w ⟨b, o, none⟩ vs := fun j v hv => by
  have e : (⟨b, o, none⟩ : Addr).add j = ⟨b, o + j, none⟩ := by
    unfold Addr.add
    split
    · next h => subst h; rfl
    · rfl
  rw [e]
  exact (blk_cell h _).trans (hp.1 j v (by simpa using hv))
theorem yields_part {ops : Array Oper} {op : Oper} {a : Act} {t : TypeId} {x : Operand} {w0 : World} {es : List Ent} (ho : op.op = .load t x) (hu : (Try.prog.underlying t).map (·.isRow) = some true) {b o : Nat} (hx : a.eval x = .pointer (some ⟨b, o, none⟩)) {cs vs : Array Value} {T : TypeId} {S : World → Prop} (hS : ∀ w', S w' → Mem w0 w' es) (m : Ent.blk b cs T ∈ es) (hp : PartOf t cs o vs)
    (hw : Region.wanted op (yielded ops a.tmps) = true) : YieldsIf Try.prog ops S op (.agg vs) a := yields_elem ho hu hx (fun w h => part_range ((hS w h).get m) hp) hp.2.1 hw
theorem lit6 (a b c d e f : Int) : LitR RI 6 #[(0, .int .i64 a), (1, .int .i64 b), (2, .int .i64 c), (3, .int .i64 d), (4, .int .i64 e), (5, .int .i64 f)] [a, b, c, d, e, f] := ⟨rfl, by decide, fun W => by kernel_rfl⟩
section
variable {cf cg sf sg df dg : Array Value} {vf vg pf pg xf xg yf yg c1 c2 c3 c4 c5 c6 : Int}
set_option maxHeartbeats 2000000 in
theorem order_walk (HF : Hid (Cells 28 cf)) (HG : Hid (Cells 28 cg)) (V1 : Hid (cf[0]? = some (.int .i64 vf))) (V2 : Hid (cg[0]? = some (.int .i64 vg))) (P1 : Hid (cf[1]? = some (.int .i64 pf))) (P2 : Hid (cg[1]? = some (.int .i64 pg)))
    (S1 : Hid (PartOf 26 cf 2 sf)) (S2 : Hid (PartOf 26 cg 2 sg)) (D1 : Hid (PartOf 26 cf 19 df)) (D2 : Hid (PartOf 26 cg 19 dg))
    (X1 : Hid (cf[36]? = some (.int .i64 xf))) (X2 : Hid (cg[36]? = some (.int .i64 xg))) (Y1 : Hid (cf[37]? = some (.int .i64 yf))) (Y2 : Hid (cg[37]? = some (.int .i64 yg)))
    (Q1 : Hid (cmpZ vf vg = c1)) (Q2 : Hid (cmpZ pf pg = c2)) (Q5 : Hid (cmpZ xf xg = c5)) (Q6 : Hid (cmpZ yf yg = c6))
    (Q3 : Hid (∀ w0, Calls Try.prog 53 #[.agg sf, .agg sg] w0 fun e w' => e = .returned (.int .i64 c3) ∧ Below w0.heap.size w0 w')) (Q4 : Hid (∀ w0, Calls Try.prog 53 #[.agg df, .agg dg] w0 fun e w' => e = .returned (.int .i64 c4) ∧ Below w0.heap.size w0 w')) (w0 : World) :
    Calls Try.prog 35 #[.agg cf, .agg cg] w0 fun e w' => e = .returned (.int .i64 (orZ [c1, c2, c3, c4, c5, c6])) ∧ Below w0.heap.size w0 w' := by
  obtain ⟨r, hr⟩ : ∃ r, orZ [c1, c2, c3, c4, c5, c6] = r := ⟨_, rfl⟩
  rw [hr]
  have HR := Lib.hid hr
  clear hr
  have HM := Lib.hid (Mem.start w0)
  have HB := HM.out.below
  go_enter Try.func35, Try.ntmps35
  go_wp2_with (first | (refine m_wr ?_ HM (Wr.box rfl rfl HF.out) (wanted_none rfl); clear HM HB; intro w bf HM HB) | (refine m_wr ?_ HM (Wr.box rfl rfl HG.out) (wanted_none rfl); clear HM HB; intro w bg HM HB) | fail)
  try simp only [Act.put, List.setIfInBounds_toArray, List.set_cons_zero, List.set_cons_succ]
  refine wp_region_held_drew (S := fun w' => Mem w0 w' (Ent.blk bg cg 28 :: Ent.blk bf cf 28 :: [])) (by kernel_rfl) (HM.out.drew) (fun hS => ?_)
  replace HM := Lib.hid HM.out.drew
  replace HB := HM.out.below
  refine tk 0 5 ?_
  refine tkv 1 6 (.int .i64 vf) rfl (yields_cell rfl (by kernel_rfl) rfl (fun _ h => h) (by (first | ((repeat (first | with_reducible exact List.Mem.head _ | with_reducible apply List.Mem.tail)); done) | ((repeat (first | exact List.Mem.head _ | apply List.Mem.tail)); done))) V1.out (by kernel_rfl)) ?_
  refine tk 2 7 ?_
  refine tkv 3 8 (.int .i64 vg) rfl (yields_cell rfl (by kernel_rfl) rfl (fun _ h => h) (by (first | ((repeat (first | with_reducible exact List.Mem.head _ | with_reducible apply List.Mem.tail)); done) | ((repeat (first | exact List.Mem.head _ | apply List.Mem.tail)); done))) V2.out (by kernel_rfl)) ?_
  refine tk 5 10 ?_
  refine tkv 6 11 (.int .i64 pf) rfl (yields_cell rfl (by kernel_rfl) rfl (fun _ h => h) (by (first | ((repeat (first | with_reducible exact List.Mem.head _ | with_reducible apply List.Mem.tail)); done) | ((repeat (first | exact List.Mem.head _ | apply List.Mem.tail)); done))) P1.out (by kernel_rfl)) ?_
  refine tk 7 12 ?_
  refine tkv 8 13 (.int .i64 pg) rfl (yields_cell rfl (by kernel_rfl) rfl (fun _ h => h) (by (first | ((repeat (first | with_reducible exact List.Mem.head _ | with_reducible apply List.Mem.tail)); done) | ((repeat (first | exact List.Mem.head _ | apply List.Mem.tail)); done))) P2.out (by kernel_rfl)) ?_
  refine tk 10 15 ?_
  refine tkv 11 16 (.agg sf) rfl (yields_part rfl (by kernel_rfl) rfl (fun _ h => h) (by (first | ((repeat (first | with_reducible exact List.Mem.head _ | with_reducible apply List.Mem.tail)); done) | ((repeat (first | exact List.Mem.head _ | apply List.Mem.tail)); done))) S1.out (by kernel_rfl)) ?_
  refine tk 12 17 ?_
  refine tkv 13 18 (.agg sg) rfl (yields_part rfl (by kernel_rfl) rfl (fun _ h => h) (by (first | ((repeat (first | with_reducible exact List.Mem.head _ | with_reducible apply List.Mem.tail)); done) | ((repeat (first | exact List.Mem.head _ | apply List.Mem.tail)); done))) S2.out (by kernel_rfl)) ?_
  refine tk 15 20 ?_
  refine tkv 16 21 (.agg df) rfl (yields_part rfl (by kernel_rfl) rfl (fun _ h => h) (by (first | ((repeat (first | with_reducible exact List.Mem.head _ | with_reducible apply List.Mem.tail)); done) | ((repeat (first | exact List.Mem.head _ | apply List.Mem.tail)); done))) D1.out (by kernel_rfl)) ?_
  refine tk 17 22 ?_
  refine tkv 18 23 (.agg dg) rfl (yields_part rfl (by kernel_rfl) rfl (fun _ h => h) (by (first | ((repeat (first | with_reducible exact List.Mem.head _ | with_reducible apply List.Mem.tail)); done) | ((repeat (first | exact List.Mem.head _ | apply List.Mem.tail)); done))) D2.out (by kernel_rfl)) ?_
  refine tk 20 25 ?_
  refine tkv 21 26 (.int .i64 xf) rfl (yields_cell rfl (by kernel_rfl) rfl (fun _ h => h) (by (first | ((repeat (first | with_reducible exact List.Mem.head _ | with_reducible apply List.Mem.tail)); done) | ((repeat (first | exact List.Mem.head _ | apply List.Mem.tail)); done))) X1.out (by kernel_rfl)) ?_
  refine tk 22 27 ?_
  refine tkv 23 28 (.int .i64 xg) rfl (yields_cell rfl (by kernel_rfl) rfl (fun _ h => h) (by (first | ((repeat (first | with_reducible exact List.Mem.head _ | with_reducible apply List.Mem.tail)); done) | ((repeat (first | exact List.Mem.head _ | apply List.Mem.tail)); done))) X2.out (by kernel_rfl)) ?_
  refine tk 25 30 ?_
  refine tkv 26 31 (.int .i64 yf) rfl (yields_cell rfl (by kernel_rfl) rfl (fun _ h => h) (by (first | ((repeat (first | with_reducible exact List.Mem.head _ | with_reducible apply List.Mem.tail)); done) | ((repeat (first | exact List.Mem.head _ | apply List.Mem.tail)); done))) Y1.out (by kernel_rfl)) ?_
  refine tk 27 32 ?_
  refine tkv 28 33 (.int .i64 yg) rfl (yields_cell rfl (by kernel_rfl) rfl (fun _ h => h) (by (first | ((repeat (first | with_reducible exact List.Mem.head _ | with_reducible apply List.Mem.tail)); done) | ((repeat (first | exact List.Mem.head _ | apply List.Mem.tail)); done))) Y2.out (by kernel_rfl)) ?_
  refine rone 4 rfl fun K' hK => ?_
  go_simp
  refine (compare_any vf vg _).mono ?_
  rintro e w' ⟨rfl, rfl⟩
  rw [Q1.out]
  refine hK.out _ _ (HM.out) (fun hS2 => ?_)
  clear hS hK
  have hS := hS2
  clear hS2
  try simp only [Act.put, List.setIfInBounds_toArray, List.set_cons_zero, List.set_cons_succ]
  refine rone 9 rfl fun K' hK => ?_
  go_simp
  refine (compare_any pf pg _).mono ?_
  rintro e w' ⟨rfl, rfl⟩
  rw [Q2.out]
  refine hK.out _ _ (HM.out) (fun hS2 => ?_)
  clear hS hK
  have hS := hS2
  clear hS2
  try simp only [Act.put, List.setIfInBounds_toArray, List.set_cons_zero, List.set_cons_succ]
  refine rone 14 rfl fun K' hK => ?_
  go_simp
  refine (Q3.out _).mono ?_
  rintro e w ⟨rfl, hb⟩
  replace HM := Lib.hid (HM.out.call hb)
  replace HB := HM.out.below
  clear hb
  refine hK.out _ _ (HM.out) (fun hS2 => ?_)
  clear hS hK
  have hS := hS2
  clear hS2
  try simp only [Act.put, List.setIfInBounds_toArray, List.set_cons_zero, List.set_cons_succ]
  refine rone 19 rfl fun K' hK => ?_
  go_simp
  refine (Q4.out _).mono ?_
  rintro e w ⟨rfl, hb⟩
  replace HM := Lib.hid (HM.out.call hb)
  replace HB := HM.out.below
  clear hb
  refine hK.out _ _ (HM.out) (fun hS2 => ?_)
  clear hS hK
  have hS := hS2
  clear hS2
  try simp only [Act.put, List.setIfInBounds_toArray, List.set_cons_zero, List.set_cons_succ]
  refine rone 24 rfl fun K' hK => ?_
  go_simp
  refine (compare_any xf xg _).mono ?_
  rintro e w' ⟨rfl, rfl⟩
  rw [Q5.out]
  refine hK.out _ _ (HM.out) (fun hS2 => ?_)
  clear hS hK
  have hS := hS2
  clear hS2
  try simp only [Act.put, List.setIfInBounds_toArray, List.set_cons_zero, List.set_cons_succ]
  refine rone 29 rfl fun K' hK => ?_
  go_simp
  refine (compare_any yf yg _).mono ?_
  rintro e w' ⟨rfl, rfl⟩
  rw [Q6.out]
  refine hK.out _ _ (HM.out) (fun hS2 => ?_)
  clear hS hK
  have hS := hS2
  clear hS2
  try simp only [Act.put, List.setIfInBounds_toArray, List.set_cons_zero, List.set_cons_succ]
  refine rone 30 rfl fun K' hK => ?_
  refine s_wr ?_ HM (Wr.litR lawI rfl (lit6 c1 c2 c3 c4 c5 c6) rfl) (by kernel_rfl)
  clear HM HB
  intro w br HM HB
  refine hK.out _ _ (HM.out.tail) (fun hS2 => ?_)
  clear hS hK
  have hS := hS2
  clear hS2
  try simp only [Act.put, List.setIfInBounds_toArray, List.set_cons_zero, List.set_cons_succ]
  refine rone 31 rfl fun K' hK => ?_
  go_simp
  refine (or_any (l := [c1, c2, c3, c4, c5, c6]) (HM.out.rw_ lawI (List.Mem.head _))).mono ?_
  rintro e w' ⟨rfl, rfl⟩
  rw [HR.out]
  refine hK.out _ _ (HM.out.tail) (fun hS2 => ?_)
  clear hS hK
  have hS := hS2
  clear hS2
  try simp only [Act.put, List.setIfInBounds_toArray, List.set_cons_zero, List.set_cons_succ]
  refine tk 32 4 ?_
  refine wpAnyH_done (by kernel_rfl) ?_ _
  clear hS
  go_wp2_with fail
  go_ret
  exact ⟨rfl, HB⟩
end
theorem order_any (f g : Flow) (w0 : World) : Calls Try.prog 35 #[.agg (flowC f), .agg (flowC g)] w0 fun e w' => e = .returned (.int .i64 (orderZ f g)) ∧ Below w0.heap.size w0 w' := by
  rw [orderZ_is]
  exact order_walk (Lib.hid (cellsFlow f)) (Lib.hid (cellsFlow g)) (Lib.hid (flow_v f)) (Lib.hid (flow_v g)) (Lib.hid (flow_pr f)) (Lib.hid (flow_pr g)) (Lib.hid (part_s f)) (Lib.hid (part_s g)) (Lib.hid (part_d f)) (Lib.hid (part_d g))
    (Lib.hid (flow_sp f)) (Lib.hid (flow_sp g)) (Lib.hid (flow_dp f)) (Lib.hid (flow_dp g)) (Lib.hid rfl) (Lib.hid rfl) (Lib.hid rfl) (Lib.hid rfl) (Lib.hid fun w => ahead_any _ _ w) (Lib.hid fun w => ahead_any _ _ w) w0
theorem less_any (f g : Flow) (w0 : World) : Calls Try.prog 16 #[.agg (flowC f), .agg (flowC g)] w0 fun e w' => e = .returned (.bool (lessF f g)) ∧ Below w0.heap.size w0 w' := by
  have HO := Lib.hid fun w => order_any f g w
  have HF := Lib.hid (cellsFlow f)
  have HG := Lib.hid (cellsFlow g)
  unfold lessF
  generalize orderZ f g = o at *
  generalize flowC f = cf at *
  generalize flowC g = cg at *
  clear f g
  have HM := Lib.hid (Mem.start w0)
  have HB := HM.out.below
  go_enter Try.func16, Try.ntmps16
  go_wp2_with (first | refine m_rd ?_ | (refine m_wr ?_; clear HM HB; intro w b HM HB; try clear b) | fail)
  refine (HO.out w).mono ?_
  rintro e w ⟨rfl, hb⟩
  replace HM := Lib.hid (HM.out.call hb)
  replace HB := HM.out.below
  clear hb
  go_wp2_with (first | refine m_rd ?_ | (refine m_wr ?_; clear HM HB; intro w b HM HB; try clear b) | fail)
  go_ret
  exact ⟨rfl, HB⟩
theorem talk_any (f : Flow) (w0 : World) : Calls Try.prog 13 #[.agg (flowC f)] w0 fun e w' => e = .returned (.agg (flowC (talkF f))) ∧ Below w0.heap.size w0 w' := by
  have HO := Lib.hid fun w => other_any f w
  have HL := Lib.hid fun w => less_any (otherF f) f w
  have HF := Lib.hid (cellsFlow f)
  have HG := Lib.hid (cellsFlow (otherF f))
  have AL1 := Lib.hid zeroFlow
  unfold talkF
  generalize otherF f = g at *
  generalize lessF g f = lb at *
  generalize flowC zF = cz at *
  cases lb
  all_goals
    simp only [Bool.false_eq_true, if_true, if_false]
    generalize flowC f = cf at *
    generalize flowC g = cg at *
    clear f g
    have HM := Lib.hid (Mem.start w0)
    have HB := HM.out.below
    go_enter Try.func13, Try.ntmps13
    go_wp2_with (first | refine m_rd ?_ | (refine m_wr ?_; clear HM HB; intro w b HM HB; try clear b) | fail)
    refine (HO.out w).mono ?_
    rintro e w ⟨rfl, hb⟩
    replace HM := Lib.hid (HM.out.call hb)
    replace HB := HM.out.below
    clear hb
    go_wp2_with (first | refine m_rd ?_ | (refine m_wr ?_; clear HM HB; intro w b HM HB; try clear b) | fail)
    refine (HL.out w).mono ?_
    rintro e w ⟨rfl, hb⟩
    replace HM := Lib.hid (HM.out.call hb)
    replace HB := HM.out.below
    clear hb
    go_wp2_with (first | refine m_rd ?_ | (refine m_wr ?_; clear HM HB; intro w b HM HB; try clear b) | fail)
    apply m_ret_c
    next => exact rfl
    next => exact rfl
    next => exact rfl
    next => exact HM
    next => (first | ((repeat (first | with_reducible exact List.Mem.head _ | with_reducible apply List.Mem.tail)); done) | ((repeat (first | exact List.Mem.head _ | apply List.Mem.tail)); done))
    next => exact Try.underlying28
    next => rfl
    exact ⟨rfl, HB⟩
end Go.Proofs.Ytkfjobanbnokoaa.Fw
