/- The document's session: rows of u64 that a call owns; a number sent; a number taken. -/
import Derived.Test.YtapncdgeigbgmaaSg
set_option linter.unusedSimpArgs false
set_option linter.unusedVariables false
set_option maxRecDepth 100000
namespace Go.Proofs.Ytapncdgeigbgmaa.Gm
open Go.RowKit Go.Proofs.YtapncdgeigbgmaaW.PrintWords Go.Proofs.Ytapncdgeigbgmaa.Bs Go.Proofs.Ytapncdgeigbgmaa.Rp
/-- A row of u64 of the call's own. -/
def rowU (v : Value) (l : List Nat) : Ent := .any v.ownBlock (fun base w => OU base w v l)
theorem localU (v : Value) (l : List Nat) : Local v.ownBlock (fun base w => OU base w v l) := fun base w w1 row h hg hr => own_other h hg (by
  cases hv : v.ownBlock with
  | none => exact .inl rfl
  | some k => exact .inr (hr k hv))
theorem holdsU {base : Nat} {w : World} {v : Value} {l : List Nat} (h : OU base w v l) : (rowU v l).holds base w := ⟨⟨h, fun k hk => ⟨own_base h k hk, own_lt h k hk⟩⟩, localU v l⟩
theorem Mem.ou {w0 w : World} {es : List Ent} (h : Mem w0 w es) {v : Value} {l : List Nat} (m : rowU v l ∈ es) : OU w0.heap.size w v l := h.prop m
theorem Mem.ru {w0 w : World} {es : List Ent} (h : Mem w0 w es) {v : Value} {l : List Nat} (m : rowU v l ∈ es) : RU .u64 w v l := (h.ou m).ru
theorem Mem.rowU {w0 w w1 : World} {es : List Ent} (h : Mem w0 w es) (hb : Below w.heap.size w w1) {v : Value} {l : List Nat} (ho : OU w.heap.size w1 v l) : Mem w0 w1 (rowU v l :: es) :=
  h.any hb (own_weaken ho h.below.size) (localU v l) (fun k hk => ⟨own_base ho k hk, own_lt ho k hk⟩)
section
variable {w0 : World} {es es' : List Ent} {op : Oper} {a : Act}
/-- A literal of u64: what its cells are, and its run. -/
def LitU (n : Nat) (qs : Array (Nat × Value)) (l : List Nat) : Prop := l.length = n ∧ n ≤ 1000 ∧ ∀ W : World, (Instr.buildSlice 41 n qs).run Try.prog W = .ok (.slice (some ⟨W.heap.size, 0, none⟩) n n) (W.alloc (.cells (encs (U .u64) l).toArray 22))
theorem Wr.litU {n : Nat} {ps : Array (Nat × Operand)} (ho : op.op = .buildSlice 41 n ps) {qs : Array (Nat × Value)} {l : List Nat} (hL : LitU n qs l) (hq : ps.toList.map (fun p => (p.1, a.eval p.2)) = qs.toList) :
    Wr w0 es op a (fun b => .slice (some ⟨b, 0, none⟩) n n) (fun b => rowU (.slice (some ⟨b, 0, none⟩) n n) l :: es) := .mk fun w K Q HM hK => by
  obtain ⟨hl, hn, hz⟩ := hL
  have hq2 : ps.map (fun p => (p.1, a.eval p.2)) = qs := Array.ext' (by rw [Array.toList_map]; exact hq)
  subst hq2
  unfold Oper.wp
  have := hz w
  simp [execOp, ho, resolve, this, Result.andThen]
  refine hK _ _ (HM.rowU (below_alloc (Below.refl _ _) _) ?_)
  have h2 := own_lit_of (enc := U .u64) w w.heap.size 22 l (Nat.le_refl _) (by omega)
  unfold OU
  rw [hl] at h2 ⊢
  exact h2
end
/-- append(v, u...) on a row of u64 of the call's own. -/
theorem append_u64s {ops : Array Oper} {rest : List Oper} {o : Oper} {a : Act} {Q : Exit → Act → World → Prop} {W w0 : World} (base : Nat) (hgd : o.guard = none) (s x : Operand)
    (ho : o.op = .call { callee := .builtin .append, args := #[s, x], argTypes := #[41, 41] })
    (v u : Value) (xs ys : List Nat) (hs : a.eval s = v) (hx : a.eval x = u)
    (HO : OU base W v xs) (HR : RU .u64 W u ys) (HB : Below base w0 W) (hbase : base ≤ W.heap.size) (hl : xs.length + ys.length ≤ 17592186044416)
    (h : ∀ v1 w1, OU base w1 v1 (xs ++ ys) → Below base w0 w1 → W.grownBy w1 v.ownBlock → (v1.ownBlock = v.ownBlock ∨ ∃ b, v1.ownBlock = some b ∧ W.heap.size ≤ b) → wpList Try.prog ops Q rest (a.put o.dst v1) w1) :
    wpList Try.prog ops Q (o :: rest) a W := by
  obtain ⟨A, c, rfl, _, hr⟩ := HR
  exact print_append_row_of (U .u64) 0 base hgd s x 41 22 (.int .u64 0) 8 ho Try.underlying41 info64 rfl (by decide) (fun _ => rfl) v xs ys A ys.length c hs hx HO hr HB hbase (by omega) h

section
variable {ops : Array Oper} {rest : List Oper} {op : Oper} {a : Act} {Q : Exit → Act → World → Prop} {w0 w : World} {es : List Ent}
theorem m_apU {es' : List Ent} {s x : Operand} {v u : Value} {xs ys : List Nat} {n : Nat} (k : ∀ w1 A1 c1, HMem w0 w1 (rowU (.slice A1 n c1) (xs ++ ys) :: es') → Below w0.heap.size w0 w1 → wpList Try.prog ops Q rest (a.put op.dst (.slice A1 n c1)) w1)
    (ho : op.op = .call { callee := .builtin .append, args := #[s, x], argTypes := #[41, 41] } := by first | with_reducible exact rfl | fail)
    (hg : op.guard = none := by first | with_reducible exact rfl | fail) (hs : a.eval s = v := by first | exact rfl | fail) (hx : a.eval x = u := by first | exact rfl | fail) (HM : HMem w0 w es := by first | exact HM | fail)
    (m : Del (rowU v xs) es es' := by first | ((repeat (first | exact Del.head _ | apply Del.tail)); done) | fail) (HR : RU .u64 w u ys := by first | (apply Mem.ru HM.out; ((repeat (first | exact List.Mem.head _ | apply List.Mem.tail)); done)) | exact HR.out.below HB | fail)
    (hn : xs.length + ys.length = n := by first | exact HN1.out | exact HN2.out | exact HN3.out | exact HN4.out | fail) (hl : n ≤ 17592186044416 := by first | omega | fail) : wpList Try.prog ops Q (op :: rest) a w := by
  subst hn
  have hm := HM.out.perm m.perm
  refine append_u64s (w0 := w0) w0.heap.size hg s x ho v u xs ys hs hx (hm.ou (List.mem_cons_self ..)) HR HM.out.below HM.out.below.size hl (fun v1 w1 ho hb hg hown => ?_)
  have hm1 : Mem w0 w1 (rowU v1 (xs ++ ys) :: es') := hm.turn (Upd.head _) hg (holdsU ho) (fun k hk => by
    rcases hown with e | ⟨b, e, hb⟩
    · exact .inl (by rw [← hk]; exact e.symm)
    · refine .inr ?_
      have : v1.ownBlock = some k := hk
      rw [e] at this
      injection this with this
      omega)
  obtain ⟨A1, c1, rfl, _⟩ := (hm1.ru (List.mem_cons_self ..))
  rw [List.length_append] at hm1
  rw [List.length_append]
  exact k w1 A1 c1 (Lib.hid hm1) hm1.below
end
end Go.Proofs.Ytapncdgeigbgmaa.Gm
namespace Go.Proofs.Ytapncdgeigbgmaa.Sf
open Go.RowKit Go.Proofs.YtapncdgeigbgmaaW.PrintWords Go.Proofs.Ytapncdgeigbgmaa.Bs Go.Proofs.Ytapncdgeigbgmaa.Rp Go.Proofs.Ytapncdgeigbgmaa.Gm

/-- The cells of the document's session: the key, the two places, the next number, what was taken. -/
def SV (K : Array Value) (lo re n : Int) (A : Option Addr) (len c : Nat) : Array Value := K ++ #[.int .u32 lo, .int .u32 re, .int .u64 n, .slice A len c]
theorem SV_size (K : Array Value) (lo re n : Int) (A : Option Addr) (len c : Nat) (hK : K.size = 32) : (SV K lo re n A len c).size = 36 := by simp [SV, hK]
theorem SV_at (K : Array Value) (lo re n : Int) (A : Option Addr) (len c : Nat) (hK : K.size = 32) : (SV K lo re n A len c)[32]? = some (.int .u32 lo) ∧ (SV K lo re n A len c)[33]? = some (.int .u32 re) ∧ (SV K lo re n A len c)[34]? = some (.int .u64 n) ∧ (SV K lo re n A len c)[35]? = some (.slice A len c) := by
  unfold SV
  refine ⟨?_, ?_, ?_, ?_⟩ <;> (rw [Array.getElem?_append_right (by omega), hK]; rfl)
theorem SV_next (K : Array Value) (lo re n m : Int) (A : Option Addr) (len c : Nat) (hK : K.size = 32) : (SV K lo re n A len c).setIfInBounds 34 (.int .u64 m) = SV K lo re m A len c := by
  unfold SV
  rw [Array.setIfInBounds_append_right (by omega), hK]
  rfl
theorem SV_taken (K : Array Value) (lo re n : Int) (A A2 : Option Addr) (len c len2 c2 : Nat) (hK : K.size = 32) : (SV K lo re n A len c).setIfInBounds 35 (.slice A2 len2 c2) = SV K lo re n A2 len2 c2 := by
  unfold SV
  rw [Array.setIfInBounds_append_right (by omega), hK]
  rfl
theorem SV_one (K : Array Value) (lo re n : Int) (A : Option Addr) (len c : Nat) (h1 : K.all (·.oneCell') = true) : (SV K lo re n A len c).all (·.oneCell') = true := by
  unfold SV
  rw [Array.all_append, h1]
  simp [Value.oneCell']
def Z36 : Array Value := #[.int .u8 0, .int .u8 0, .int .u8 0, .int .u8 0, .int .u8 0, .int .u8 0, .int .u8 0, .int .u8 0, .int .u8 0, .int .u8 0, .int .u8 0, .int .u8 0, .int .u8 0, .int .u8 0, .int .u8 0, .int .u8 0, .int .u8 0, .int .u8 0, .int .u8 0, .int .u8 0, .int .u8 0, .int .u8 0, .int .u8 0, .int .u8 0, .int .u8 0, .int .u8 0, .int .u8 0, .int .u8 0, .int .u8 0, .int .u8 0, .int .u8 0, .int .u8 0, .int .u32 0, .int .u32 0, .int .u64 0, .slice none 0 0]
theorem limit_same (w : World) : Calls Try.prog 51 #[] w fun e w' => e = .returned (.int .u64 18446744073709543423) ∧ w' = w := (Ctr.limit_any w).mono fun e w' h => ⟨h.1, h.2.symm⟩


theorem infoS : (Try.prog.info? 43).map (·.size) = some 36 := by kernel_rfl
def ZR : Array Value := SV ZK 0 0 0 none 0 0
theorem cellsR (K : Array Value) (lo re n : Int) (A : Option Addr) (len c : Nat) (hK : K.size = 32) (h1 : K.all (·.oneCell') = true) : Cells 43 (SV K lo re n A len c) := ⟨by rw [SV_size _ _ _ _ _ _ _ hK]; exact infoS, SV_one _ _ _ _ _ _ _ h1⟩
theorem zeroR : ZeroOf 43 ZR := ⟨fun W => zero_of (by kernel_rfl) W, cellsR _ _ _ _ _ _ _ rfl (by kernel_rfl)⟩
set_option maxHeartbeats 1000000 in
theorem refSend_any (K : Array Value) (lo re n : Int) (A : Option Addr) (len c : Nat) (w0 : World) (hK : K.size = 32) (h1 : K.all (·.oneCell') = true) (h0 : 0 ≤ n) (hn : n < 18446744073709551616) :
    Calls Try.prog 49 #[.agg (SV K lo re n A len c)] w0 fun e w' => e = .returned (.tuple #[.agg (SV K lo re (nextN n) A len c), .int .u64 (outN n), .int .i64 (errN n)]) ∧ Below w0.heap.size w0 w' := by
  have HC := Lib.hid (cellsR K lo re n A len c hK h1)
  have HC2 := Lib.hid (cellsR K lo re (n + 1) A len c hK h1)
  have AL1 := Lib.hid zeroR
  have CV1 := Lib.hid (SV_at K lo re n A len c hK).2.2.1
  have CV2 := Lib.hid (SV_at K lo re (n + 1) A len c hK).2.2.1
  have PU1 := Lib.hid (SV_next K lo re n (n + 1) A len c hK)
  clear hK h1
  unfold nextN outN errN Ctr.lim
  by_cases hl : n < 18446744073709543423
  · rw [if_pos hl, if_pos hl, if_pos hl]
    have hd : decide ((18446744073709543423 : Int) ≤ n) = false := decide_eq_false (by omega)
    have hw1 : IntKind.u64.wrap (n + 1) = n + 1 := by rw [IntKind.wrap_u64]; omega
    have hw2 : IntKind.u64.wrap n = n := by rw [IntKind.wrap_u64]; omega
    have hw3 : n + 1 - 1 = n := by omega
    have HD := Lib.hid hd
    clear hl hn hd
    have HM := Lib.hid (Mem.start w0)
    have HB := HM.out.below
    go_enter Try.func49, Try.ntmps49
    go_wp2_with (first | refine m_rd ?_ | (refine m_wr ?_; clear HM HB; intro w b HM HB; try clear b) | fail)
    try simp only [Act.put, List.setIfInBounds_toArray, List.set_cons_zero, List.set_cons_succ]
    refine wp_region_held_drew (S := fun w' => Mem w0 w' _) (by kernel_rfl) (HM.out.drew) (fun hS => ?_)
    replace HM := Lib.hid HM.out.drew
    replace HB := HM.out.below
    refine tk 0 5 ?_
    refine tkv 1 6 (.int .u64 n) rfl (yields_cell rfl (by kernel_rfl) rfl (fun _ h => h) (by (first | ((repeat (first | with_reducible exact List.Mem.head _ | with_reducible apply List.Mem.tail)); done) | ((repeat (first | exact List.Mem.head _ | apply List.Mem.tail)); done))) CV1.out (by kernel_rfl)) ?_
    refine rone 2 rfl fun K' hK => ?_
    go_simp
    refine (Ctr.limit_any _).mono ?_
    rintro e w' ⟨rfl, rfl⟩
    refine hK.out _ _ (HM.out) (fun hS2 => ?_)
    clear hS hK
    have hS := hS2
    clear hS2
    try simp only [Act.put, List.setIfInBounds_toArray, List.set_cons_zero, List.set_cons_succ]
    have hd := HD.out
    refine tk 3 8 ?_
    clear hd
    refine wpAnyH_done (by kernel_rfl) ?_ _
    clear hS
    have HW1 := Lib.hid hw1
    have HW2 := Lib.hid hw2
    clear hw2
    go_wp2_with (first | refine m_rd ?_ | (refine m_wr ?_; clear HM HB; intro w b HM HB; try clear b) | fail)
    try simp only [Act.put, List.setIfInBounds_toArray, List.set_cons_zero, List.set_cons_succ]
    refine wp_region_held_drew (S := fun w' => Mem w0 w' _) (by kernel_rfl) (HM.out.drew.keep (show Ent.blk _ (SV K lo re (n + 1) A len c) _ ∈ _ by (first | ((repeat (first | with_reducible exact List.Mem.head _ | with_reducible apply List.Mem.tail)); done) | ((repeat (first | exact List.Mem.head _ | apply List.Mem.tail)); done)))) (fun hS => ?_)
    replace HM := Lib.hid HM.out.drew
    replace HB := HM.out.below
    refine tkv 0 14 (.agg (SV K lo re (n + 1) A len c)) rfl (yields_own rfl rfl (fun _ h => h) (by (first | ((repeat (first | with_reducible exact List.Mem.head _ | with_reducible apply List.Mem.tail)); done) | ((repeat (first | exact List.Mem.head _ | apply List.Mem.tail)); done))) Try.underlying43 rfl HC2.out.1 (by kernel_rfl)) ?_
    refine tk 1 15 ?_
    refine tkv 2 16 (.int .u64 (n + 1)) rfl (yields_cell rfl (by kernel_rfl) rfl (fun _ h => h) (by (first | ((repeat (first | with_reducible exact List.Mem.head _ | with_reducible apply List.Mem.tail)); done) | ((repeat (first | exact List.Mem.head _ | apply List.Mem.tail)); done))) CV2.out (by kernel_rfl)) ?_
    have hw2 := HW2.out
    refine tk 3 17 ?_
    clear hw2
    refine rone 4 rfl fun K' hK => ?_
    refine s_wr ?_ HM (Wr.whole rfl rfl rfl (by (first | ((repeat (first | with_reducible exact Upd.head _ | with_reducible apply Upd.tail)); done) | ((repeat (first | exact Upd.head _ | apply Upd.tail)); done))) HC2.out) (by kernel_rfl)
    clear HM HB
    intro w b HM HB
    refine hK.out _ _ (HM.out.keep (show Ent.blk _ (SV K lo re (n + 1) A len c) _ ∈ _ by (first | ((repeat (first | with_reducible exact List.Mem.head _ | with_reducible apply List.Mem.tail)); done) | ((repeat (first | exact List.Mem.head _ | apply List.Mem.tail)); done)))) (fun hS2 => ?_)
    clear hS hK
    have hS := hS2
    clear hS2
    try simp only [Act.put, List.setIfInBounds_toArray, List.set_cons_zero, List.set_cons_succ]
    refine tk 5 3 ?_
    refine tk 6 4 ?_
    refine wpAnyH_done (by kernel_rfl) ?_ _
    clear hS
    go_wp2_with (first | refine m_rd ?_ | (refine m_wr ?_; clear HM HB; intro w b HM HB; try clear b) | fail)
    apply m_ret_c2
    next => exact rfl
    next => exact rfl
    next => exact rfl
    next => exact HM
    next => (first | ((repeat (first | with_reducible exact List.Mem.head _ | with_reducible apply List.Mem.tail)); done) | ((repeat (first | exact List.Mem.head _ | apply List.Mem.tail)); done))
    next => exact Try.underlying43
    next => rfl
    exact ⟨rfl, HB⟩
  · rw [if_neg hl, if_neg hl, if_neg hl]
    have HD : Hid (decide ((18446744073709543423 : Int) ≤ n) = true) := Lib.hid (decide_eq_true (by omega))
    clear hl hn
    have HM := Lib.hid (Mem.start w0)
    have HB := HM.out.below
    go_enter Try.func49, Try.ntmps49
    go_wp2_with (first | refine m_rd ?_ | (refine m_wr ?_; clear HM HB; intro w b HM HB; try clear b) | fail)
    try simp only [Act.put, List.setIfInBounds_toArray, List.set_cons_zero, List.set_cons_succ]
    refine wp_region_held_drew (S := fun w' => Mem w0 w' _) (by kernel_rfl) (HM.out.drew) (fun hS => ?_)
    replace HM := Lib.hid HM.out.drew
    replace HB := HM.out.below
    refine tk 0 5 ?_
    refine tkv 1 6 (.int .u64 n) rfl (yields_cell rfl (by kernel_rfl) rfl (fun _ h => h) (by (first | ((repeat (first | with_reducible exact List.Mem.head _ | with_reducible apply List.Mem.tail)); done) | ((repeat (first | exact List.Mem.head _ | apply List.Mem.tail)); done))) CV1.out (by kernel_rfl)) ?_
    refine rone 2 rfl fun K' hK => ?_
    go_simp
    refine (Ctr.limit_any _).mono ?_
    rintro e w' ⟨rfl, rfl⟩
    refine hK.out _ _ (HM.out) (fun hS2 => ?_)
    clear hS hK
    have hS := hS2
    clear hS2
    try simp only [Act.put, List.setIfInBounds_toArray, List.set_cons_zero, List.set_cons_succ]
    have hd := HD.out
    refine tk 3 8 ?_
    clear hd
    refine wpAnyH_done (by kernel_rfl) ?_ _
    clear hS
    go_wp2_with (first | refine m_rd ?_ | (refine m_wr ?_; clear HM HB; intro w b HM HB; try clear b) | fail)
    apply m_ret_c2
    next => exact rfl
    next => exact rfl
    next => exact rfl
    next => exact HM
    next => (first | ((repeat (first | with_reducible exact List.Mem.head _ | with_reducible apply List.Mem.tail)); done) | ((repeat (first | exact List.Mem.head _ | apply List.Mem.tail)); done))
    next => exact Try.underlying43
    next => rfl
    exact ⟨rfl, HB⟩
theorem cell_u (x : Nat) : encs (U .u64) [x] = [Value.int .u64 (x : Int)] := rfl
set_option maxHeartbeats 1000000 in
theorem refTake_bad (K : Array Value) (lo re n : Int) (A : Option Addr) (l : List Nat) (c x : Nat) (w0 : World) (hK : K.size = 32) (h1 : K.all (·.oneCell') = true) (hr : RU .u64 w0 (.slice A l.length c) l) (hb : ∀ y ∈ l, y < 18446744073709551616) (hx : x < 18446744073709551616) (hc : canL l x = false) :
    Calls Try.prog 50 #[.agg (SV K lo re n A l.length c), .int .u64 x] w0 fun e w' => e = .returned (.tuple #[.agg (SV K lo re n A l.length c), .int .i64 16]) ∧ Below w0.heap.size w0 w' := by
  have HC := Lib.hid (cellsR K lo re n A l.length c hK h1)
  have AL1 := Lib.hid zeroR
  have CV1 := Lib.hid (SV_at K lo re n A l.length c hK).2.2.2
  have HR := Lib.hid hr
  have HCA := Lib.hid (fun w hr => refCan_any (.slice A l.length c) l x w hr hx hb)
  rw [hc] at HCA
  clear hK h1 hr hb hx hc
  have HM := Lib.hid (Mem.start w0)
  have HB := HM.out.below
  go_enter Try.func50, Try.ntmps50
  go_wp2_with (first | refine m_rd ?_ | (refine m_wr ?_; clear HM HB; intro w b HM HB; try clear b) | fail)
  refine (HCA.out _ (HR.out.below HB)).mono ?_
  rintro e w' ⟨rfl, rfl⟩
  go_wp2_with (first | refine m_rd ?_ | (refine m_wr ?_; clear HM HB; intro w b HM HB; try clear b) | fail)
  apply m_ret_c1
  next => exact rfl
  next => exact rfl
  next => exact rfl
  next => exact HM
  next => (first | ((repeat (first | with_reducible exact List.Mem.head _ | with_reducible apply List.Mem.tail)); done) | ((repeat (first | exact List.Mem.head _ | apply List.Mem.tail)); done))
  next => exact Try.underlying43
  next => rfl
  exact ⟨rfl, HB⟩
set_option maxHeartbeats 1000000 in
theorem refTake_good (K : Array Value) (lo re n : Int) (A : Option Addr) (l : List Nat) (c x : Nat) (w0 : World) (hK : K.size = 32) (h1 : K.all (·.oneCell') = true) (hr : RU .u64 w0 (.slice A l.length c) l) (hb : ∀ y ∈ l, y < 18446744073709551616) (hx : x < 18446744073709551616) (hlen : l.length ≤ 1000) (hc : canL l x = true) :
    Calls Try.prog 50 #[.agg (SV K lo re n A l.length c), .int .u64 x] w0 fun e w' => ∃ A' c', e = .returned (.tuple #[.agg (SV K lo re n A' (l.length + 1) c'), .int .i64 0]) ∧ OU w0.heap.size w' (.slice A' (l.length + 1) c') (l ++ [x]) ∧ Below w0.heap.size w0 w' := by
  have HC := Lib.hid (cellsR K lo re n A l.length c hK h1)
  have HC2 : Hid (∀ A' c', Cells 43 (SV K lo re n A' (l.length + 1) c')) := Lib.hid (fun A' c' => cellsR K lo re n A' (l.length + 1) c' hK h1)
  have AL1 := Lib.hid zeroR
  have CV1 := Lib.hid (SV_at K lo re n A l.length c hK).2.2.2
  have HR := Lib.hid hr
  have HCA := Lib.hid (fun w hr => refCan_any (.slice A l.length c) l x w hr hx hb)
  rw [hc] at HCA
  have LT1 : Hid (LitU 0 #[] []) := Lib.hid ⟨rfl, by decide, fun W => by kernel_rfl⟩
  have LT2 : Hid (LitU 1 #[(0, .int .u64 x)] [x]) := Lib.hid ⟨rfl, by decide, fun W => by kernel_rfl⟩
  have HN1 : Hid (([] : List Nat).length + l.length = l.length) := Lib.hid (by simp)
  have HN2 : Hid (l.length + [x].length = l.length + 1) := Lib.hid (by simp)
  have HK := Lib.hid hK
  clear hK h1 hr hb hx hc
  have HM := Lib.hid (Mem.start w0)
  have HB := HM.out.below
  go_enter Try.func50, Try.ntmps50
  go_wp2_with (first | refine m_rd ?_ | (refine m_wr ?_; clear HM HB; intro w b HM HB; try clear b) | fail)
  refine (HCA.out _ (HR.out.below HB)).mono ?_
  rintro e w' ⟨rfl, rfl⟩
  go_wp2_with (first | (refine m_wr ?_ HM (Wr.litU rfl LT1.out rfl) (wanted_none rfl); clear HM HB; intro w b HM HB) | (refine m_wr ?_ HM (Wr.litU rfl LT2.out rfl) (wanted_none rfl); clear HM HB; intro w b HM HB) | (refine m_apU ?_; clear HM HB; intro w Aq cq HM HB) | (refine m_wr ?_ HM (Wr.put rfl (by kernel_rfl) rfl rfl rfl (by (first | ((repeat (first | with_reducible exact Upd.head _ | with_reducible apply Upd.tail)); done) | ((repeat (first | exact Upd.head _ | apply Upd.tail)); done))) CV1.out (SV_taken K lo re n _ _ _ _ _ _ HK.out)) (wanted_none rfl); clear HM HB; intro w b HM HB) | (refine m_wr ?_ HM (Wr.whole rfl rfl rfl (by (first | ((repeat (first | with_reducible exact Upd.head _ | with_reducible apply Upd.tail)); done) | ((repeat (first | exact Upd.head _ | apply Upd.tail)); done))) (HC2.out _ _)) (wanted_none rfl); clear HM HB; intro w b HM HB) | refine m_rd ?_ | (refine m_wr ?_; clear HM HB; intro w b HM HB; try clear b) | fail)
  apply m_ret_c1
  next => exact rfl
  next => exact rfl
  next => exact rfl
  next => exact HM
  next => (first | ((repeat (first | with_reducible exact List.Mem.head _ | with_reducible apply List.Mem.tail)); done) | ((repeat (first | exact List.Mem.head _ | apply List.Mem.tail)); done))
  next => exact Try.underlying43
  next => rfl
  exact ⟨_, _, rfl, HM.out.ou (by (first | ((repeat (first | with_reducible exact List.Mem.head _ | with_reducible apply List.Mem.tail)); done) | ((repeat (first | exact List.Mem.head _ | apply List.Mem.tail)); done))), HB⟩
end Go.Proofs.Ytapncdgeigbgmaa.Sf
