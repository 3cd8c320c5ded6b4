/- Package addr: whether an address is right; '==' on addresses. -/
import Derived.Test.YtahnibhcfdamdaaAf
import Derived.DeepKeys
import Derived.Laws.StructEq
import Derived.Deep.MidRow
set_option linter.unusedSimpArgs false
set_option linter.unusedVariables false
set_option maxRecDepth 100000
namespace Go.Proofs.Ytahnibhcfdamdaa.Ad
open Go.RowKit Go.Proofs.YtahnibhcfdamdaaW.PrintWords Go.Proofs.Ytahnibhcfdamdaa.Bs Go.Proofs.Ytahnibhcfdamdaa.Av Go.Proofs.Ytahnibhcfdamdaa.Le

theorem mapM_eq {α β : Type} (f : α → Option β) (g : α → β) : ∀ xs : List α, (∀ x ∈ xs, f x = some (g x)) → xs.mapM f = some (xs.map g)
  | [], _ => rfl
  | x :: r, h => by
    rw [List.mapM_cons, h x (List.mem_cons_self ..), mapM_eq f g r (fun z hz => h z (List.mem_cons_of_mem _ hz))]; rfl
theorem flat_single {α : Type} : ∀ xs : List α, (xs.map (fun x => [x])).flatten = xs
  | [] => rfl
  | x :: r => by rw [List.map_cons, List.flatten_cons, flat_single r]; rfl
/-- A byte as a key. -/
def LB (x : UInt8) : Lit := .int .u8 (x.toNat : Int)
theorem lits_byte (d : Nat) (x : UInt8) : Try.prog.keyLits (d + 1) 5 [B x] = some [LB x] := by
  unfold Program.keyLits
  rw [Try.underlying5]
  have h : (Lit.int .u8 (x.toNat : Int)).wf = true := by
    have := x.toNat_lt
    simp only [Lit.wf, decide_eq_true_eq, Bool.and_eq_true]
    exact ⟨by show (0 : Int) ≤ _; omega, by show _ ≤ (255 : Int); omega⟩
  exact if_pos ⟨rfl, h⟩
theorem lits_int (d : Nat) (n : Int) (h0 : -9223372036854775808 ≤ n) (h1 : n ≤ 9223372036854775807) : Try.prog.keyLits (d + 1) 3 [.int .i64 n] = some [.int .i64 n] := by
  unfold Program.keyLits
  rw [Try.underlying3]
  have h : (Lit.int .i64 n).wf = true := by
    simp only [Lit.wf, decide_eq_true_eq, Bool.and_eq_true]
    exact ⟨h0, h1⟩
  exact if_pos ⟨rfl, h⟩
theorem map_range_get (l : List UInt8) : (List.range l.length).map (fun i => [LB (l.getD i 0)]) = l.map (fun x => [LB x]) := by
  apply List.ext_getElem (by simp)
  intro i h1 h2
  have hi : i < l.length := by simpa using h1
  simp [List.getD_eq_getElem?_getD, List.getElem?_eq_getElem hi]
theorem lits_arr (d : Nat) {t : TypeId} {n : Nat} (ht : Try.prog.underlying t = some (.array n 5)) (hc : Try.prog.cellsOf t = n) (l : List UInt8) (hl : l.length = n) : Try.prog.keyLits (d + 2) t (encs B l) = some (l.map LB) := by
  have h1 : Try.prog.cellsOf 5 = 1 := by kernel_rfl
  have hy := mapM_eq (fun i => Try.prog.keyLits (d + 1) 5 (((encs B l).drop (i * Try.prog.cellsOf 5)).take (Try.prog.cellsOf 5))) (fun i => [LB (l.getD i 0)]) (List.range n) (fun i hi => by
    have hin : i < l.length := by rw [hl]; exact List.mem_range.1 hi
    rw [h1, Nat.mul_one]
    have e : ((encs B l).drop i).take 1 = [B (l.getD i 0)] := by
      rw [List.drop_eq_getElem_cons (by rw [encs_length]; exact hin)]
      simp [encs, List.getD_eq_getElem?_getD, List.getElem?_eq_getElem hin]
    rw [e]
    exact lits_byte d _)
  unfold Program.keyLits
  rw [ht]
  simp only []
  rw [if_pos (by rw [encs_length, hc, hl]), hy]
  rw [show List.range n = List.range l.length by rw [hl], map_range_get]
  show some ((l.map (fun x => [LB x])).flatten) = _
  have := flat_single (l.map LB)
  rw [List.map_map] at this
  exact congrArg some this
theorem lits_addr (d : Nat) (v : Int) (l : List UInt8) (h0 : -9223372036854775808 ≤ v) (h1 : v ≤ 9223372036854775807) (hl : l.length = 16) : Try.prog.keyLits (d + 3) 25 (AV [v] l).toList = some (.int .i64 v :: l.map LB) := by
  have k0 : Try.prog.cellsOf 25 = 17 := by kernel_rfl
  have k1 : Try.prog.cellsOf 3 = 1 := by kernel_rfl
  have k2 : Try.prog.cellsOf 23 = 16 := by kernel_rfl
  have hs : (AV [v] l).toList.length = 17 := by rw [Array.length_toList, AV_size]; simp; omega
  have e1 : ((AV [v] l).toList.drop 0).take 1 = [.int .i64 v] := by rw [AV_list]; rfl
  have e2 : ((AV [v] l).toList.drop 1).take 16 = encs B l := by
    rw [AV_list]
    show (encs B l).take 16 = _
    rw [List.take_of_length_le (by rw [encs_length, hl]; exact Nat.le_refl _)]
  have r1 := lits_int (d + 1) v h0 h1
  have r2 := lits_arr d Try.underlying23 k2 l hl
  unfold Program.keyLits
  rw [Try.underlying25]
  simp only []
  rw [if_pos ⟨by rw [hs, k0], by kernel_rfl⟩]
  simp only [List.mapM_cons, List.mapM_nil, k1, k2, e1, e2, r1, r2]
  simp
theorem LB_inj (l m : List UInt8) (h : l.map LB = m.map LB) : l = m := by
  have hinj : ∀ x y : UInt8, LB x = LB y → x = y := fun x y e => by
    unfold LB at e
    injection e with _ e
    exact UInt8.toNat_inj.1 (by omega)
  exact List.map_inj_right (fun x y e => hinj x y e) |>.1 h
theorem eq_addr (v u : Int) (l m : List UInt8) (hv0 : -9223372036854775808 ≤ v) (hv1 : v ≤ 9223372036854775807) (hu0 : -9223372036854775808 ≤ u) (hu1 : u ≤ 9223372036854775807) (hl : l.length = 16) (hm : m.length = 16) (w : World) :
    (Op.equalIn 10000 25 (.agg (AV [v] l)) (.agg (AV [u] m))).run Try.prog w = .ok (v == u && l == m) w := by
  have hf : ∀ (z : Int) (k : List UInt8), k.length = 16 → (Value.agg (AV [z] k)).formed Try.prog 25 = true := by
    intro z k hk
    unfold Value.formed
    rw [Try.underlying25]
    have k0 : Try.prog.cellsOf 25 = 17 := by kernel_rfl
    simp [k0, AV_size, hk]
  obtain ⟨r, hr, hi⟩ := run_equalIn_deep (P := Try.prog) 9997 3 25 (by kernel_rfl) w 3 3 (.agg (AV [v] l)) (.agg (AV [u] m)) _ _ (hf v l hl) (hf u m hm) (lits_addr 0 v l hv0 hv1 hl) (lits_addr 0 u m hu0 hu1 hm)
  rw [hr]
  congr 1
  have e : (r = true) ↔ (v == u && l == m) = true := by
    rw [hi]
    constructor
    · intro h
      injection h with h1 h2
      injection h1 with _ h1
      simp [h1, LB_inj _ _ h2]
    · intro h
      simp at h
      rw [h.1, h.2]
  exact Bool.eq_iff_iff.2 e

set_option maxHeartbeats 1000000 in
theorem right_no (v : Int) (l : List UInt8) (w : World) (hl : l.length = 16) (h6 : (v == 6) = false) (h4 : (v == 4) = false) :
    Calls Try.prog 136 #[.agg (AV [v] l)] w fun e w' => e = .returned (.bool false) ∧ Below w.heap.size w w' := by
  have hb := blk_new w (.cells (AV [v] l) 25)
  have c0 := (blk_cell hb 0).trans (AV_num v [] l)
  have HB := Lib.hid (below_alloc (Below.refl w.heap.size w) (.cells (AV [v] l) 25))
  clear hb
  go_enter Try.func136, Try.ntmps136
  go_wp2_with fail
  go_quiet (fail)
  go_wp2
  go_ret
  exact ⟨rfl, pw_below_drewN HB.out _⟩
set_option maxHeartbeats 1000000 in
theorem right_six (l : List UInt8) (w : World) (hl : l.length = 16) :
    Calls Try.prog 136 #[.agg (AV [6] l)] w fun e w' => e = .returned (.bool true) ∧ Below w.heap.size w w' := by
  have hb := blk_new w (.cells (AV [6] l) 25)
  have c0 := (blk_cell hb 0).trans (AV_num 6 [] l)
  have HB := Lib.hid (below_alloc (Below.refl w.heap.size w) (.cells (AV [6] l) 25))
  clear hb
  go_enter Try.func136, Try.ntmps136
  go_wp2_with fail
  go_quiet (fail)
  go_wp2
  go_ret
  exact ⟨rfl, pw_below_drewN HB.out _⟩

theorem run_arrayAt {P : Program} (W : World) (t : TypeId) {n : Nat} {e : TypeId} (h : P.underlying t = some (.array n e)) (a : Option Addr) (k c : Nat) (hl : n ≤ k) : (Instr.arrayAt t (.slice a k c)).run P W = .ok (.pointer a) W := by
  simp [Instr.arrayAt, run_underlying h, Nat.not_lt.2 hl]
theorem yields_eq {ops : Array Oper} {S : World → Prop} {op : Oper} {a : Act} (hw : Region.wanted op (yielded ops a.tmps) = true) (t u : TypeId) (x y : Operand) (ho : op.op = .binOp .eql t x y u) (vx vy : Array Value) (hx : a.eval x = .agg vx) (hy : a.eval y = .agg vy) (r : Bool) (hgt : Try.prog.eqGuardType Try.prog.depth t = false)
    (he : ∀ w : World, (binOp .eql t (.agg vx) (.agg vy)).run Try.prog w = .ok (.bool r) w) : YieldsIf Try.prog ops S op (.bool r) a :=
  .inl ⟨hw, fun w _ => by
    have := he w
    have hg : (eqGuard .eql t x y (.agg vx) (.agg vy)).run Try.prog w = .ok () w := by simp [eqGuard, hgt]
    simp [execOp, ho, resolve, hx, hy, hg, this, Result.andThen]⟩
/-- An operation of a drawn region is taken first; where its value goes is told. -/
theorem take_at {P : Program} {md : Region.Mode} {ops : Array Oper} {Q : Exit → Act → World → Prop} {S : World → Prop} (i : Nat) (d : Nat) (v : Value) {oi : Oper} {fuel : Nat} {listed : Array Bool} {a : Act} {w : World} (hi : ops[i]? = some oi) (hd : oi.dst = some d)
    (hs : Region.noSelect ops = true) (hf : Region.free md ops listed i = true) (hr : (Region.ready md ops listed).contains i = true)
    (hQ : ∀ c a w, Q (.panic c) (a.put (some d) v) w → Q (.panic c) a w) (hy : YieldsIf P ops S oi v a) (hS : S w)
    (h : wpAnyH P md ops Q S fuel (listed.setIfInBounds i true) (a.put (some d) v) w) : wpAnyH P md ops Q S (fuel + 1) listed a w :=
  wpAnyH_take hi hs hf hr (by rw [hd]; exact hQ) hy hS (by rw [hd]; exact h)
/-- What stands at the head of an address is the array of its first four bytes. -/
theorem range_four {w : World} {b : Nat} {v : Int} {l : List UInt8} {T : TypeId} (h : w.heap[b]? = some (.cells (AV [v] l) T (0, 0))) (n : Nat) (hn : n ≤ l.length) : w.rangeAt b 1 (encs B (l.take n)) := fun j z hz => by
  obtain ⟨hj, _⟩ := List.getElem?_eq_some_iff.1 hz
  rw [encs_length, List.length_take] at hj
  have hj2 : j < n := by omega
  rw [encs_get (d := 0) _ j (by rw [List.length_take]; omega)] at hz
  rw [← hz]
  refine (blk_cell h (1 + j)).trans ?_
  rw [AV_at [v] l (1 + j) j rfl (by omega)]
  congr 3
  simp [List.getD_eq_getElem?_getD, List.getElem?_take, hj2]
set_option maxHeartbeats 1000000 in
theorem right_four (l : List UInt8) (w : World) (hl : l.length = 16) :
    Calls Try.prog 136 #[.agg (AV [4] l)] w fun e w' => e = .returned (.bool ((l.drop 4).all (· == 0))) ∧ Below w.heap.size w w' := by
  have hb := blk_new w (.cells (AV [4] l) 25)
  have c0 := (blk_cell hb 0).trans (AV_num 4 [] l)
  have g1 := range_block hb
  have g2 := range_four hb 4 (by omega)
  have HB := Lib.hid (below_alloc (Below.refl w.heap.size w) (.cells (AV [4] l) 25))
  have hu := Try.underlying25
  have hu4 := Try.underlying103
  have hi : (Try.prog.info? 25).map (·.size) = some (AV [4] l).toList.length := by rw [Array.length_toList]; exact info_AV 4 l hl
  have hi4 : (Try.prog.info? 103).map (·.size) = some (encs B (l.take 4)).length := by rw [encs_length, List.length_take, hl]; exact info4
  have HL4 : Hid ((l.take 4).length = 4) := Lib.hid (by rw [List.length_take, hl]; rfl)
  have HE : ∀ w : World, (Op.equalIn 10000 25 (.agg (AV [4] l)) (.agg (AV [4] (l.take 4 ++ List.replicate 12 0)))).run Try.prog w = .ok ((l.drop 4).all (· == 0)) w := fun w => by
    rw [eq_addr 4 4 l (l.take 4 ++ List.replicate 12 0) (by decide) (by decide) (by decide) (by decide) hl (by rw [List.length_append, List.length_take, List.length_replicate, hl]; rfl)]
    congr 1
    refine Bool.eq_iff_iff.2 ?_
    have e : l = l.take 4 ++ l.drop 4 := (List.take_append_drop 4 l).symm
    constructor
    · intro h
      simp only [beq_self_eq_true, Bool.true_and, beq_iff_eq] at h
      have h2 : l.drop 4 = List.replicate 12 0 := by
        rw [h, List.drop_append_of_le_length (by rw [List.length_take, hl]; decide)]
        simp [hl]
      rw [h2]; rfl
    · intro h
      simp only [beq_self_eq_true, Bool.true_and, beq_iff_eq]
      have h2 : l.drop 4 = List.replicate 12 0 := List.eq_replicate_iff.2 ⟨by rw [List.length_drop, hl], fun x hx => by simpa using (List.all_eq_true.1 h) x hx⟩
      rw [← h2]; exact e
  have HEQ : ∀ w : World, (binOp .eql 25 (.agg (AV [4] l)) (.agg (AV [4] (l.take 4 ++ List.replicate 12 0)))).run Try.prog w = .ok (.bool ((l.drop 4).all (· == 0))) w := fun w => by rw [run_eql_struct, HE]; rfl
  clear hb hl
  generalize ((l.drop 4).all (· == 0)) = r at HEQ ⊢
  clear HE
  go_enter Try.func136, Try.ntmps136
  go_wp2_with fail
  have HSZ : Hid ((w.alloc (.cells (AV [4] l) 25)).heap.size = w.heap.size + 1) := Lib.hid (size_push _ _)
  generalize w.alloc (.cells (AV [4] l) 25) = X at c0 g1 g2 HB HSZ ⊢
  have LD8 : ∀ {ops : Array Oper} {op : Oper} {a : Act}, Region.wanted op (yielded ops a.tmps) = true → op.op = .load 25 (.tmp 1) → a.eval (.tmp 1) = .pointer (some ⟨w.heap.size, 0, none⟩) → YieldsIf Try.prog ops (fun w' => w'.rangeAt w.heap.size 0 (AV [4] l).toList ∧ w'.rangeAt w.heap.size 1 (encs B (l.take 4)) ∧ w'.cell? ⟨w.heap.size, 0, none⟩ = some (.int .i64 4)) op (.agg (AV [4] l)) a := fun hw ho hx => yieldsIf_load_mid hw _ _ ho w.heap.size 0 hx (AV [4] l).toList _ (fun w h => h.1) hu rfl hi
  have LD12 : ∀ {ops : Array Oper} {op : Oper} {a : Act}, Region.wanted op (yielded ops a.tmps) = true → op.op = .load 103 (.tmp 14) → a.eval (.tmp 14) = .pointer (some ⟨w.heap.size, 1, none⟩) → YieldsIf Try.prog ops (fun w' => w'.rangeAt w.heap.size 0 (AV [4] l).toList ∧ w'.rangeAt w.heap.size 1 (encs B (l.take 4)) ∧ w'.cell? ⟨w.heap.size, 0, none⟩ = some (.int .i64 4)) op (.agg (encs B (l.take 4)).toArray) a := fun hw ho hx => yieldsIf_load_mid hw _ _ ho w.heap.size 1 hx (encs B (l.take 4)) _ (fun w h => h.2.1) hu4 rfl hi4
  have G := And.intro g1 (And.intro g2 c0)
  clear hu hu4 hi hi4 g1 g2 c0
  refine wp_region_held_drew (S := fun w' => w'.rangeAt w.heap.size 0 (AV [4] l).toList ∧ w'.rangeAt w.heap.size 1 (encs B (l.take 4)) ∧ w'.cell? ⟨w.heap.size, 0, none⟩ = some (.int .i64 4)) (by kernel_rfl) G (fun hS => ?_)
  refine' take_at 0 3 (.pointer (some ⟨w.heap.size, 0, none⟩)) rfl rfl (by kernel_rfl) (by kernel_rfl) (by kernel_rfl) (fun _ _ _ h => h) (Or.inl ⟨by kernel_rfl, fun w' hw => by (try have hw2 := hw.2.2); go_simp⟩) hS ?_
  try simp only [Act.put, List.setIfInBounds_toArray, List.set_cons_zero, List.set_cons_succ]
  refine' take_at 1 4 (.int .i64 4) rfl rfl (by kernel_rfl) (by kernel_rfl) (by kernel_rfl) (fun _ _ _ h => h) (Or.inl ⟨by kernel_rfl, fun w' hw => by (try have hw2 := hw.2.2); go_simp⟩) hS ?_
  try simp only [Act.put, List.setIfInBounds_toArray, List.set_cons_zero, List.set_cons_succ]
  refine' take_at 2 5 (.bool false) rfl rfl (by kernel_rfl) (by kernel_rfl) (by kernel_rfl) (fun _ _ _ h => h) (Or.inl ⟨by kernel_rfl, fun w' hw => by (try have hw2 := hw.2.2); go_simp⟩) hS ?_
  try simp only [Act.put, List.setIfInBounds_toArray, List.set_cons_zero, List.set_cons_succ]
  refine' take_at 3 6 (.bool false) rfl rfl (by kernel_rfl) (by kernel_rfl) (by kernel_rfl) (fun _ _ _ h => h) (Or.inl ⟨by kernel_rfl, fun w' hw => by (try have hw2 := hw.2.2); go_simp⟩) hS ?_
  try simp only [Act.put, List.setIfInBounds_toArray, List.set_cons_zero, List.set_cons_succ]
  refine' take_at 4 7 (.pointer (some ⟨w.heap.size, 0, none⟩)) rfl rfl (by kernel_rfl) (by kernel_rfl) (by kernel_rfl) (fun _ _ _ h => h) (Or.inl ⟨by kernel_rfl, fun w' hw => by (try have hw2 := hw.2.2); go_simp⟩) hS ?_
  try simp only [Act.put, List.setIfInBounds_toArray, List.set_cons_zero, List.set_cons_succ]
  refine' take_at 5 8 (.int .i64 4) rfl rfl (by kernel_rfl) (by kernel_rfl) (by kernel_rfl) (fun _ _ _ h => h) (Or.inl ⟨by kernel_rfl, fun w' hw => by (try have hw2 := hw.2.2); go_simp⟩) hS ?_
  try simp only [Act.put, List.setIfInBounds_toArray, List.set_cons_zero, List.set_cons_succ]
  refine' take_at 6 9 (.bool true) rfl rfl (by kernel_rfl) (by kernel_rfl) (by kernel_rfl) (fun _ _ _ h => h) (Or.inl ⟨by kernel_rfl, fun w' hw => by (try have hw2 := hw.2.2); go_simp⟩) hS ?_
  try simp only [Act.put, List.setIfInBounds_toArray, List.set_cons_zero, List.set_cons_succ]
  refine' take_at 7 10 (.bool true) rfl rfl (by kernel_rfl) (by kernel_rfl) (by kernel_rfl) (fun _ _ _ h => h) (Or.inl ⟨by kernel_rfl, fun w' hw => by (try have hw2 := hw.2.2); go_simp⟩) hS ?_
  try simp only [Act.put, List.setIfInBounds_toArray, List.set_cons_zero, List.set_cons_succ]
  refine take_at 8 11 (.agg (AV [4] l)) rfl rfl (by kernel_rfl) (by kernel_rfl) (by kernel_rfl) (fun _ _ _ h => h) (LD8 ?qw rfl rfl) hS ?_
  case qw => kernel_rfl
  try simp only [Act.put, List.setIfInBounds_toArray, List.set_cons_zero, List.set_cons_succ]
  refine' take_at 9 12 (.pointer (some ⟨w.heap.size, 1, none⟩)) rfl rfl (by kernel_rfl) (by kernel_rfl) (by kernel_rfl) (fun _ _ _ h => h) (Or.inl ⟨by kernel_rfl, fun w' hw => by (try have hw2 := hw.2.2); go_simp⟩) hS ?_
  try simp only [Act.put, List.setIfInBounds_toArray, List.set_cons_zero, List.set_cons_succ]
  refine' take_at 10 13 (.slice (some ⟨w.heap.size, 1, none⟩) 4 16) rfl rfl (by kernel_rfl) (by kernel_rfl) (by kernel_rfl) (fun _ _ _ h => h) (Or.inl ⟨by kernel_rfl, fun w' hw => by (try have hw2 := hw.2.2); go_simp⟩) hS ?_
  try simp only [Act.put, List.setIfInBounds_toArray, List.set_cons_zero, List.set_cons_succ]
  refine' take_at 11 14 (.pointer (some ⟨w.heap.size, 1, none⟩)) rfl rfl (by kernel_rfl) (by kernel_rfl) (by kernel_rfl) (fun _ _ _ h => h) (Or.inl ⟨by kernel_rfl, fun w' hw => by (try have hw2 := hw.2.2); go_simp; rw [run_arrayAt w' _ Try.underlying103 _ _ _ (by decide)]; rfl⟩) hS ?_
  try simp only [Act.put, List.setIfInBounds_toArray, List.set_cons_zero, List.set_cons_succ]
  refine take_at 12 15 (.agg (encs B (l.take 4)).toArray) rfl rfl (by kernel_rfl) (by kernel_rfl) (by kernel_rfl) (fun _ _ _ h => h) (LD12 ?qw rfl rfl) hS ?_
  case qw => kernel_rfl
  try simp only [Act.put, List.setIfInBounds_toArray, List.set_cons_zero, List.set_cons_succ]
  refine wpAnyH_ready (rs := [13]) (by kernel_rfl) (by simp) (AllReadyH.cons rfl (fun K' hK => ?_) AllReadyH.nil)
  go_simp
  refine (four_any (l.take 4) _ HL4.out).mono ?_
  rintro e w2 ⟨rfl, hb2⟩
  have hlt : w.heap.size < X.drew.heap.size := by show w.heap.size < X.heap.size; rw [HSZ.out]; omega
  refine hK.out _ _ ⟨fun j z h => (hb2.cell hlt).trans (hS.1 j z h), fun j z h => (hb2.cell hlt).trans (hS.2.1 j z h), (hb2.cell hlt).trans hS.2.2⟩ (fun hS2 => ?_)
  have HB2 := Lib.hid ((below_drew HB.out).trans (hb2.mono (Nat.le_of_lt hlt)))
  clear hb2 hlt hS hK
  refine' take_at 14 17 (.bool r) rfl rfl (by kernel_rfl) (by kernel_rfl) (by kernel_rfl) (fun _ _ _ h => h) (yields_eq (by kernel_rfl) 25 _ _ _ rfl (AV [4] l) (AV [4] (l.take 4 ++ List.replicate 12 0)) rfl rfl r (by kernel_rfl) HEQ) hS2 ?_
  try simp only [Act.put, List.setIfInBounds_toArray, List.set_cons_zero, List.set_cons_succ]
  refine' take_at 15 18 (.bool r) rfl rfl (by kernel_rfl) (by kernel_rfl) (by kernel_rfl) (fun _ _ _ h => h) (Or.inl ⟨by kernel_rfl, fun w' hw => by go_simp⟩) hS2 ?_
  try simp only [Act.put, List.setIfInBounds_toArray, List.set_cons_zero, List.set_cons_succ]
  refine' take_at 16 19 (.bool r) rfl rfl (by kernel_rfl) (by kernel_rfl) (by kernel_rfl) (fun _ _ _ h => h) (Or.inl ⟨by kernel_rfl, fun w' hw => by go_simp⟩) hS2 ?_
  try simp only [Act.put, List.setIfInBounds_toArray, List.set_cons_zero, List.set_cons_succ]
  refine' take_at 17 2 (.bool r) rfl rfl (by kernel_rfl) (by kernel_rfl) (by kernel_rfl) (fun _ _ _ h => h) (Or.inl ⟨by kernel_rfl, fun w' hw => by go_simp⟩) hS2 ?_
  try simp only [Act.put, List.setIfInBounds_toArray, List.set_cons_zero, List.set_cons_succ]
  refine wpAnyH_done (by kernel_rfl) ?_ _
  go_wp2
  go_ret
  exact ⟨rfl, HB2.out⟩
end Go.Proofs.Ytahnibhcfdamdaa.Ad
