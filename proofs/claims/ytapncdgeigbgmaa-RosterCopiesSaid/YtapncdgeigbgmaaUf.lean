/- Package roster: what each function does without a roster; a new one; keys put, taken out and told; the chapter's example. -/
import Derived.Test.YtapncdgeigbgmaaUe
set_option linter.unusedSimpArgs false
set_option linter.unusedVariables false
set_option linter.unusedSectionVars false
set_option maxRecDepth 100000
namespace Go.Proofs.Ytapncdgeigbgmaa.Tb
open Go.RowKit Go.Proofs.YtapncdgeigbgmaaW.PrintWords Go.Proofs.Ytapncdgeigbgmaa.Bs Go.Proofs.Ytapncdgeigbgmaa.Gm Go.Proofs.Ytapncdgeigbgmaa.Sf

theorem neqMapI (m : Option Nat) (w : World) : (binOp .neq 80 (.map m) (.map none)).run Try.prog w = .ok (.bool (!m.isNone)) w := run_neq_map_nil w _ _ _ m Try.underlying80
theorem rmade_no {w : World} {v : Value} (h : NoTab w v) : Calls Try.prog 62 #[v] w fun e w' => e = .returned (.bool false) ∧ w = w' := by
  rcases h with rfl | ⟨b, rfl, hc⟩
  · go_enter Try.func62, Try.ntmps62
    go_wp2
    go_ret
    exact ⟨rfl, rfl⟩
  · have hne := neqMapI
    go_enter Try.func62, Try.ntmps62
    go_wp2
    go_ret
    exact ⟨rfl, rfl⟩
theorem rmade_yes {w : World} {b bb : Nat} (hc : w.cell? ⟨b, 0, none⟩ = some (.map (some bb))) : Calls Try.prog 62 #[.pointer (some ⟨b, 0, none⟩)] w fun e w' => e = .returned (.bool true) ∧ w = w' := by
  have hne := neqMapI
  go_enter Try.func62, Try.ntmps62
  go_wp2
  go_ret
  exact ⟨rfl, rfl⟩
theorem rlen_no {w : World} {v : Value} (h : NoTab w v) : Calls Try.prog 35 #[v] w fun e w' => e = .returned (.int .i64 0) ∧ w = w' := by
  have H := Lib.hid h
  clear h
  go_enter Try.func35, Try.ntmps35
  go_wp2_with fail
  refine (rmade_no H.out).mono ?_
  rintro e w' ⟨rfl, rfl⟩
  go_wp2_with fail
  go_ret
  exact ⟨rfl, rfl⟩
theorem clear_no {w : World} {v : Value} (h : NoTab w v) : Calls Try.prog 34 #[v] w fun e w' => e = .returned (.int .i64 0) ∧ w = w' := by
  have H := Lib.hid h
  clear h
  go_enter Try.func34, Try.ntmps34
  go_wp2_with fail
  refine (rlen_no H.out).mono ?_
  rintro e w' ⟨rfl, rfl⟩
  go_wp2_with fail
  refine (rmade_no H.out).mono ?_
  rintro e w' ⟨rfl, rfl⟩
  go_wp2_with fail
  go_ret
  exact ⟨rfl, rfl⟩
theorem add_no {w0 : World} {v : Value} (h : NoTab w0 v) (k : Key) : Calls Try.prog 32 #[v, .agg (keyC k)] w0 fun e w' => e = .returned (.tuple #[.int .i64 0, .int .i64 2]) ∧ Below w0.heap.size w0 w' := by
  have H := Lib.hid h
  have HC := Lib.hid (cells_key (keyC k) (keyC_size k) (keyC_one k))
  clear h
  have HM := Lib.hid (Mem.start w0)
  have HB := HM.out.below
  go_enter Try.func32, Try.ntmps32
  go_wp2_with (first | refine m_rd ?_ | (refine m_wr ?_; clear HM HB; intro w b HM HB; try clear b) | fail)
  refine (rmade_no (H.out.below HB)).mono ?_
  rintro e w' ⟨rfl, rfl⟩
  go_wp2_with fail
  go_ret2
  exact ⟨rfl, HB⟩
theorem rdrop_no {w0 : World} {v : Value} (h : NoTab w0 v) (k : Key) : Calls Try.prog 33 #[v, .agg (keyC k)] w0 fun e w' => e = .returned (.int .i64 2) ∧ Below w0.heap.size w0 w' := by
  have H := Lib.hid h
  have HC := Lib.hid (cells_key (keyC k) (keyC_size k) (keyC_one k))
  clear h
  have HM := Lib.hid (Mem.start w0)
  have HB := HM.out.below
  go_enter Try.func33, Try.ntmps33
  go_wp2_with (first | refine m_rd ?_ | (refine m_wr ?_; clear HM HB; intro w b HM HB; try clear b) | fail)
  refine (rmade_no (H.out.below HB)).mono ?_
  rintro e w' ⟨rfl, rfl⟩
  go_wp2_with fail
  go_ret
  exact ⟨rfl, HB⟩
theorem id_no {w0 : World} {v : Value} (h : NoTab w0 v) (k : Key) : Calls Try.prog 28 #[v, .agg (keyC k)] w0 fun e w' => e = .returned (.tuple #[.int .i64 0, .bool false]) ∧ Below w0.heap.size w0 w' := by
  have H := Lib.hid h
  have HC := Lib.hid (cells_key (keyC k) (keyC_size k) (keyC_one k))
  clear h
  have HM := Lib.hid (Mem.start w0)
  have HB := HM.out.below
  go_enter Try.func28, Try.ntmps28
  go_wp2_with (first | refine m_rd ?_ | (refine m_wr ?_; clear HM HB; intro w b HM HB; try clear b) | fail)
  refine (rmade_no (H.out.below HB)).mono ?_
  rintro e w' ⟨rfl, rfl⟩
  go_wp2_with fail
  go_ret2
  exact ⟨rfl, HB⟩
theorem copy_nil (w : World) : Calls Try.prog 31 #[.pointer none] w fun e w' => e = .returned (.pointer none) ∧ w = w' := by
  go_enter Try.func31, Try.ntmps31
  go_wp2
  go_ret
  exact ⟨rfl, rfl⟩
theorem keys_no {w0 : World} {v : Value} (h : NoTab w0 v) (h1 : v.oneCell' = true) : Calls Try.prog 36 #[v] w0 fun e w' => e = .returned (.slice none 0 0) ∧ Below w0.heap.size w0 w' := by
  obtain ⟨A, rfl⟩ : ∃ A, v = .pointer A := by
    rcases h with h | ⟨b, h, _⟩ <;> exact ⟨_, h⟩
  have H := Lib.hid h
  clear h
  have HM := Lib.hid (Mem.start w0)
  have HB := HM.out.below
  go_enter Try.func36, Try.ntmps36
  go_wp2_with fail
  replace HM := Lib.hid (HM.out.alloc #[.pointer A] 61 (by kernel_rfl))
  replace HB := HM.out.below
  generalize World.alloc w0 (.cells #[.pointer A] 61) = w at HM HB ⊢
  refine (rmade_no (H.out.below HB)).mono ?_
  rintro e w' ⟨rfl, rfl⟩
  go_wp2_with fail
  go_ret
  exact ⟨rfl, HB⟩
theorem build_zero : Built 29 #[] (.agg ZK) := fun W => by kernel_rfl
theorem eql_zero : EqlOf 29 ZK ZK true := fun W => by kernel_rfl
theorem key_no {w0 : World} {v : Value} (h : NoTab w0 v) (h1 : v.oneCell' = true) (id : Int) : Calls Try.prog 29 #[v, .int .i64 id] w0 fun e w' => e = .returned (.tuple #[.agg ZK, .bool false]) ∧ Below w0.heap.size w0 w' := by
  have H := Lib.hid h
  have H1 := Lib.hid h1
  have AL1 := Lib.hid zeroKey
  have BH1 := Lib.hid build_zero
  have HC := Lib.hid zeroKey.2
  clear h h1
  have HM := Lib.hid (Mem.start w0)
  have HB := HM.out.below
  go_enter Try.func29, Try.ntmps29
  go_wp2_with (first | refine m_rd ?_ | (refine m_wr ?_; clear HM HB; intro w b HM HB; try clear b) | fail)
  refine (keys_no (H.out.below HB) H1.out).mono ?_
  rintro e w ⟨rfl, hb⟩
  replace HM := Lib.hid (HM.out.call hb)
  replace HB := HM.out.below
  clear hb
  go_wp2_with (first | refine m_rd ?_ | (refine m_wr ?_; clear HM HB; intro w b HM HB; try clear b) | fail)
  go_loopw [11] (fun v11 wr => v11 = .int .i64 0 ∧ HMem w0 wr [Ent.blk b ZK 29]) (fun _ _ => 0)
  case atStart => exact ⟨rfl, HM⟩
  case round =>
    clear HM HB
    obtain ⟨rfl, HM⟩ := hrel
    have HB := HM.out.below
    go_wp2_with (first | refine m_rd ?_ | (refine m_wr ?_; clear HM HB; intro w b HM HB; try clear b) | fail)
    apply m_ret_c1
    next => exact rfl
    next => exact rfl
    next => exact rfl
    next => exact HM
    next => (first | ((repeat (first | with_reducible exact List.Mem.head _ | with_reducible apply List.Mem.tail)); done) | ((repeat (first | exact List.Mem.head _ | apply List.Mem.tail)); done))
    next => exact Try.underlying29
    next => rfl
    exact ⟨rfl, HB⟩
section
variable {w0 : World} {es : List Ent} {op : Oper} {a : Act} {tm tk : Operand} {b : Nat} {l : List (Key × Int)} {k : Key} {v : Int}
theorem look_i1 (ho : op.op = .lookup MI.t tm tk true) (hm : a.eval tm = .map (some b)) (hk : a.eval tk = .agg (keyC k)) (m : mapE MI b l ∈ es) (hg : getK l k = some v) : Rd w0 es op a (.tuple #[.int .i64 v, .bool true]) := Rd.look LI ho hm hk m hg
theorem look_i0 (ho : op.op = .lookup MI.t tm tk true) (hm : a.eval tm = .map (some b)) (hk : a.eval tk = .agg (keyC k)) (m : mapE MI b l ∈ es) (hg : getK l k = none) : Rd w0 es op a (.tuple #[.int .i64 0, .bool false]) := Rd.look LI ho hm hk m hg
end
theorem ros_cell {w0 w : World} {es : List Ent} {br bm : Nat} {last : Int} (HM : Mem w0 w es) (m : rosB br bm last ∈ es) : w.cell? ⟨br, 0, none⟩ = some (.map (some bm)) := (blk_cell (HM.get m) 0).trans rfl
theorem built_ros (x : Nat) : Built 82 #[(0, .map (some x))] (.agg #[.map (some x), .int .i64 0]) := fun W => by kernel_rfl
theorem cells_ros (x : Nat) (n : Int) : Cells 82 #[.map (some x), .int .i64 n] := ⟨by kernel_rfl, by simp [Value.oneCell']⟩
theorem new_ros (w0 : World) : Calls Try.prog 25 #[] w0 fun e w' => ∃ br bm, e = .returned (.pointer (some ⟨br, 0, none⟩)) ∧ HMem w0 w' [rosB br bm 0, mapE MI bm []] := by
  have HM := Lib.hid (Mem.start w0)
  have HB := HM.out.below
  go_enter Try.func25, Try.ntmps25
  go_wp2_with (first | (refine m_wr ?_ HM (Wr.mnew LI rfl) (wanted_none rfl); clear HM HB; intro w bm HM HB) | (refine m_rd ?_ HM (Rd.build rfl (built_ros bm) rfl) (wanted_none rfl)) | (refine m_wr ?_ HM (Wr.box rfl rfl (cells_ros bm 0)) (wanted_none rfl); clear HM HB; intro w br HM HB))
  go_ret
  exact ⟨br, bm, rfl, HM⟩
set_option maxHeartbeats 1000000 in
/-- A key is put. -/
theorem add_new {w0 w : World} {es : List Ent} {br bm : Nat} {last : Int} {l : List (Key × Int)} (k : Key) (HM : HMem w0 w (rosB br bm last :: mapE MI bm l :: es)) (hg : getK l k = none) (hl : l.length < 16) (h0 : 0 ≤ last) (h1 : last < 1000000) :
    Calls Try.prog 32 #[.pointer (some ⟨br, 0, none⟩), .agg (keyC k)] w fun e w' => e = .returned (.tuple #[.int .i64 (last + 1), .int .i64 0]) ∧ HMem w0 w' (rosB br bm (last + 1) :: mapE MI bm (putK l k (last + 1)) :: es) := by
  have HC := Lib.hid (cells_key (keyC k) (keyC_size k) (keyC_one k))
  have HG := Lib.hid hg
  have HB := HM.out.below
  obtain ⟨N, hN⟩ : ∃ N, l.length = N := ⟨_, rfl⟩
  have hge : decide ((16 : Int) ≤ (N : Int)) = false := decide_eq_false (by omega)
  have CV1 : Hid ((#[.map (some bm), .int .i64 last] : Array Value)[1]? = some (.int .i64 last)) := Lib.hid rfl
  have CV2 : Hid ((#[.map (some bm), .int .i64 (last + 1)] : Array Value)[1]? = some (.int .i64 (last + 1))) := Lib.hid rfl
  have PU1 : Hid ((#[.map (some bm), .int .i64 last] : Array Value).setIfInBounds 1 (.int .i64 (last + 1)) = #[.map (some bm), .int .i64 (last + 1)]) := Lib.hid rfl
  have hwr : IntKind.i64.wrap (last + 1) = last + 1 := by rw [IntKind.wrap_i64]; omega
  clear hg hl h0 h1
  go_enter Try.func32, Try.ntmps32
  go_wp2_with (first | refine m_rd ?_ | (refine m_wr ?_; clear HM HB; intro w b HM HB; try clear b) | fail)
  refine (rmade_yes (ros_cell HM.out (by (first | ((repeat (first | with_reducible exact List.Mem.head _ | with_reducible apply List.Mem.tail)); done) | ((repeat (first | exact List.Mem.head _ | apply List.Mem.tail)); done))))).mono ?_
  rintro e w' ⟨rfl, rfl⟩
  go_wp2_with fail
  try simp only [Act.put, List.setIfInBounds_toArray, List.set_cons_zero, List.set_cons_succ]
  refine wp_region_held_drew (S := fun w' => Mem w0 w' (Ent.blk b (keyC k) 29 :: rosB br bm last :: [])) (by kernel_rfl) (HM.out.drew.two) (fun hS => ?_)
  replace HM := Lib.hid HM.out.drew
  replace HB := HM.out.below
  refine tk 0 12 ?_
  refine tk 1 13 ?_
  refine tk 2 14 ?_
  refine tkv 3 15 (.map (some bm)) rfl (yields_cell rfl (by kernel_rfl) rfl (fun _ h => h) (by (first | ((repeat (first | with_reducible exact List.Mem.head _ | with_reducible apply List.Mem.tail)); done) | ((repeat (first | exact List.Mem.head _ | apply List.Mem.tail)); done))) rfl (by kernel_rfl)) ?_
  refine tkv 4 16 _ rfl (yields_own rfl rfl (fun _ h => h) (by (first | ((repeat (first | with_reducible exact List.Mem.head _ | with_reducible apply List.Mem.tail)); done) | ((repeat (first | exact List.Mem.head _ | apply List.Mem.tail)); done))) Try.underlying29 rfl HC.out.1 (by kernel_rfl)) ?_
  refine rone 5 rfl fun K' hK => ?_
  refine s_rd ?_ HM (look_i0 (k := k) rfl rfl rfl (by (first | ((repeat (first | with_reducible exact List.Mem.head _ | with_reducible apply List.Mem.tail)); done) | ((repeat (first | exact List.Mem.head _ | apply List.Mem.tail)); done))) HG.out) (by kernel_rfl)
  refine hK.out _ _ (HM.out.two) (fun hS2 => ?_)
  clear hS hK
  have hS := hS2
  clear hS2
  try simp only [Act.put, List.setIfInBounds_toArray, List.set_cons_zero, List.set_cons_succ]
  refine tk 6 11 ?_
  refine tk 7 18 ?_
  refine tk 8 19 ?_
  refine tk 9 6 ?_
  refine tk 10 7 ?_
  refine wpAnyH_done (by kernel_rfl) ?_ _
  clear hS
  have hc := ros_cell HM.out (by (first | ((repeat (first | with_reducible exact List.Mem.head _ | with_reducible apply List.Mem.tail)); done) | ((repeat (first | exact List.Mem.head _ | apply List.Mem.tail)); done)))
  go_wp2_with (first | (refine m_rd ?_ HM (Rd.mlen LI rfl rfl (by (first | ((repeat (first | with_reducible exact List.Mem.head _ | with_reducible apply List.Mem.tail)); done) | ((repeat (first | exact List.Mem.head _ | apply List.Mem.tail)); done))) hN) (wanted_none rfl)) | refine m_rd ?_ | (refine m_wr ?_; clear HM HB; intro w b HM HB; try clear b) | fail)
  clear hc hge hN
  try simp only [Act.put, List.setIfInBounds_toArray, List.set_cons_zero, List.set_cons_succ]
  refine wp_region_held_drew (S := fun w' => Mem w0 w' (Ent.blk b (keyC k) 29 :: rosB br bm (last + 1) :: [])) (by kernel_rfl) (HM.out.drew.two) (fun hS => ?_)
  replace HM := Lib.hid HM.out.drew
  replace HB := HM.out.below
  refine tk 0 34 ?_
  refine tk 1 35 ?_
  refine tk 2 36 ?_
  refine tkv 3 37 (.map (some bm)) rfl (yields_cell rfl (by kernel_rfl) rfl (fun _ h => h) (by (first | ((repeat (first | with_reducible exact List.Mem.head _ | with_reducible apply List.Mem.tail)); done) | ((repeat (first | exact List.Mem.head _ | apply List.Mem.tail)); done))) rfl (by kernel_rfl)) ?_
  refine tkv 4 38 _ rfl (yields_own rfl rfl (fun _ h => h) (by (first | ((repeat (first | with_reducible exact List.Mem.head _ | with_reducible apply List.Mem.tail)); done) | ((repeat (first | exact List.Mem.head _ | apply List.Mem.tail)); done))) Try.underlying29 rfl HC.out.1 (by kernel_rfl)) ?_
  refine tk 5 39 ?_
  refine tk 6 40 ?_
  refine tk 7 41 ?_
  refine tkv 8 42 (.int .i64 (last + 1)) rfl (yields_cell rfl (by kernel_rfl) rfl (fun _ h => h) (by (first | ((repeat (first | with_reducible exact List.Mem.head _ | with_reducible apply List.Mem.tail)); done) | ((repeat (first | exact List.Mem.head _ | apply List.Mem.tail)); done))) rfl (by kernel_rfl)) ?_
  refine rone 9 rfl fun K' hK => ?_
  refine s_wr ?_ HM (Wr.mput LI (x := k) (y := last + 1) rfl rfl rfl rfl (by (first | ((repeat (first | with_reducible exact Upd.head _ | with_reducible apply Upd.tail)); done) | ((repeat (first | exact Upd.head _ | apply Upd.tail)); done)))) (by kernel_rfl)
  clear HM HB
  intro w _ HM HB
  refine hK.out _ _ (HM.out.two) (fun hS2 => ?_)
  clear hS hK
  have hS := hS2
  clear hS2
  try simp only [Act.put, List.setIfInBounds_toArray, List.set_cons_zero, List.set_cons_succ]
  refine wpAnyH_done (by kernel_rfl) ?_ _
  clear hS
  go_wp2_with (first | refine m_rd ?_ | (refine m_wr ?_; clear HM HB; intro w b HM HB; try clear b) | fail)
  go_ret2
  exact ⟨rfl, Lib.hid HM.out.tail⟩
set_option maxHeartbeats 1000000 in
/-- A key goes. -/
theorem rdrop_some {w0 w : World} {es : List Ent} {br bm : Nat} {last v : Int} {l : List (Key × Int)} (k : Key) (HM : HMem w0 w (rosB br bm last :: mapE MI bm l :: es)) (hg : getK l k = some v) :
    Calls Try.prog 33 #[.pointer (some ⟨br, 0, none⟩), .agg (keyC k)] w fun e w' => e = .returned (.int .i64 0) ∧ HMem w0 w' (rosB br bm last :: mapE MI bm (delK l k) :: es) := by
  have HC := Lib.hid (cells_key (keyC k) (keyC_size k) (keyC_one k))
  have HG := Lib.hid hg
  have HB := HM.out.below
  clear hg
  go_enter Try.func33, Try.ntmps33
  go_wp2_with (first | refine m_rd ?_ | (refine m_wr ?_; clear HM HB; intro w b HM HB; try clear b) | fail)
  refine (rmade_yes (ros_cell HM.out (by (first | ((repeat (first | with_reducible exact List.Mem.head _ | with_reducible apply List.Mem.tail)); done) | ((repeat (first | exact List.Mem.head _ | apply List.Mem.tail)); done))))).mono ?_
  rintro e w' ⟨rfl, rfl⟩
  go_wp2_with fail
  try simp only [Act.put, List.setIfInBounds_toArray, List.set_cons_zero, List.set_cons_succ]
  refine wp_region_held_drew (S := fun w' => Mem w0 w' (Ent.blk b (keyC k) 29 :: rosB br bm last :: [])) (by kernel_rfl) (HM.out.drew.two) (fun hS => ?_)
  replace HM := Lib.hid HM.out.drew
  replace HB := HM.out.below
  refine tk 0 11 ?_
  refine tk 1 12 ?_
  refine tk 2 13 ?_
  refine tkv 3 14 (.map (some bm)) rfl (yields_cell rfl (by kernel_rfl) rfl (fun _ h => h) (by (first | ((repeat (first | with_reducible exact List.Mem.head _ | with_reducible apply List.Mem.tail)); done) | ((repeat (first | exact List.Mem.head _ | apply List.Mem.tail)); done))) rfl (by kernel_rfl)) ?_
  refine tkv 4 15 _ rfl (yields_own rfl rfl (fun _ h => h) (by (first | ((repeat (first | with_reducible exact List.Mem.head _ | with_reducible apply List.Mem.tail)); done) | ((repeat (first | exact List.Mem.head _ | apply List.Mem.tail)); done))) Try.underlying29 rfl HC.out.1 (by kernel_rfl)) ?_
  refine rone 5 rfl fun K' hK => ?_
  refine s_rd ?_ HM (look_i1 (k := k) rfl rfl rfl (by (first | ((repeat (first | with_reducible exact List.Mem.head _ | with_reducible apply List.Mem.tail)); done) | ((repeat (first | exact List.Mem.head _ | apply List.Mem.tail)); done))) HG.out) (by kernel_rfl)
  refine hK.out _ _ (HM.out.two) (fun hS2 => ?_)
  clear hS hK
  have hS := hS2
  clear hS2
  try simp only [Act.put, List.setIfInBounds_toArray, List.set_cons_zero, List.set_cons_succ]
  refine tk 6 10 ?_
  refine tk 7 17 ?_
  refine tk 8 18 ?_
  refine tk 9 5 ?_
  refine tk 10 6 ?_
  refine wpAnyH_done (by kernel_rfl) ?_ _
  clear hS
  go_wp2_with fail
  try simp only [Act.put, List.setIfInBounds_toArray, List.set_cons_zero, List.set_cons_succ]
  refine wp_region_held_drew (S := fun w' => Mem w0 w' (Ent.blk b (keyC k) 29 :: rosB br bm last :: [])) (by kernel_rfl) (HM.out.drew.two) (fun hS => ?_)
  replace HM := Lib.hid HM.out.drew
  replace HB := HM.out.below
  refine tk 0 21 ?_
  refine tk 1 22 ?_
  refine tk 2 23 ?_
  refine tkv 3 24 (.map (some bm)) rfl (yields_cell rfl (by kernel_rfl) rfl (fun _ h => h) (by (first | ((repeat (first | with_reducible exact List.Mem.head _ | with_reducible apply List.Mem.tail)); done) | ((repeat (first | exact List.Mem.head _ | apply List.Mem.tail)); done))) rfl (by kernel_rfl)) ?_
  refine tkv 4 25 _ rfl (yields_own rfl rfl (fun _ h => h) (by (first | ((repeat (first | with_reducible exact List.Mem.head _ | with_reducible apply List.Mem.tail)); done) | ((repeat (first | exact List.Mem.head _ | apply List.Mem.tail)); done))) Try.underlying29 rfl HC.out.1 (by kernel_rfl)) ?_
  refine rone 5 rfl fun K' hK => ?_
  refine s_wr ?_ HM (Wr.mdel LI (x := k) rfl rfl rfl (by (first | ((repeat (first | with_reducible exact Upd.head _ | with_reducible apply Upd.tail)); done) | ((repeat (first | exact Upd.head _ | apply Upd.tail)); done)))) (by kernel_rfl)
  clear HM HB
  intro w _ HM HB
  refine hK.out _ _ (HM.out.two) (fun hS2 => ?_)
  clear hS hK
  have hS := hS2
  clear hS2
  try simp only [Act.put, List.setIfInBounds_toArray, List.set_cons_zero, List.set_cons_succ]
  refine wpAnyH_done (by kernel_rfl) ?_ _
  clear hS
  go_wp2_with fail
  go_ret
  exact ⟨rfl, Lib.hid HM.out.tail⟩
/-- All keys, in the order of their numbers. -/
theorem rkeys_any {w0 w : World} {es : List Ent} {br bm : Nat} {last : Int} {l : List (Key × Int)} (HM : HMem w0 w (rosB br bm last :: mapE MI bm l :: es)) (hl : l.length ≤ 1000) (hr : Rising l) :
    Calls Try.prog 36 #[.pointer (some ⟨br, 0, none⟩)] w fun e w' => ∃ A c, e = .returned (.slice A l.length c) ∧ HMem w0 w' (rowE RKey (.slice A l.length c) (l.map (·.1)) :: rosB br bm last :: mapE MI bm l :: es) := by
  have HR : Hid (Rising l) := Lib.hid hr
  have HL := Lib.hid hl
  have HB := HM.out.below
  clear hl hr
  go_enter Try.func36, Try.ntmps36
  go_wp2_with fail
  replace HM := Lib.hid (HM.out.alloc #[.pointer (some ⟨br, 0, none⟩)] 61 (by kernel_rfl))
  replace HB := HM.out.below
  generalize Array.size (World.heap w) = bx at HM ⊢
  generalize World.alloc w (.cells #[.pointer (some ⟨br, 0, none⟩)] 61) = w at HM HB ⊢
  have hx := (blk_cell (HM.out.get (b := bx) (cs := #[.pointer (some ⟨br, 0, none⟩)]) (by (first | ((repeat (first | with_reducible exact List.Mem.head _ | with_reducible apply List.Mem.tail)); done) | ((repeat (first | exact List.Mem.head _ | apply List.Mem.tail)); done)))) 0).trans rfl
  have hc := ros_cell HM.out (by (first | ((repeat (first | with_reducible exact List.Mem.head _ | with_reducible apply List.Mem.tail)); done) | ((repeat (first | exact List.Mem.head _ | apply List.Mem.tail)); done)))
  go_wp2_with fail
  refine (rmade_yes hc).mono ?_
  rintro e w' ⟨rfl, rfl⟩
  go_wp2_with fail
  refine (keys_any w bm).mono ?_
  rintro e w' ⟨rfl, rfl⟩
  clear hx hc
  replace HM := Lib.hid (HM.out.alloc #[.map (some bm)] 80 (by kernel_rfl))
  replace HB := HM.out.below
  generalize Array.size (World.heap w) = bq at HM ⊢
  generalize World.alloc w (.cells #[.map (some bm)] 80) = w at HM HB ⊢
  go_wp2_with fail
  refine (sorted_any HM HL.out HR.out).mono ?_
  rintro e w ⟨A, c, rfl, HM'⟩
  have HM2 : Hid (Mem w0 w (rowE RKey (.slice A l.length c) (l.map (·.1)) :: rosB br bm last :: mapE MI bm l :: es)) := Lib.hid (HM'.out.perm (es' := Ent.blk bq #[.map (some bm)] 80 :: Ent.blk bx #[.pointer (some ⟨br, 0, none⟩)] 61 :: rowE RKey (.slice A l.length c) (l.map (·.1)) :: rosB br bm last :: mapE MI bm l :: es) (by ((repeat (first | exact List.Perm.refl _ | (refine List.Perm.trans (Del.perm (by (first | ((repeat (first | with_reducible exact Del.head _ | with_reducible apply Del.tail)); done) | ((repeat (first | exact Del.head _ | apply Del.tail)); done)))) (List.Perm.cons _ ?_)))); done))).tail.tail
  clear HM' HM HB
  go_wp2_with fail
  go_ret
  exact ⟨A, c, rfl, HM2⟩
end Go.Proofs.Ytapncdgeigbgmaa.Tb
