/- Package roster: what its functions do to a roster that is there. -/
import Derived.Test.YtapncdgeigbgmaaUf
import Derived.Test.YtapncdgeigbgmaaUg
set_option linter.unusedSimpArgs false
set_option linter.unusedVariables false
set_option linter.unusedSectionVars false
set_option maxRecDepth 100000
namespace Go.Proofs.Ytapncdgeigbgmaa.Gm
open Go.RowKit Go.Proofs.YtapncdgeigbgmaaW.PrintWords Go.Proofs.Ytapncdgeigbgmaa.Bs
theorem Wr.mclear {κ ν : Type} [DecidableEq κ] {M : MK κ ν} {w0 : World} {es es' : List Ent} {op : Oper} {a : Act} {tm : Operand} {b : Nat} {l : List (κ × ν)} (L : M.Law) (ho : op.op = .call { callee := .builtin .clear, args := #[tm], argTypes := #[M.t] }) (hm : a.eval tm = .map (some b)) (u : Upd (mapE M b l) (mapE M b []) es es') : Wr w0 es op a (fun _ => .tuple #[]) (fun _ => es') := .mk fun w K Q HM hK => by
  obtain ⟨w1, hrun, h1, hg⟩ := (HM.mapAt u.mem).clear L.ht op.type
  unfold Oper.wp execOp
  simp only [ho, resolve, invoke, builtin, Sem.run_bind, Sem.run_pure, Result.andThen_ok, List.map_toArray, List.map_cons, List.map_nil, hm, hrun]
  exact hK w1 0 (HM.turn u hg (holdsM h1 (HM.mapBase u.mem)) (fun k hk => .inl hk))
end Go.Proofs.Ytapncdgeigbgmaa.Gm
namespace Go.Proofs.Ytapncdgeigbgmaa.Tb
open Go.RowKit Go.Proofs.YtapncdgeigbgmaaW.PrintWords Go.Proofs.Ytapncdgeigbgmaa.Bs Go.Proofs.Ytapncdgeigbgmaa.Gm Go.Proofs.Ytapncdgeigbgmaa.Sf

section
variable {w0 w : World} {es : List Ent} {br bm : Nat} {last : Int} {l : List (Key × Int)}
theorem rlen_any (HM : HMem w0 w es) (m1 : rosB br bm last ∈ es) (m2 : mapE MI bm l ∈ es) {n : Nat} (hn : l.length = n) : Calls Try.prog 35 #[.pointer (some ⟨br, 0, none⟩)] w fun e w' => e = .returned (.int .i64 n) ∧ w = w' := by
  have hc := ros_cell HM.out m1
  have HC := Lib.hid hc
  go_enter Try.func35, Try.ntmps35
  go_wp2_with fail
  refine (rmade_yes HC.out).mono ?_
  rintro e w' ⟨rfl, rfl⟩
  go_wp2_with (first | (refine m_rd ?_ HM (Rd.mlen LI rfl rfl m2 hn) (wanted_none rfl)) | fail)
  go_ret
  exact ⟨rfl, rfl⟩
theorem rclear_any (HM : HMem w0 w (rosB br bm last :: mapE MI bm l :: es)) {n : Nat} (hn : l.length = n) : Calls Try.prog 34 #[.pointer (some ⟨br, 0, none⟩)] w fun e w' => e = .returned (.int .i64 n) ∧ HMem w0 w' (rosB br bm last :: mapE MI bm [] :: es) := by
  have HB := HM.out.below
  have HN := Lib.hid hn
  clear hn
  go_enter Try.func34, Try.ntmps34
  go_wp2_with fail
  refine (rlen_any HM (by (first | ((repeat (first | with_reducible exact List.Mem.head _ | with_reducible apply List.Mem.tail)); done) | ((repeat (first | exact List.Mem.head _ | apply List.Mem.tail)); done))) (by (first | ((repeat (first | with_reducible exact List.Mem.head _ | with_reducible apply List.Mem.tail)); done) | ((repeat (first | exact List.Mem.head _ | apply List.Mem.tail)); done))) HN.out).mono ?_
  rintro e w' ⟨rfl, rfl⟩
  go_wp2_with fail
  refine (rmade_yes (ros_cell HM.out (by (first | ((repeat (first | with_reducible exact List.Mem.head _ | with_reducible apply List.Mem.tail)); done) | ((repeat (first | exact List.Mem.head _ | apply List.Mem.tail)); done))))).mono ?_
  rintro e w' ⟨rfl, rfl⟩
  have hc := ros_cell HM.out (by (first | ((repeat (first | with_reducible exact List.Mem.head _ | with_reducible apply List.Mem.tail)); done) | ((repeat (first | exact List.Mem.head _ | apply List.Mem.tail)); done)))
  go_wp2_with (first | (refine m_wr ?_ HM (Wr.mclear LI rfl rfl (by (first | ((repeat (first | with_reducible exact Upd.head _ | with_reducible apply Upd.tail)); done) | ((repeat (first | exact Upd.head _ | apply Upd.tail)); done)))) (wanted_none rfl); clear HM HB; intro w _ HM HB) | fail)
  go_ret
  exact ⟨rfl, HM⟩
theorem add_twice {v : Int} (k : Key) (HM : HMem w0 w (rosB br bm last :: mapE MI bm l :: es)) (hg : getK l k = some v) :
    Calls Try.prog 32 #[.pointer (some ⟨br, 0, none⟩), .agg (keyC k)] w fun e w' => e = .returned (.tuple #[.int .i64 0, .int .i64 13]) ∧ HMem w0 w' (rosB br bm last :: mapE MI bm l :: es) := by
  have HC := Lib.hid (cells_key (keyC k) (keyC_size k) (keyC_one k))
  have HG := Lib.hid hg
  have HB := HM.out.below
  clear hg
  go_enter Try.func32, Try.ntmps32
  go_wp2_with (first | refine m_rd ?_ | (refine m_wr ?_; clear HM HB; intro w b HM HB; try clear b) | fail)
  refine (rmade_yes (ros_cell HM.out (by (first | ((repeat (first | with_reducible exact List.Mem.head _ | with_reducible apply List.Mem.tail)); done) | ((repeat (first | exact List.Mem.head _ | apply List.Mem.tail)); done))))).mono ?_
  rintro e w' ⟨rfl, rfl⟩
  go_wp2_with fail
  try simp only [Act.put, List.setIfInBounds_toArray, List.set_cons_zero, List.set_cons_succ]
  refine wp_region_held_drew (S := fun w' => Mem w0 w' (Ent.blk b (keyC k) 29 :: rosB br bm last :: [])) (by kernel_rfl) (HM.out.drew.two) (fun hS => ?_)
  replace HM := Lib.hid HM.out.drew
  replace HB := HM.out.below
  refine tk 0 12 ?_
  refine tk 1 13 ?_
  refine tk 2 14 ?_
  refine tkv 3 15 (.map (some bm)) rfl (yields_cell rfl (by kernel_rfl) rfl (fun _ h => h) (by (first | ((repeat (first | with_reducible exact List.Mem.head _ | with_reducible apply List.Mem.tail)); done) | ((repeat (first | exact List.Mem.head _ | apply List.Mem.tail)); done))) rfl (by kernel_rfl)) ?_
  refine tkv 4 16 _ rfl (yields_own rfl rfl (fun _ h => h) (by (first | ((repeat (first | with_reducible exact List.Mem.head _ | with_reducible apply List.Mem.tail)); done) | ((repeat (first | exact List.Mem.head _ | apply List.Mem.tail)); done))) Try.underlying29 rfl HC.out.1 (by kernel_rfl)) ?_
  refine rone 5 rfl fun K' hK => ?_
  refine s_rd ?_ HM (look_i1 (k := k) rfl rfl rfl (by (first | ((repeat (first | with_reducible exact List.Mem.head _ | with_reducible apply List.Mem.tail)); done) | ((repeat (first | exact List.Mem.head _ | apply List.Mem.tail)); done))) HG.out) (by kernel_rfl)
  refine hK.out _ _ (HM.out.two) (fun hS2 => ?_)
  clear hS hK
  have hS := hS2
  clear hS2
  try simp only [Act.put, List.setIfInBounds_toArray, List.set_cons_zero, List.set_cons_succ]
  refine tk 6 11 ?_
  refine tk 7 18 ?_
  refine tk 8 19 ?_
  refine tk 9 6 ?_
  refine tk 10 7 ?_
  refine wpAnyH_done (by kernel_rfl) ?_ _
  clear hS
  go_wp2_with fail
  go_ret2
  exact ⟨rfl, Lib.hid HM.out.tail⟩
theorem add_full (k : Key) (HM : HMem w0 w (rosB br bm last :: mapE MI bm l :: es)) (hg : getK l k = none) (hl : 16 ≤ l.length) :
    Calls Try.prog 32 #[.pointer (some ⟨br, 0, none⟩), .agg (keyC k)] w fun e w' => e = .returned (.tuple #[.int .i64 0, .int .i64 7]) ∧ HMem w0 w' (rosB br bm last :: mapE MI bm l :: es) := by
  have HC := Lib.hid (cells_key (keyC k) (keyC_size k) (keyC_one k))
  have HG := Lib.hid hg
  have HB := HM.out.below
  obtain ⟨N, hN⟩ : ∃ N, l.length = N := ⟨_, rfl⟩
  have hge : decide ((16 : Int) ≤ (N : Int)) = true := decide_eq_true (by omega)
  clear hg hl
  go_enter Try.func32, Try.ntmps32
  go_wp2_with (first | refine m_rd ?_ | (refine m_wr ?_; clear HM HB; intro w b HM HB; try clear b) | fail)
  refine (rmade_yes (ros_cell HM.out (by (first | ((repeat (first | with_reducible exact List.Mem.head _ | with_reducible apply List.Mem.tail)); done) | ((repeat (first | exact List.Mem.head _ | apply List.Mem.tail)); done))))).mono ?_
  rintro e w' ⟨rfl, rfl⟩
  go_wp2_with fail
  try simp only [Act.put, List.setIfInBounds_toArray, List.set_cons_zero, List.set_cons_succ]
  refine wp_region_held_drew (S := fun w' => Mem w0 w' (Ent.blk b (keyC k) 29 :: rosB br bm last :: [])) (by kernel_rfl) (HM.out.drew.two) (fun hS => ?_)
  replace HM := Lib.hid HM.out.drew
  replace HB := HM.out.below
  refine tk 0 12 ?_
  refine tk 1 13 ?_
  refine tk 2 14 ?_
  refine tkv 3 15 (.map (some bm)) rfl (yields_cell rfl (by kernel_rfl) rfl (fun _ h => h) (by (first | ((repeat (first | with_reducible exact List.Mem.head _ | with_reducible apply List.Mem.tail)); done) | ((repeat (first | exact List.Mem.head _ | apply List.Mem.tail)); done))) rfl (by kernel_rfl)) ?_
  refine tkv 4 16 _ rfl (yields_own rfl rfl (fun _ h => h) (by (first | ((repeat (first | with_reducible exact List.Mem.head _ | with_reducible apply List.Mem.tail)); done) | ((repeat (first | exact List.Mem.head _ | apply List.Mem.tail)); done))) Try.underlying29 rfl HC.out.1 (by kernel_rfl)) ?_
  refine rone 5 rfl fun K' hK => ?_
  refine s_rd ?_ HM (look_i0 (k := k) rfl rfl rfl (by (first | ((repeat (first | with_reducible exact List.Mem.head _ | with_reducible apply List.Mem.tail)); done) | ((repeat (first | exact List.Mem.head _ | apply List.Mem.tail)); done))) HG.out) (by kernel_rfl)
  refine hK.out _ _ (HM.out.two) (fun hS2 => ?_)
  clear hS hK
  have hS := hS2
  clear hS2
  try simp only [Act.put, List.setIfInBounds_toArray, List.set_cons_zero, List.set_cons_succ]
  refine tk 6 11 ?_
  refine tk 7 18 ?_
  refine tk 8 19 ?_
  refine tk 9 6 ?_
  refine tk 10 7 ?_
  refine wpAnyH_done (by kernel_rfl) ?_ _
  clear hS
  have hc := ros_cell HM.out (by (first | ((repeat (first | with_reducible exact List.Mem.head _ | with_reducible apply List.Mem.tail)); done) | ((repeat (first | exact List.Mem.head _ | apply List.Mem.tail)); done)))
  go_wp2_with (first | (refine m_rd ?_ HM (Rd.mlen LI rfl rfl (by (first | ((repeat (first | with_reducible exact List.Mem.head _ | with_reducible apply List.Mem.tail)); done) | ((repeat (first | exact List.Mem.head _ | apply List.Mem.tail)); done))) hN) (wanted_none rfl)) | fail)
  go_ret2
  exact ⟨rfl, Lib.hid HM.out.tail⟩
theorem rdrop_none (k : Key) (HM : HMem w0 w (rosB br bm last :: mapE MI bm l :: es)) (hg : getK l k = none) :
    Calls Try.prog 33 #[.pointer (some ⟨br, 0, none⟩), .agg (keyC k)] w fun e w' => e = .returned (.int .i64 8) ∧ HMem w0 w' (rosB br bm last :: mapE MI bm l :: es) := by
  have HC := Lib.hid (cells_key (keyC k) (keyC_size k) (keyC_one k))
  have HG := Lib.hid hg
  have HB := HM.out.below
  clear hg
  go_enter Try.func33, Try.ntmps33
  go_wp2_with (first | refine m_rd ?_ | (refine m_wr ?_; clear HM HB; intro w b HM HB; try clear b) | fail)
  refine (rmade_yes (ros_cell HM.out (by (first | ((repeat (first | with_reducible exact List.Mem.head _ | with_reducible apply List.Mem.tail)); done) | ((repeat (first | exact List.Mem.head _ | apply List.Mem.tail)); done))))).mono ?_
  rintro e w' ⟨rfl, rfl⟩
  go_wp2_with fail
  try simp only [Act.put, List.setIfInBounds_toArray, List.set_cons_zero, List.set_cons_succ]
  refine wp_region_held_drew (S := fun w' => Mem w0 w' (Ent.blk b (keyC k) 29 :: rosB br bm last :: [])) (by kernel_rfl) (HM.out.drew.two) (fun hS => ?_)
  replace HM := Lib.hid HM.out.drew
  replace HB := HM.out.below
  refine tk 0 11 ?_
  refine tk 1 12 ?_
  refine tk 2 13 ?_
  refine tkv 3 14 (.map (some bm)) rfl (yields_cell rfl (by kernel_rfl) rfl (fun _ h => h) (by (first | ((repeat (first | with_reducible exact List.Mem.head _ | with_reducible apply List.Mem.tail)); done) | ((repeat (first | exact List.Mem.head _ | apply List.Mem.tail)); done))) rfl (by kernel_rfl)) ?_
  refine tkv 4 15 _ rfl (yields_own rfl rfl (fun _ h => h) (by (first | ((repeat (first | with_reducible exact List.Mem.head _ | with_reducible apply List.Mem.tail)); done) | ((repeat (first | exact List.Mem.head _ | apply List.Mem.tail)); done))) Try.underlying29 rfl HC.out.1 (by kernel_rfl)) ?_
  refine rone 5 rfl fun K' hK => ?_
  refine s_rd ?_ HM (look_i0 (k := k) rfl rfl rfl (by (first | ((repeat (first | with_reducible exact List.Mem.head _ | with_reducible apply List.Mem.tail)); done) | ((repeat (first | exact List.Mem.head _ | apply List.Mem.tail)); done))) HG.out) (by kernel_rfl)
  refine hK.out _ _ (HM.out.two) (fun hS2 => ?_)
  clear hS hK
  have hS := hS2
  clear hS2
  try simp only [Act.put, List.setIfInBounds_toArray, List.set_cons_zero, List.set_cons_succ]
  refine tk 6 10 ?_
  refine tk 7 17 ?_
  refine tk 8 18 ?_
  refine tk 9 5 ?_
  refine tk 10 6 ?_
  refine wpAnyH_done (by kernel_rfl) ?_ _
  clear hS
  go_wp2_with fail
  go_ret
  exact ⟨rfl, Lib.hid HM.out.tail⟩
theorem id_some {v : Int} (k : Key) (HM : HMem w0 w (rosB br bm last :: mapE MI bm l :: es)) (hg : getK l k = some v) :
    Calls Try.prog 28 #[.pointer (some ⟨br, 0, none⟩), .agg (keyC k)] w fun e w' => e = .returned (.tuple #[.int .i64 v, .bool true]) ∧ HMem w0 w' (rosB br bm last :: mapE MI bm l :: es) := by
  have HC := Lib.hid (cells_key (keyC k) (keyC_size k) (keyC_one k))
  have HG := Lib.hid hg
  have HB := HM.out.below
  clear hg
  go_enter Try.func28, Try.ntmps28
  go_wp2_with (first | refine m_rd ?_ | (refine m_wr ?_; clear HM HB; intro w b HM HB; try clear b) | fail)
  refine (rmade_yes (ros_cell HM.out (by (first | ((repeat (first | with_reducible exact List.Mem.head _ | with_reducible apply List.Mem.tail)); done) | ((repeat (first | exact List.Mem.head _ | apply List.Mem.tail)); done))))).mono ?_
  rintro e w' ⟨rfl, rfl⟩
  go_wp2_with fail
  try simp only [Act.put, List.setIfInBounds_toArray, List.set_cons_zero, List.set_cons_succ]
  refine wp_region_held_drew (S := fun w' => Mem w0 w' (Ent.blk b (keyC k) 29 :: rosB br bm last :: [])) (by kernel_rfl) (HM.out.drew.two) (fun hS => ?_)
  replace HM := Lib.hid HM.out.drew
  replace HB := HM.out.below
  refine tk 0 12 ?_
  refine tk 1 13 ?_
  refine tk 2 14 ?_
  refine tkv 3 15 (.map (some bm)) rfl (yields_cell rfl (by kernel_rfl) rfl (fun _ h => h) (by (first | ((repeat (first | with_reducible exact List.Mem.head _ | with_reducible apply List.Mem.tail)); done) | ((repeat (first | exact List.Mem.head _ | apply List.Mem.tail)); done))) rfl (by kernel_rfl)) ?_
  refine tkv 4 16 _ rfl (yields_own rfl rfl (fun _ h => h) (by (first | ((repeat (first | with_reducible exact List.Mem.head _ | with_reducible apply List.Mem.tail)); done) | ((repeat (first | exact List.Mem.head _ | apply List.Mem.tail)); done))) Try.underlying29 rfl HC.out.1 (by kernel_rfl)) ?_
  refine rone 5 rfl fun K' hK => ?_
  refine s_rd ?_ HM (look_i1 (k := k) rfl rfl rfl (by (first | ((repeat (first | with_reducible exact List.Mem.head _ | with_reducible apply List.Mem.tail)); done) | ((repeat (first | exact List.Mem.head _ | apply List.Mem.tail)); done))) HG.out) (by kernel_rfl)
  refine hK.out _ _ (HM.out.two) (fun hS2 => ?_)
  clear hS hK
  have hS := hS2
  clear hS2
  try simp only [Act.put, List.setIfInBounds_toArray, List.set_cons_zero, List.set_cons_succ]
  refine tk 6 11 ?_
  refine tk 7 18 ?_
  refine tk 8 19 ?_
  refine tk 9 6 ?_
  refine tk 10 7 ?_
  refine wpAnyH_done (by kernel_rfl) ?_ _
  clear hS
  go_wp2_with fail
  go_ret2
  exact ⟨rfl, Lib.hid HM.out.tail⟩
theorem id_none (k : Key) (HM : HMem w0 w (rosB br bm last :: mapE MI bm l :: es)) (hg : getK l k = none) :
    Calls Try.prog 28 #[.pointer (some ⟨br, 0, none⟩), .agg (keyC k)] w fun e w' => e = .returned (.tuple #[.int .i64 0, .bool false]) ∧ HMem w0 w' (rosB br bm last :: mapE MI bm l :: es) := by
  have HC := Lib.hid (cells_key (keyC k) (keyC_size k) (keyC_one k))
  have HG := Lib.hid hg
  have HB := HM.out.below
  clear hg
  go_enter Try.func28, Try.ntmps28
  go_wp2_with (first | refine m_rd ?_ | (refine m_wr ?_; clear HM HB; intro w b HM HB; try clear b) | fail)
  refine (rmade_yes (ros_cell HM.out (by (first | ((repeat (first | with_reducible exact List.Mem.head _ | with_reducible apply List.Mem.tail)); done) | ((repeat (first | exact List.Mem.head _ | apply List.Mem.tail)); done))))).mono ?_
  rintro e w' ⟨rfl, rfl⟩
  go_wp2_with fail
  try simp only [Act.put, List.setIfInBounds_toArray, List.set_cons_zero, List.set_cons_succ]
  refine wp_region_held_drew (S := fun w' => Mem w0 w' (Ent.blk b (keyC k) 29 :: rosB br bm last :: [])) (by kernel_rfl) (HM.out.drew.two) (fun hS => ?_)
  replace HM := Lib.hid HM.out.drew
  replace HB := HM.out.below
  refine tk 0 12 ?_
  refine tk 1 13 ?_
  refine tk 2 14 ?_
  refine tkv 3 15 (.map (some bm)) rfl (yields_cell rfl (by kernel_rfl) rfl (fun _ h => h) (by (first | ((repeat (first | with_reducible exact List.Mem.head _ | with_reducible apply List.Mem.tail)); done) | ((repeat (first | exact List.Mem.head _ | apply List.Mem.tail)); done))) rfl (by kernel_rfl)) ?_
  refine tkv 4 16 _ rfl (yields_own rfl rfl (fun _ h => h) (by (first | ((repeat (first | with_reducible exact List.Mem.head _ | with_reducible apply List.Mem.tail)); done) | ((repeat (first | exact List.Mem.head _ | apply List.Mem.tail)); done))) Try.underlying29 rfl HC.out.1 (by kernel_rfl)) ?_
  refine rone 5 rfl fun K' hK => ?_
  refine s_rd ?_ HM (look_i0 (k := k) rfl rfl rfl (by (first | ((repeat (first | with_reducible exact List.Mem.head _ | with_reducible apply List.Mem.tail)); done) | ((repeat (first | exact List.Mem.head _ | apply List.Mem.tail)); done))) HG.out) (by kernel_rfl)
  refine hK.out _ _ (HM.out.two) (fun hS2 => ?_)
  clear hS hK
  have hS := hS2
  clear hS2
  try simp only [Act.put, List.setIfInBounds_toArray, List.set_cons_zero, List.set_cons_succ]
  refine tk 6 11 ?_
  refine tk 7 18 ?_
  refine tk 8 19 ?_
  refine tk 9 6 ?_
  refine tk 10 7 ?_
  refine wpAnyH_done (by kernel_rfl) ?_ _
  clear hS
  go_wp2_with fail
  go_ret2
  exact ⟨rfl, Lib.hid HM.out.tail⟩
end
end Go.Proofs.Ytapncdgeigbgmaa.Tb
