/- Package roster: the key of a number. -/
import Derived.Test.YtapncdgeigbgmaaUl
import Derived.Test.YtapncdgeigbgmaaUi
set_option linter.unusedSimpArgs false
set_option linter.unusedVariables false
set_option linter.unusedSectionVars false
set_option maxRecDepth 100000
namespace Go.Proofs.Ytapncdgeigbgmaa.Tb
open Go.RowKit Go.Proofs.YtapncdgeigbgmaaW.PrintWords Go.Proofs.Ytapncdgeigbgmaa.Bs Go.Proofs.Ytapncdgeigbgmaa.Gm Go.Proofs.Ytapncdgeigbgmaa.Sf

theorem look_j1 {w0 : World} {es : List Ent} {op : Oper} {a : Act} {tm tk : Operand} {b : Nat} {l : List (Key × Int)} {k : Key} {v : Int} (ho : op.op = .lookup MI.t tm tk false) (hm : a.eval tm = .map (some b)) (hk : a.eval tk = .agg (keyC k)) (m : mapE MI b l ∈ es) (hg : getK l k = some v) : Rd w0 es op a (.int .i64 v) := Rd.look LI ho hm hk m hg
def keyOfId (l : List (Key × Int)) (id : Int) : Option Key := (l.find? fun p => p.2 == id).map (·.1)
def keyV : Option Key → Array Value
  | some k => keyC k
  | none => ZK
theorem keyOfId_at {l : List (Key × Int)} {id : Int} {i : Nat} {p : Key × Int} (hp : l[i]? = some p) (hno : ∀ j q, j < i → l[j]? = some q → q.2 ≠ id) (h : p.2 = id) : keyOfId l id = some p.1 := by
  unfold keyOfId
  have hi := (List.getElem?_eq_some_iff.1 hp).1
  have : l.find? (fun p => p.2 == id) = some p := by
    rw [List.find?_eq_some_iff_getElem]
    refine ⟨by simpa using h, i, hi, by rw [List.getElem?_eq_getElem hi] at hp; injection hp, fun j hj => ?_⟩
    have := hno j l[j] hj (by simp)
    simpa using this
  rw [this]
  rfl
theorem keyOfId_no {l : List (Key × Int)} {id : Int} (hno : ∀ j q, j < l.length → l[j]? = some q → q.2 ≠ id) : keyOfId l id = none := by
  unfold keyOfId
  rw [Option.map_eq_none_iff, List.find?_eq_none]
  intro q hq
  obtain ⟨j, hj⟩ := List.getElem?_of_mem hq
  have := hno j q (List.getElem?_eq_some_iff.1 hj).1 hj
  simpa using this
theorem cellsKV (k : Key) : Cells 29 (keyC k) := cells_key (keyC k) (keyC_size k) (keyC_one k)
set_option maxHeartbeats 2000000 in
theorem rkey_any {w0 w : World} {es : List Ent} {br bm : Nat} {last : Int} {l : List (Key × Int)} (id : Int) (HM : HMem w0 w (rosB br bm last :: mapE MI bm l :: es)) (hl : l.length ≤ 1000) (hr : Rising l) (hnd : (l.map (·.1)).Nodup) :
    Calls Try.prog 29 #[.pointer (some ⟨br, 0, none⟩), .int .i64 id] w fun e w' => e = .returned (.tuple #[.agg (keyV (keyOfId l id)), .bool (keyOfId l id).isSome]) ∧ HMem w0 w' (rosB br bm last :: mapE MI bm l :: es) := by
  obtain ⟨n, hn⟩ : ∃ n, l.length = n := ⟨_, rfl⟩
  obtain ⟨o, ho⟩ : ∃ o, keyOfId l id = o := ⟨_, rfl⟩
  rw [ho]
  have HO := Lib.hid ho
  have HN := Lib.hid hn
  have HL := Lib.hid hl
  have HR : Hid (Rising l) := Lib.hid hr
  have HND := Lib.hid hnd
  have AL1 := Lib.hid zeroKey
  have BH1 := Lib.hid build_zero
  have HCZ := Lib.hid zeroKey.2
  have HB := HM.out.below
  have hn1 : n ≤ 1000 := by omega
  clear ho hn hl hr hnd
  go_enter Try.func29, Try.ntmps29
  go_wp2_with (first | (refine m_wr ?_ HM (Wr.alloc rfl AL1.out.1 AL1.out.2) (wanted_none rfl); clear HM HB; intro w b4 HM HB) | fail)
  replace HM : HMem w0 w (rosB br bm last :: mapE MI bm l :: Ent.blk b4 ZK 29 :: es) := Lib.hid (HM.out.perm (by ((repeat (first | exact List.Perm.refl _ | (refine List.Perm.trans (Del.perm (by (first | ((repeat (first | with_reducible exact Del.head _ | with_reducible apply Del.tail)); done) | ((repeat (first | exact Del.head _ | apply Del.tail)); done)))) (List.Perm.cons _ ?_)))); done)))
  refine (rkeys_any HM HL.out HR.out).mono ?_
  rw [HN.out]
  rintro e w ⟨A, c, rfl, HM'⟩
  replace HM : HMem w0 w (rosB br bm last :: mapE MI bm l :: rowE RKey (.slice A n c) (l.map (·.1)) :: Ent.blk b4 ZK 29 :: es) := Lib.hid (HM'.out.perm (by ((repeat (first | exact List.Perm.refl _ | (refine List.Perm.trans (Del.perm (by (first | ((repeat (first | with_reducible exact Del.head _ | with_reducible apply Del.tail)); done) | ((repeat (first | exact Del.head _ | apply Del.tail)); done)))) (List.Perm.cons _ ?_)))); done)))
  replace HB := HM.out.below
  clear HM'
  go_wp2_with (first | refine m_rd ?_ | (refine m_wr ?_; clear HM HB; intro w b HM HB; try clear b) | fail)
  go_loopw [11] (fun v11 wr => ∃ i, i ≤ n ∧ v11 = .int .i64 (i : Nat) ∧ Hid (∀ j q, j < i → l[j]? = some q → q.2 ≠ id) ∧ HMem w0 wr (rosB br bm last :: mapE MI bm l :: rowE RKey (.slice A n c) (l.map (·.1)) :: Ent.blk b4 ZK 29 :: es)) (fun v11 _ => n - (intOf v11).toNat)
  case atStart => exact ⟨0, Nat.zero_le _, rfl, Lib.hid (fun j q hj => absurd hj (Nat.not_lt_zero _)), HM⟩
  case round =>
    clear HM HB
    obtain ⟨i, hi, rfl, HNO, HM⟩ := hrel
    have HB := HM.out.below
    by_cases hlt : i < n
    · obtain ⟨⟨kx, v⟩, hp⟩ : ∃ p, l[i]? = some p := ⟨l[i]'(by rw [HN.out]; exact hlt), by simp [HN.out, hlt]⟩
      have hx : (l.map (·.1))[i]? = some kx := by rw [List.getElem?_map, hp]; rfl
      obtain ⟨ad, rfl, _⟩ := (HM.out.rw_ (R := RKey) LKey (by (first | ((repeat (first | with_reducible exact List.Mem.head _ | with_reducible apply List.Mem.tail)); done) | ((repeat (first | exact List.Mem.head _ | apply List.Mem.tail)); done)))).elem LKey hx
      have HX := Lib.hid hx
      have HP := Lib.hid hp
      have HG : Hid (getK l kx = some v) := Lib.hid (getK_of HND.out (List.mem_of_getElem? hp))
      have HC := Lib.hid (cellsKV kx)
      clear hp hx
      by_cases hv : v = id
      · have hve : (v == id) = true := by simpa using hv
        have HV : Hid (o = some kx) := Lib.hid (by rw [← HO.out]; exact keyOfId_at HP.out HNO.out hv)
        clear hv
        go_wp2_with (first | (refine m_rd ?_ HM (Rd.elem rfl (by kernel_rfl) rfl (fun w hm => by obtain ⟨ad', e, hr⟩ := (hm.rw_ (R := RKey) LKey (by (first | ((repeat (first | with_reducible exact List.Mem.head _ | with_reducible apply List.Mem.tail)); done) | ((repeat (first | exact List.Mem.head _ | apply List.Mem.tail)); done)))).elem LKey HX.out; injection e with e; subst e; exact hr) (by show _ = some (keyC kx).size; rw [keyC_size]; exact info_key)) (wanted_none rfl)) | refine m_rd ?_ | (refine m_wr ?_; clear HM HB; intro w b HM HB; try clear b) | fail)
        try simp only [Act.put, List.setIfInBounds_toArray, List.set_cons_zero, List.set_cons_succ]
        refine wp_region_held_drew (S := fun w' => Mem w0 w' (Ent.blk b (keyC kx) 29 :: rosB br bm last :: [])) (by kernel_rfl) (HM.out.drew.two) (fun hS => ?_)
        replace HM := Lib.hid HM.out.drew
        replace HB := HM.out.below
        refine tk 0 15 ?_
        refine tk 1 16 ?_
        refine tk 2 17 ?_
        refine tkv 3 18 (.map (some bm)) rfl (yields_cell rfl (by kernel_rfl) rfl (fun _ h => h) (by (first | ((repeat (first | with_reducible exact List.Mem.head _ | with_reducible apply List.Mem.tail)); done) | ((repeat (first | exact List.Mem.head _ | apply List.Mem.tail)); done))) rfl (by kernel_rfl)) ?_
        refine tkv 4 19 (.agg (keyC kx)) rfl (yields_own rfl rfl (fun _ h => h) (by (first | ((repeat (first | with_reducible exact List.Mem.head _ | with_reducible apply List.Mem.tail)); done) | ((repeat (first | exact List.Mem.head _ | apply List.Mem.tail)); done))) Try.underlying29 rfl HC.out.1 (by kernel_rfl)) ?_
        refine tk 6 21 ?_
        refine rone 5 rfl fun K' hK => ?_
        refine s_rd ?_ HM (look_j1 (k := kx) rfl rfl rfl (by (first | ((repeat (first | with_reducible exact List.Mem.head _ | with_reducible apply List.Mem.tail)); done) | ((repeat (first | exact List.Mem.head _ | apply List.Mem.tail)); done))) HG.out) (by kernel_rfl)
        refine hK.out _ _ (HM.out.two) (fun hS2 => ?_)
        clear hS hK
        have hS := hS2
        clear hS2
        try simp only [Act.put, List.setIfInBounds_toArray, List.set_cons_zero, List.set_cons_succ]
        refine tk 7 22 ?_
        refine wpAnyH_done (by kernel_rfl) ?_ _
        clear hS
        go_wp2_with (first | refine m_rd ?_ | (refine m_wr ?_; clear HM HB; intro w b HM HB; try clear b) | fail)
        apply m_ret_c1
        next => exact rfl
        next => exact rfl
        next => exact rfl
        next => exact HM
        next => (first | ((repeat (first | with_reducible exact List.Mem.head _ | with_reducible apply List.Mem.tail)); done) | ((repeat (first | exact List.Mem.head _ | apply List.Mem.tail)); done))
        next => exact Try.underlying29
        next => rfl
        rw [HV.out]
        refine ⟨rfl, Lib.hid ((HM.out.perm (es' := Ent.blk b (keyC kx) 29 :: rowE RKey (.slice (some ad) n c) (l.map (·.1)) :: Ent.blk b4 (keyC kx) 29 :: rosB br bm last :: mapE MI bm l :: es) (by ((repeat (first | exact List.Perm.refl _ | (refine List.Perm.trans (Del.perm (by (first | ((repeat (first | with_reducible exact Del.head _ | with_reducible apply Del.tail)); done) | ((repeat (first | exact Del.head _ | apply Del.tail)); done)))) (List.Perm.cons _ ?_)))); done))).tail.tail.tail)⟩
      · have hve : (v == id) = false := by simpa using hv
        have HNO2 : Hid (∀ j q, j < i + 1 → l[j]? = some q → q.2 ≠ id) := Lib.hid (fun j q hj hq => by
          rcases Nat.lt_succ_iff_lt_or_eq.1 hj with hj | rfl
          · exact HNO.out j q hj hq
          · rw [HP.out] at hq
            injection hq with hq
            rw [← hq]; exact hv)
        clear hv HNO
        go_wp2_with (first | (refine m_rd ?_ HM (Rd.elem rfl (by kernel_rfl) rfl (fun w hm => by obtain ⟨ad', e, hr⟩ := (hm.rw_ (R := RKey) LKey (by (first | ((repeat (first | with_reducible exact List.Mem.head _ | with_reducible apply List.Mem.tail)); done) | ((repeat (first | exact List.Mem.head _ | apply List.Mem.tail)); done)))).elem LKey HX.out; injection e with e; subst e; exact hr) (by show _ = some (keyC kx).size; rw [keyC_size]; exact info_key)) (wanted_none rfl)) | refine m_rd ?_ | (refine m_wr ?_; clear HM HB; intro w b HM HB; try clear b) | fail)
        try simp only [Act.put, List.setIfInBounds_toArray, List.set_cons_zero, List.set_cons_succ]
        refine wp_region_held_drew (S := fun w' => Mem w0 w' (Ent.blk b (keyC kx) 29 :: rosB br bm last :: [])) (by kernel_rfl) (HM.out.drew.two) (fun hS => ?_)
        replace HM := Lib.hid HM.out.drew
        replace HB := HM.out.below
        refine tk 0 15 ?_
        refine tk 1 16 ?_
        refine tk 2 17 ?_
        refine tkv 3 18 (.map (some bm)) rfl (yields_cell rfl (by kernel_rfl) rfl (fun _ h => h) (by (first | ((repeat (first | with_reducible exact List.Mem.head _ | with_reducible apply List.Mem.tail)); done) | ((repeat (first | exact List.Mem.head _ | apply List.Mem.tail)); done))) rfl (by kernel_rfl)) ?_
        refine tkv 4 19 (.agg (keyC kx)) rfl (yields_own rfl rfl (fun _ h => h) (by (first | ((repeat (first | with_reducible exact List.Mem.head _ | with_reducible apply List.Mem.tail)); done) | ((repeat (first | exact List.Mem.head _ | apply List.Mem.tail)); done))) Try.underlying29 rfl HC.out.1 (by kernel_rfl)) ?_
        refine tk 6 21 ?_
        refine rone 5 rfl fun K' hK => ?_
        refine s_rd ?_ HM (look_j1 (k := kx) rfl rfl rfl (by (first | ((repeat (first | with_reducible exact List.Mem.head _ | with_reducible apply List.Mem.tail)); done) | ((repeat (first | exact List.Mem.head _ | apply List.Mem.tail)); done))) HG.out) (by kernel_rfl)
        refine hK.out _ _ (HM.out.two) (fun hS2 => ?_)
        clear hS hK
        have hS := hS2
        clear hS2
        try simp only [Act.put, List.setIfInBounds_toArray, List.set_cons_zero, List.set_cons_succ]
        refine tk 7 22 ?_
        refine wpAnyH_done (by kernel_rfl) ?_ _
        clear hS
        go_wp2_with fail
        go_roundw
        case rel => exact ⟨i + 1, by omega, by go_num, HNO2, Lib.hid HM.out.tail⟩
        case measure => (simp [intOf]) <;> omega
    · obtain rfl : i = n := by omega
      have HV : Hid (o = none) := Lib.hid (by rw [← HO.out]; exact keyOfId_no (fun j q hj hq => HNO.out j q (by have := HN.out; omega) hq))
      go_wp2_with (first | refine m_rd ?_ | (refine m_wr ?_; clear HM HB; intro w b HM HB; try clear b) | fail)
      apply m_ret_c1
      next => exact rfl
      next => exact rfl
      next => exact rfl
      next => exact HM
      next => (first | ((repeat (first | with_reducible exact List.Mem.head _ | with_reducible apply List.Mem.tail)); done) | ((repeat (first | exact List.Mem.head _ | apply List.Mem.tail)); done))
      next => exact Try.underlying29
      next => rfl
      rw [HV.out]
      refine ⟨rfl, Lib.hid ((HM.out.perm (es' := rowE RKey (.slice A i c) (l.map (·.1)) :: Ent.blk b4 ZK 29 :: rosB br bm last :: mapE MI bm l :: es) (by ((repeat (first | exact List.Perm.refl _ | (refine List.Perm.trans (Del.perm (by (first | ((repeat (first | with_reducible exact Del.head _ | with_reducible apply Del.tail)); done) | ((repeat (first | exact Del.head _ | apply Del.tail)); done)))) (List.Perm.cons _ ?_)))); done))).tail.tail)⟩
end Go.Proofs.Ytapncdgeigbgmaa.Tb
