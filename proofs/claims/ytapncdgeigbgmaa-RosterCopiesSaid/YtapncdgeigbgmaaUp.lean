/- Chapter 27: a deed done, beside the document's: the other deeds. -/
import Derived.Test.YtapncdgeigbgmaaUo
set_option linter.unusedSimpArgs false
set_option linter.unusedVariables false
set_option linter.unusedSectionVars false
set_option maxRecDepth 100000
namespace Go.Proofs.Ytapncdgeigbgmaa.Tb
open Go.RowKit Go.Proofs.YtapncdgeigbgmaaW.PrintWords Go.Proofs.Ytapncdgeigbgmaa.Bs Go.Proofs.Ytapncdgeigbgmaa.Gm Go.Proofs.Ytapncdgeigbgmaa.Sf

theorem get_none_in {l : List (Key × Int)} {k : Key} (h : getK l k = none) : inL l k = false := by
  unfold inL
  rw [h]
  rfl
set_option maxHeartbeats 4000000 in
theorem step_new {w0 w : World} {es : List Ent} {br bm n c : Nat} {last : Int} {A : Option Addr} {l : List (Key × Int)} (k : Key) (ll : List (Key × Int)) (HM : HMem w0 w (rosB br bm last :: mapE MI bm l :: rowE ROne (.slice A n c) l :: es)) (hn : l.length = n) (hl : n ≤ 16) (h0 : 0 ≤ last) (h1 : last < 1000000) (hin : inL l k = false) (h16 : n < 16) (hll : l ++ [(k, last + 1)] = ll) :
    Calls Try.prog 26 #[.pointer (some ⟨br, 0, none⟩), .agg (RV A n c last), .agg (deedC (0, k))] w fun e w' => ∃ A' c', e = .returned (.tuple #[.agg (RV A' (n + 1) c' (last + 1)), .bool true]) ∧ HMem w0 w' (rosB br bm ((last + 1)) :: mapE MI bm (ll) :: rowE ROne (.slice A' ((n + 1)) c') (ll) :: rowE ROne (.slice A n c) l :: es) := by
  have HN := Lib.hid hn
  have HL := Lib.hid hl
  have H0 := Lib.hid h0
  have H1 := Lib.hid h1
  have HC2 := Lib.hid (cellsRV A n c last)
  have HCD := Lib.hid (cellsDeed (0, k))
  have CV1 : Hid ((deedC (0, k))[0]? = some (.int .i64 0)) := Lib.hid (deed_kind (0, k))
  have PT1 : Hid (PartOf 29 (deedC (0, k)) 1 (keyC k)) := Lib.hid (deed_key (0, k))
  have AL1 := Lib.hid zeroRV
  have HB := HM.out.below
  have HI := Lib.hid hin
  have H16 := Lib.hid h16
  have HLL := Lib.hid hll
  clear hin h16 hll
  clear hn hl h0 h1
  go_enter Try.func26, Try.ntmps26
  go_wp2_with (first | (refine m_wr ?_ HM (Wr.box rfl rfl HC2.out) (wanted_none rfl); clear HM HB; intro w b4 HM HB) | (refine m_wr ?_ HM (Wr.box rfl rfl HCD.out) (wanted_none rfl); clear HM HB; intro w b5 HM HB) | (refine m_wr ?_ HM (Wr.alloc rfl AL1.out.1 AL1.out.2) (wanted_none rfl); clear HM HB; intro w b6 HM HB) | refine m_rd ?_ | (refine m_wr ?_; clear HM HB; intro w b HM HB; try clear b) | fail)
  replace HM : HMem w0 w (rosB br bm last :: mapE MI bm l :: rowE ROne (.slice A n c) l :: Ent.blk b6 ZRV 65 :: Ent.blk b5 (deedC (0, k)) 67 :: Ent.blk b4 (RV A n c last) 65 :: es) := Lib.hid (HM.out.perm (by ((repeat (first | exact List.Perm.refl _ | (refine List.Perm.trans (Del.perm (by (first | ((repeat (first | with_reducible exact Del.head _ | with_reducible apply Del.tail)); done) | ((repeat (first | exact Del.head _ | apply Del.tail)); done)))) (List.Perm.cons _ ?_)))); done)))
  have HG := Lib.hid (inL_none HI.out)
  refine (add_new k HM HG.out (by rw [HN.out]; exact H16.out) H0.out H1.out).mono ?_
  rw [put_new HG.out]
  rw [HLL.out]
  rintro e w ⟨rfl, HM'⟩
  replace HM := HM'
  replace HB := HM.out.below
  clear HM'
  go_wp2_with (first | refine m_rd ?_ | (refine m_wr ?_; clear HM HB; intro w b HM HB; try clear b) | fail)
  have HY := docAdd_yes A n c last l k _ (HM.out.rw_ (R := ROne) LOne (by (first | ((repeat (first | with_reducible exact List.Mem.head _ | with_reducible apply List.Mem.tail)); done) | ((repeat (first | exact List.Mem.head _ | apply List.Mem.tail)); done)))) HN.out HI.out H16.out H0.out H1.out
  rw [HLL.out] at HY
  refine HY.mono ?_
  clear HY
  rintro e w ⟨A', c', rfl, ho, hb⟩
  replace HM := Lib.hid (HM.out.newRow hb ho)
  replace HB := HM.out.below
  clear ho hb
  have HC3 := Lib.hid (cellsRV A' (n + 1) c' (last + 1))
  have CV2 : Hid ((RV A' (n + 1) c' (last + 1))[1]? = some (.int .i64 (last + 1))) := Lib.hid rfl
  go_wp2_with (first | refine m_rd ?_ | (refine m_wr ?_; clear HM HB; intro w b HM HB; try clear b) | fail)
  apply m_ret_c1
  next => exact rfl
  next => exact rfl
  next => exact rfl
  next => exact HM
  next => (first | ((repeat (first | with_reducible exact List.Mem.head _ | with_reducible apply List.Mem.tail)); done) | ((repeat (first | exact List.Mem.head _ | apply List.Mem.tail)); done))
  next => exact Try.underlying65
  next => rfl
  exact ⟨A', c', rfl, Lib.hid ((HM.out.perm (es' := Ent.blk b (RV A' (n + 1) c' (last + 1)) 65 :: Ent.blk b6 (RV A' (n + 1) c' (last + 1)) 65 :: Ent.blk b5 (deedC (0, k)) 67 :: Ent.blk b4 (RV A n c last) 65 :: rosB br bm (last + 1) :: mapE MI bm (ll) :: rowE ROne (.slice A' ((n + 1)) c') (ll) :: rowE ROne (.slice A n c) l :: es) (by ((repeat (first | exact List.Perm.refl _ | (refine List.Perm.trans (Del.perm (by (first | ((repeat (first | with_reducible exact Del.head _ | with_reducible apply Del.tail)); done) | ((repeat (first | exact Del.head _ | apply Del.tail)); done)))) (List.Perm.cons _ ?_)))); done))).tail.tail.tail.tail)⟩
set_option maxHeartbeats 4000000 in
theorem step_none {w0 w : World} {es : List Ent} {br bm n c : Nat} {last : Int} {A : Option Addr} {l : List (Key × Int)} (k : Key) (HM : HMem w0 w (rosB br bm last :: mapE MI bm l :: rowE ROne (.slice A n c) l :: es)) (hn : l.length = n) (hl : n ≤ 16) (h0 : 0 ≤ last) (h1 : last < 1000000) (hin : inL l k = false) :
    Calls Try.prog 26 #[.pointer (some ⟨br, 0, none⟩), .agg (RV A n c last), .agg (deedC (1, k))] w fun e w' => e = .returned (.tuple #[.agg (RV A n c last), .bool true]) ∧ HMem w0 w' (rosB br bm last :: mapE MI bm l :: rowE ROne (.slice A n c) l :: es) := by
  have HN := Lib.hid hn
  have HL := Lib.hid hl
  have H0 := Lib.hid h0
  have H1 := Lib.hid h1
  have HC2 := Lib.hid (cellsRV A n c last)
  have HCD := Lib.hid (cellsDeed (1, k))
  have CV1 : Hid ((deedC (1, k))[0]? = some (.int .i64 1)) := Lib.hid (deed_kind (1, k))
  have PT1 : Hid (PartOf 29 (deedC (1, k)) 1 (keyC k)) := Lib.hid (deed_key (1, k))
  have AL1 := Lib.hid zeroRV
  have HB := HM.out.below
  have HI := Lib.hid hin
  clear hin
  clear hn hl h0 h1
  go_enter Try.func26, Try.ntmps26
  go_wp2_with (first | (refine m_wr ?_ HM (Wr.box rfl rfl HC2.out) (wanted_none rfl); clear HM HB; intro w b4 HM HB) | (refine m_wr ?_ HM (Wr.box rfl rfl HCD.out) (wanted_none rfl); clear HM HB; intro w b5 HM HB) | (refine m_wr ?_ HM (Wr.alloc rfl AL1.out.1 AL1.out.2) (wanted_none rfl); clear HM HB; intro w b6 HM HB) | refine m_rd ?_ | (refine m_wr ?_; clear HM HB; intro w b HM HB; try clear b) | fail)
  replace HM : HMem w0 w (rosB br bm last :: mapE MI bm l :: rowE ROne (.slice A n c) l :: Ent.blk b6 ZRV 65 :: Ent.blk b5 (deedC (1, k)) 67 :: Ent.blk b4 (RV A n c last) 65 :: es) := Lib.hid (HM.out.perm (by ((repeat (first | exact List.Perm.refl _ | (refine List.Perm.trans (Del.perm (by (first | ((repeat (first | with_reducible exact Del.head _ | with_reducible apply Del.tail)); done) | ((repeat (first | exact Del.head _ | apply Del.tail)); done)))) (List.Perm.cons _ ?_)))); done)))
  refine (rdrop_none k HM (inL_none HI.out)).mono ?_
  rintro e w ⟨rfl, HM'⟩
  replace HM := HM'
  replace HB := HM.out.below
  clear HM'
  go_wp2_with (first | refine m_rd ?_ | (refine m_wr ?_; clear HM HB; intro w b HM HB; try clear b) | fail)
  refine (place_any A n c last l k _ (HM.out.rw_ (R := ROne) LOne (by (first | ((repeat (first | with_reducible exact List.Mem.head _ | with_reducible apply List.Mem.tail)); done) | ((repeat (first | exact List.Mem.head _ | apply List.Mem.tail)); done)))) HN.out).mono ?_
  rintro e w ⟨z, rfl, _, hz, _, hb⟩
  obtain rfl := hz HI.out
  replace HM := Lib.hid (HM.out.call hb)
  replace HB := HM.out.below
  clear hb
  go_wp2_with (first | refine m_rd ?_ | (refine m_wr ?_; clear HM HB; intro w b HM HB; try clear b) | fail)
  apply m_ret_c1
  next => exact rfl
  next => exact rfl
  next => exact rfl
  next => exact HM
  next => (first | ((repeat (first | with_reducible exact List.Mem.head _ | with_reducible apply List.Mem.tail)); done) | ((repeat (first | exact List.Mem.head _ | apply List.Mem.tail)); done))
  next => exact Try.underlying65
  next => rfl
  exact ⟨rfl, Lib.hid ((HM.out.perm (es' := Ent.blk b6 (RV A n c last) 65 :: Ent.blk b5 (deedC (1, k)) 67 :: Ent.blk b4 (RV A n c last) 65 :: rosB br bm (last) :: mapE MI bm (l) :: rowE ROne (.slice A (n) c) (l) :: es) (by ((repeat (first | exact List.Perm.refl _ | (refine List.Perm.trans (Del.perm (by (first | ((repeat (first | with_reducible exact Del.head _ | with_reducible apply Del.tail)); done) | ((repeat (first | exact Del.head _ | apply Del.tail)); done)))) (List.Perm.cons _ ?_)))); done))).tail.tail.tail)⟩
set_option maxHeartbeats 4000000 in
theorem step_drop {w0 w : World} {es : List Ent} {br bm n c : Nat} {last : Int} {A : Option Addr} {l : List (Key × Int)} (k : Key) (ll : List (Key × Int)) (m : Nat) (HM : HMem w0 w (rosB br bm last :: mapE MI bm l :: rowE ROne (.slice A n c) l :: es)) (hn : l.length = n) (hl : n ≤ 16) (h0 : 0 ≤ last) (h1 : last < 1000000) (hin : inL l k = true) (hll : delK l k = ll) (hm : ll.length = m) :
    Calls Try.prog 26 #[.pointer (some ⟨br, 0, none⟩), .agg (RV A n c last), .agg (deedC (1, k))] w fun e w' => ∃ A' c', e = .returned (.tuple #[.agg (RV A' m c' last), .bool true]) ∧ HMem w0 w' (rosB br bm (last) :: mapE MI bm (ll) :: rowE ROne (.slice A' (m) c') (ll) :: rowE ROne (.slice A n c) l :: es) := by
  have HN := Lib.hid hn
  have HL := Lib.hid hl
  have H0 := Lib.hid h0
  have H1 := Lib.hid h1
  have HC2 := Lib.hid (cellsRV A n c last)
  have HCD := Lib.hid (cellsDeed (1, k))
  have CV1 : Hid ((deedC (1, k))[0]? = some (.int .i64 1)) := Lib.hid (deed_kind (1, k))
  have PT1 : Hid (PartOf 29 (deedC (1, k)) 1 (keyC k)) := Lib.hid (deed_key (1, k))
  have AL1 := Lib.hid zeroRV
  have HB := HM.out.below
  have HI := Lib.hid hin
  have HLL := Lib.hid hll
  have HMM := Lib.hid hm
  clear hin hll hm
  clear hn hl h0 h1
  go_enter Try.func26, Try.ntmps26
  go_wp2_with (first | (refine m_wr ?_ HM (Wr.box rfl rfl HC2.out) (wanted_none rfl); clear HM HB; intro w b4 HM HB) | (refine m_wr ?_ HM (Wr.box rfl rfl HCD.out) (wanted_none rfl); clear HM HB; intro w b5 HM HB) | (refine m_wr ?_ HM (Wr.alloc rfl AL1.out.1 AL1.out.2) (wanted_none rfl); clear HM HB; intro w b6 HM HB) | refine m_rd ?_ | (refine m_wr ?_; clear HM HB; intro w b HM HB; try clear b) | fail)
  replace HM : HMem w0 w (rosB br bm last :: mapE MI bm l :: rowE ROne (.slice A n c) l :: Ent.blk b6 ZRV 65 :: Ent.blk b5 (deedC (1, k)) 67 :: Ent.blk b4 (RV A n c last) 65 :: es) := Lib.hid (HM.out.perm (by ((repeat (first | exact List.Perm.refl _ | (refine List.Perm.trans (Del.perm (by (first | ((repeat (first | with_reducible exact Del.head _ | with_reducible apply Del.tail)); done) | ((repeat (first | exact Del.head _ | apply Del.tail)); done)))) (List.Perm.cons _ ?_)))); done)))
  obtain ⟨v, hv⟩ := inL_some HI.out
  refine (rdrop_some k HM hv).mono ?_
  clear hv
  rw [HLL.out]
  rintro e w ⟨rfl, HM'⟩
  replace HM := HM'
  replace HB := HM.out.below
  clear HM'
  go_wp2_with (first | refine m_rd ?_ | (refine m_wr ?_; clear HM HB; intro w b HM HB; try clear b) | fail)
  refine (place_any A n c last l k _ (HM.out.rw_ (R := ROne) LOne (by (first | ((repeat (first | with_reducible exact List.Mem.head _ | with_reducible apply List.Mem.tail)); done) | ((repeat (first | exact List.Mem.head _ | apply List.Mem.tail)); done)))) HN.out).mono ?_
  rintro e w ⟨z, rfl, hz, _, _, hb⟩
  have hz0 := hz HI.out
  replace HM := Lib.hid (HM.out.call hb)
  replace HB := HM.out.below
  clear hb hz
  go_wp2_with (first | refine m_rd ?_ | (refine m_wr ?_; clear HM HB; intro w b HM HB; try clear b) | fail)
  have HL2 : n ≤ 1000 := Nat.le_trans HL.out (by decide)
  have HY := docDrop_any A n c last l k _ (HM.out.rw_ (R := ROne) LOne (by (first | ((repeat (first | with_reducible exact List.Mem.head _ | with_reducible apply List.Mem.tail)); done) | ((repeat (first | exact List.Mem.head _ | apply List.Mem.tail)); done)))) HN.out HL2
  rw [HLL.out, HMM.out] at HY
  refine HY.mono ?_
  clear HL2 HY
  rintro e w ⟨A', m, c', rfl, rfl, ho, hb⟩
  replace HM := Lib.hid (HM.out.newRow hb ho)
  replace HB := HM.out.below
  clear ho hb
  have HC3 := Lib.hid (cellsRV A' m c' last)
  go_wp2_with (first | refine m_rd ?_ | (refine m_wr ?_; clear HM HB; intro w b HM HB; try clear b) | fail)
  apply m_ret_c1
  next => exact rfl
  next => exact rfl
  next => exact rfl
  next => exact HM
  next => (first | ((repeat (first | with_reducible exact List.Mem.head _ | with_reducible apply List.Mem.tail)); done) | ((repeat (first | exact List.Mem.head _ | apply List.Mem.tail)); done))
  next => exact Try.underlying65
  next => rfl
  exact ⟨A', c', rfl, Lib.hid ((HM.out.perm (es' := Ent.blk b6 (RV A' m c' last) 65 :: Ent.blk b5 (deedC (1, k)) 67 :: Ent.blk b4 (RV A n c last) 65 :: rosB br bm (last) :: mapE MI bm (ll) :: rowE ROne (.slice A' (m) c') (ll) :: rowE ROne (.slice A n c) l :: es) (by ((repeat (first | exact List.Perm.refl _ | (refine List.Perm.trans (Del.perm (by (first | ((repeat (first | with_reducible exact Del.head _ | with_reducible apply Del.tail)); done) | ((repeat (first | exact Del.head _ | apply Del.tail)); done)))) (List.Perm.cons _ ?_)))); done))).tail.tail.tail)⟩
set_option maxHeartbeats 4000000 in
theorem step_clear {w0 w : World} {es : List Ent} {br bm n c : Nat} {last : Int} {A : Option Addr} {l : List (Key × Int)} (K : Int) (k : Key) (HM : HMem w0 w (rosB br bm last :: mapE MI bm l :: rowE ROne (.slice A n c) l :: es)) (hn : l.length = n) (hl : n ≤ 16) (h0 : 0 ≤ last) (h1 : last < 1000000) (hk0 : K ≠ 0) (hk1 : K ≠ 1) :
    Calls Try.prog 26 #[.pointer (some ⟨br, 0, none⟩), .agg (RV A n c last), .agg (deedC (K, k))] w fun e w' => ∃ A' c', e = .returned (.tuple #[.agg (RV A' 0 c' last), .bool true]) ∧ HMem w0 w' (rosB br bm (last) :: mapE MI bm ([]) :: rowE ROne (.slice A' (0) c') ([]) :: rowE ROne (.slice A n c) l :: es) := by
  have HN := Lib.hid hn
  have HL := Lib.hid hl
  have H0 := Lib.hid h0
  have H1 := Lib.hid h1
  have HC2 := Lib.hid (cellsRV A n c last)
  have HCD := Lib.hid (cellsDeed (K, k))
  have CV1 : Hid ((deedC (K, k))[0]? = some (.int .i64 K)) := Lib.hid (deed_kind (K, k))
  have PT1 : Hid (PartOf 29 (deedC (K, k)) 1 (keyC k)) := Lib.hid (deed_key (K, k))
  have AL1 := Lib.hid zeroRV
  have HB := HM.out.below
  have h0' : (K == 0) = false := by simpa using hk0
  have h1' : (K == 1) = false := by simpa using hk1
  have HBO := Lib.hid (built_last last)
  have hmax : n ≤ 9223372036854775807 := by omega
  clear hk0 hk1
  clear hn hl h0 h1
  go_enter Try.func26, Try.ntmps26
  go_wp2_with (first | (refine m_wr ?_ HM (Wr.box rfl rfl HC2.out) (wanted_none rfl); clear HM HB; intro w b4 HM HB) | (refine m_wr ?_ HM (Wr.box rfl rfl HCD.out) (wanted_none rfl); clear HM HB; intro w b5 HM HB) | (refine m_wr ?_ HM (Wr.alloc rfl AL1.out.1 AL1.out.2) (wanted_none rfl); clear HM HB; intro w b6 HM HB) | refine m_rd ?_ | (refine m_wr ?_; clear HM HB; intro w b HM HB; try clear b) | fail)
  replace HM : HMem w0 w (rosB br bm last :: mapE MI bm l :: rowE ROne (.slice A n c) l :: Ent.blk b6 ZRV 65 :: Ent.blk b5 (deedC (K, k)) 67 :: Ent.blk b4 (RV A n c last) 65 :: es) := Lib.hid (HM.out.perm (by ((repeat (first | exact List.Perm.refl _ | (refine List.Perm.trans (Del.perm (by (first | ((repeat (first | with_reducible exact Del.head _ | with_reducible apply Del.tail)); done) | ((repeat (first | exact Del.head _ | apply Del.tail)); done)))) (List.Perm.cons _ ?_)))); done)))
  refine (rclear_any HM HN.out).mono ?_
  rintro e w ⟨rfl, HM'⟩
  replace HM := HM'
  replace HB := HM.out.below
  clear HM'
  go_wp2_with fail
  try simp only [Act.put, List.setIfInBounds_toArray, List.set_cons_zero, List.set_cons_succ]
  refine wp_region_held_drew (S := fun w' => Mem w0 w' (Ent.blk b4 (RV A n c last) 65 :: [])) (by kernel_rfl) (HM.out.drew.sub (by repeat (first | exact List.nil_sublist _ | apply List.Sublist.cons_cons | apply List.Sublist.cons))) (fun hS => ?_)
  replace HM := Lib.hid HM.out.drew
  replace HB := HM.out.below
  refine tk 0 73 ?_
  refine tkv 1 74 (.int .i64 last) rfl (yields_cell rfl (by kernel_rfl) rfl (fun _ h => h) (by (first | ((repeat (first | with_reducible exact List.Mem.head _ | with_reducible apply List.Mem.tail)); done) | ((repeat (first | exact List.Mem.head _ | apply List.Mem.tail)); done))) rfl (by kernel_rfl)) ?_
  refine tkv 2 75 (.agg (RV none 0 0 last)) rfl (yields_build rfl #[(1, .int .i64 last)] rfl HBO.out (by kernel_rfl)) ?_
  refine tk 3 76 ?_
  refine tk 4 77 ?_
  refine tkv 5 78 (.slice A n c) rfl (yields_cell rfl (by kernel_rfl) rfl (fun _ h => h) (by (first | ((repeat (first | with_reducible exact List.Mem.head _ | with_reducible apply List.Mem.tail)); done) | ((repeat (first | exact List.Mem.head _ | apply List.Mem.tail)); done))) rfl (by kernel_rfl)) ?_
  refine tk 6 79 ?_
  refine tk 7 80 ?_
  refine rone 8 rfl fun K' hK => ?_
  refine s_wr ?_ HM (Wr.whole (b := b6) (vs := RV none 0 0 last) (cs := ZRV) rfl rfl rfl (by (first | ((repeat (first | with_reducible exact Upd.head _ | with_reducible apply Upd.tail)); done) | ((repeat (first | exact Upd.head _ | apply Upd.tail)); done))) (cellsRV none 0 0 last)) (by kernel_rfl)
  clear HM HB
  intro w _ HM HB
  refine hK.out _ _ (HM.out.sub (by repeat (first | exact List.nil_sublist _ | apply List.Sublist.cons_cons | apply List.Sublist.cons))) (fun hS2 => ?_)
  clear hS hK
  have hS := hS2
  clear hS2
  try simp only [Act.put, List.setIfInBounds_toArray, List.set_cons_zero, List.set_cons_succ]
  refine tk 9 7 ?_
  refine wpAnyH_done (by kernel_rfl) ?_ _
  clear hS
  go_wp2_with fail
  replace HM : HMem w0 w (rowE ROne (.slice none 0 0) [] :: rosB br bm last :: mapE MI bm [] :: rowE ROne (.slice A n c) l :: Ent.blk b6 (RV none 0 0 last) 65 :: Ent.blk b5 (deedC (K, k)) 67 :: Ent.blk b4 (RV A n c last) 65 :: es) := Lib.hid (HM.out.nilR ROne)
  apply m_ret_c1
  next => exact rfl
  next => exact rfl
  next => exact rfl
  next => exact HM
  next => (first | ((repeat (first | with_reducible exact List.Mem.head _ | with_reducible apply List.Mem.tail)); done) | ((repeat (first | exact List.Mem.head _ | apply List.Mem.tail)); done))
  next => exact Try.underlying65
  next => rfl
  exact ⟨none, 0, rfl, Lib.hid ((HM.out.perm (es' := Ent.blk b6 (RV none 0 0 last) 65 :: Ent.blk b5 (deedC (K, k)) 67 :: Ent.blk b4 (RV A n c last) 65 :: rosB br bm (last) :: mapE MI bm ([]) :: rowE ROne (.slice none (0) 0) ([]) :: rowE ROne (.slice A n c) l :: es) (by ((repeat (first | exact List.Perm.refl _ | (refine List.Perm.trans (Del.perm (by (first | ((repeat (first | with_reducible exact Del.head _ | with_reducible apply Del.tail)); done) | ((repeat (first | exact Del.head _ | apply Del.tail)); done)))) (List.Perm.cons _ ?_)))); done))).tail.tail.tail)⟩
/-- A deed done: what both make of it; the document's old list stays where it is. -/
theorem step_any {w0 w : World} {es : List Ent} {br bm n c m : Nat} {last : Int} {A : Option Addr} {l : List (Key × Int)} (d : Int × Key) (HM : HMem w0 w (rosB br bm last :: mapE MI bm l :: rowE ROne (.slice A n c) l :: es)) (hn : l.length = n) (hq : OkR (l, last) m) (hm : m < 1000000) {q : List (Key × Int) × Int} (hs : stepR (l, last) d = q) :
    Calls Try.prog 26 #[.pointer (some ⟨br, 0, none⟩), .agg (RV A n c last), .agg (deedC d)] w fun e w' => ∃ A' c', e = .returned (.tuple #[.agg (RV A' q.1.length c' q.2), .bool true]) ∧ ((A' = A ∧ c' = c ∧ q = (l, last) ∧ HMem w0 w' (rosB br bm last :: mapE MI bm l :: rowE ROne (.slice A n c) l :: es)) ∨ HMem w0 w' (rosB br bm q.2 :: mapE MI bm q.1 :: rowE ROne (.slice A' q.1.length c') q.1 :: rowE ROne (.slice A n c) l :: es)) := by
  obtain ⟨K, k⟩ := d
  have h0 : 0 ≤ last := hq.pos
  have h1 : last < 1000000 := by have : last ≤ m := hq.le; omega
  have hl : n ≤ 16 := by have : l.length ≤ 16 := hq.room; omega
  subst hs
  unfold stepR
  simp only
  by_cases hK : K = 0
  · subst hK
    rw [if_pos rfl]
    by_cases he : addE l k = 0
    · rw [if_pos he]
      have hi : inL l k = false := by
        unfold addE at he
        by_cases h : inL l k = true
        · rw [if_pos h] at he; cases he
        · simpa using h
      have h16 : n < 16 := by
        unfold addE at he
        rw [if_neg (by rw [hi]; decide)] at he
        by_cases h : 16 ≤ l.length
        · rw [if_pos h] at he; cases he
        · omega
      refine (step_new k _ HM hn hl h0 h1 hi h16 rfl).mono ?_
      rintro e w' ⟨A', c', rfl, hM⟩
      have hlen : (l ++ [(k, last + 1)]).length = n + 1 := by rw [List.length_append, hn]; rfl
      simp only
      rw [hlen]
      exact ⟨A', c', rfl, .inr hM⟩
    · rw [if_neg he]
      refine (step_bad k HM hn hl h0 h1 he).mono ?_
      rintro e w' ⟨rfl, hM⟩
      simp only
      rw [hn]
      exact ⟨A, c, rfl, .inl ⟨rfl, rfl, by first | rfl | trivial, hM⟩⟩
  · rw [if_neg hK]
    by_cases hK1 : K = 1
    · subst hK1
      rw [if_pos rfl]
      by_cases hi : inL l k = true
      · refine (step_drop k _ _ HM hn hl h0 h1 hi rfl rfl).mono ?_
        rintro e w' ⟨A', c', rfl, hM⟩
        exact ⟨A', c', rfl, .inr hM⟩
      · have hi : inL l k = false := by simpa using hi
        refine (step_none k HM hn hl h0 h1 hi).mono ?_
        rintro e w' ⟨rfl, hM⟩
        have hd : delK l k = l := del_none (inL_none hi)
        simp only
        rw [hd, hn]
        exact ⟨A, c, rfl, .inl ⟨rfl, rfl, by first | rfl | trivial, hM⟩⟩
    · rw [if_neg hK1]
      refine (step_clear K k HM hn hl h0 h1 hK hK1).mono ?_
      rintro e w' ⟨A', c', rfl, hM⟩
      exact ⟨A', c', rfl, .inr hM⟩
end Go.Proofs.Ytapncdgeigbgmaa.Tb
