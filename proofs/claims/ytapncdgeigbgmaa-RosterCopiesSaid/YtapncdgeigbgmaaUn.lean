/- Chapter 27: a roster that has what the document's has. -/
import Derived.Test.YtapncdgeigbgmaaUm
import Derived.Test.YtapncdgeigbgmaaUj
set_option linter.unusedSimpArgs false
set_option linter.unusedVariables false
set_option linter.unusedSectionVars false
set_option maxRecDepth 100000
namespace Go.Proofs.Ytapncdgeigbgmaa.Tb
open Go.RowKit Go.Proofs.YtapncdgeigbgmaaW.PrintWords Go.Proofs.Ytapncdgeigbgmaa.Bs Go.Proofs.Ytapncdgeigbgmaa.Gm Go.Proofs.Ytapncdgeigbgmaa.Sf

theorem keyOfId_mem {l : List (Key × Int)} (hr : Rising l) {k : Key} {v : Int} (h : (k, v) ∈ l) : keyOfId l v = some k := by
  obtain ⟨i, hi⟩ := List.getElem?_of_mem h
  refine keyOfId_at (p := (k, v)) hi (fun j q hj hq e => ?_) rfl
  unfold Rising at hr
  have hil := (List.getElem?_eq_some_iff.1 hi).1
  have hjl := (List.getElem?_eq_some_iff.1 hq).1
  have := List.pairwise_iff_getElem.1 hr j i (by simpa using hjl) (by simpa using hil) hj
  rw [List.getElem_map, List.getElem_map] at this
  have e1 : l[j] = q := by rw [List.getElem?_eq_getElem hjl] at hq; injection hq
  have e2 : l[i] = (k, v) := by rw [List.getElem?_eq_getElem hil] at hi; injection hi
  rw [e1, e2] at this
  simp only at this
  omega
theorem row_at {w0 w : World} {es : List Ent} {A : Option Addr} {n c : Nat} {l : List (Key × Int)} (hm : Mem w0 w es) (m : rowE ROne (.slice A n c) l ∈ es) {i : Nat} {p : Key × Int} (hx : l[i]? = some p) : ∃ ad, A = some ad ∧ RangeA w (ad.add (i * 33)) (oneC p) := (hm.rw_ (R := ROne) LOne m).elem LOne hx
theorem row_at' {w0 w : World} {es : List Ent} {ad : Addr} {n c : Nat} {l : List (Key × Int)} (hm : Mem w0 w es) (m : rowE ROne (.slice (some ad) n c) l ∈ es) {i : Nat} {p : Key × Int} (hx : l[i]? = some p) : RangeA w (ad.add (i * 33)) (oneC p) := by
  obtain ⟨ad', e, hr⟩ := row_at hm m hx
  injection e with e
  subst e
  exact hr
set_option maxHeartbeats 4000000 in
theorem ralike_any {w0 w : World} {es : List Ent} {br bm n c : Nat} {last last2 : Int} {A : Option Addr} {l : List (Key × Int)} (HM : HMem w0 w (rosB br bm last :: mapE MI bm l :: rowE ROne (.slice A n c) l :: es)) (hn : l.length = n) (hl : n ≤ 1000) (hr : Rising l) (hnd : (l.map (·.1)).Nodup) :
    Calls Try.prog 27 #[.pointer (some ⟨br, 0, none⟩), .agg (RV A n c last2)] w fun e w' => e = .returned (.bool true) ∧ HMem w0 w' (rosB br bm last :: mapE MI bm l :: rowE ROne (.slice A n c) l :: es) := by
  have HN := Lib.hid hn
  have HR : Hid (Rising l) := Lib.hid hr
  have HND := Lib.hid hnd
  have HC2 := Lib.hid (cellsRV A n c last2)
  have CV1 : Hid ((RV A n c last2)[0]? = some (.slice A n c)) := Lib.hid rfl
  have AL1 := Lib.hid zeroKey
  have HB := HM.out.below
  have HKL : Hid ((l.map (·.1)).length = n) := Lib.hid (by rw [List.length_map]; exact hn)
  have hmax : n ≤ 9223372036854775807 := by omega
  have HL1000 := Lib.hid hl
  clear hn hr hnd
  go_enter Try.func27, Try.ntmps27
  go_wp2_with (first | (refine m_wr ?_ HM (Wr.box rfl rfl HC2.out) (wanted_none rfl); clear HM HB; intro w b3 HM HB) | fail)
  replace HM : HMem w0 w (rosB br bm last :: mapE MI bm l :: Ent.blk b3 (RV A n c last2) 65 :: rowE ROne (.slice A n c) l :: es) := Lib.hid (HM.out.perm (by ((repeat (first | exact List.Perm.refl _ | (refine List.Perm.trans (Del.perm (by (first | ((repeat (first | with_reducible exact Del.head _ | with_reducible apply Del.tail)); done) | ((repeat (first | exact Del.head _ | apply Del.tail)); done)))) (List.Perm.cons _ ?_)))); done)))
  try simp only [Act.put, List.setIfInBounds_toArray, List.set_cons_zero, List.set_cons_succ]
  refine wp_region_held_drew (S := fun w' => Mem w0 w' (rosB br bm last :: Ent.blk b3 (RV A n c last2) 65 :: [])) (by kernel_rfl) (HM.out.drew.perm (List.Perm.refl _) |>.sub (by repeat (first | exact List.nil_sublist _ | apply List.Sublist.cons_cons | apply List.Sublist.cons))) (fun hS => ?_)
  replace HM := Lib.hid HM.out.drew
  replace HB := HM.out.below
  refine tk 0 10 ?_
  refine tk 1 11 ?_
  refine tk 2 12 ?_
  refine tk 3 13 ?_
  refine tk 5 15 ?_
  refine tkv 6 16 (.slice A n c) rfl (yields_cell rfl (by kernel_rfl) rfl (fun _ h => h) (by (first | ((repeat (first | with_reducible exact List.Mem.head _ | with_reducible apply List.Mem.tail)); done) | ((repeat (first | exact List.Mem.head _ | apply List.Mem.tail)); done))) rfl (by kernel_rfl)) ?_
  refine tk 7 17 ?_
  refine rone 4 rfl fun K' hK => ?_
  go_simp
  refine (rlen_any HM (by (first | ((repeat (first | with_reducible exact List.Mem.head _ | with_reducible apply List.Mem.tail)); done) | ((repeat (first | exact List.Mem.head _ | apply List.Mem.tail)); done))) (by (first | ((repeat (first | with_reducible exact List.Mem.head _ | with_reducible apply List.Mem.tail)); done) | ((repeat (first | exact List.Mem.head _ | apply List.Mem.tail)); done))) HN.out).mono ?_
  rintro e w' ⟨rfl, rfl⟩
  refine hK.out _ _ (HM.out.sub (by repeat (first | exact List.nil_sublist _ | apply List.Sublist.cons_cons | apply List.Sublist.cons))) (fun hS2 => ?_)
  clear hS hK
  have hS := hS2
  clear hS2
  try simp only [Act.put, List.setIfInBounds_toArray, List.set_cons_zero, List.set_cons_succ]
  refine tk 8 18 ?_
  refine tk 9 19 ?_
  refine tk 10 20 ?_
  refine tk 11 21 ?_
  refine tkv 13 23 (.agg (RV A n c last2)) rfl (yields_own rfl rfl (fun _ h => h) (by (first | ((repeat (first | with_reducible exact List.Mem.head _ | with_reducible apply List.Mem.tail)); done) | ((repeat (first | exact List.Mem.head _ | apply List.Mem.tail)); done))) Try.underlying65 rfl HC2.out.1 (by kernel_rfl)) ?_
  refine rone 12 rfl fun K' hK => ?_
  go_simp
  refine (rkeys_any HM (by rw [HN.out]; exact HL1000.out) HR.out).mono ?_
  rw [HN.out]
  rintro e w ⟨A1, c1, rfl, HM'⟩
  replace HM := HM'
  replace HB := HM.out.below
  clear HM'
  refine hK.out _ _ (HM.out.tail.sub (by repeat (first | exact List.nil_sublist _ | apply List.Sublist.cons_cons | apply List.Sublist.cons))) (fun hS2 => ?_)
  clear hS hK
  have hS := hS2
  clear hS2
  try simp only [Act.put, List.setIfInBounds_toArray, List.set_cons_zero, List.set_cons_succ]
  refine rone 14 rfl fun K' hK => ?_
  go_simp
  refine (docKeys_any A n c last2 l _ (HM.out.rw_ (R := ROne) LOne (by (first | ((repeat (first | with_reducible exact List.Mem.head _ | with_reducible apply List.Mem.tail)); done) | ((repeat (first | exact List.Mem.head _ | apply List.Mem.tail)); done)))) HN.out HL1000.out).mono ?_
  rintro e w ⟨A2, c2, rfl, ho, hb⟩
  replace HM := Lib.hid (HM.out.newRow hb ho)
  replace HB := HM.out.below
  clear ho hb
  refine hK.out _ _ (HM.out.tail.tail.sub (by repeat (first | exact List.nil_sublist _ | apply List.Sublist.cons_cons | apply List.Sublist.cons))) (fun hS2 => ?_)
  clear hS hK
  have hS := hS2
  clear hS2
  try simp only [Act.put, List.setIfInBounds_toArray, List.set_cons_zero, List.set_cons_succ]
  refine rone 15 rfl fun K' hK => ?_
  go_simp
  have HSK := same_keys A1 A2 c1 c2 (l.map (·.1)) _ (by rw [HKL.out]; exact HM.out.rw_ LKey (by (first | ((repeat (first | with_reducible exact List.Mem.head _ | with_reducible apply List.Mem.tail)); done) | ((repeat (first | exact List.Mem.head _ | apply List.Mem.tail)); done)))) (by rw [HKL.out]; exact HM.out.rw_ LKey (by (first | ((repeat (first | with_reducible exact List.Mem.head _ | with_reducible apply List.Mem.tail)); done) | ((repeat (first | exact List.Mem.head _ | apply List.Mem.tail)); done))))
  rw [HKL.out] at HSK
  refine HSK.mono ?_
  clear HSK
  rintro e w ⟨rfl, hb⟩
  replace HM := Lib.hid (HM.out.call hb)
  replace HB := HM.out.below
  clear hb
  refine hK.out _ _ (HM.out.tail.tail.sub (by repeat (first | exact List.nil_sublist _ | apply List.Sublist.cons_cons | apply List.Sublist.cons))) (fun hS2 => ?_)
  clear hS hK
  have hS := hS2
  clear hS2
  try simp only [Act.put, List.setIfInBounds_toArray, List.set_cons_zero, List.set_cons_succ]
  refine tk 16 26 ?_
  refine tk 17 27 ?_
  refine wpAnyH_done (by kernel_rfl) ?_ _
  clear hS
  replace HM : HMem w0 w (rosB br bm last :: mapE MI bm l :: Ent.blk b3 (RV A n c last2) 65 :: rowE ROne (.slice A n c) l :: es) := Lib.hid HM.out.tail.tail
  replace HB := HM.out.below
  go_wp2_with fail
  go_loopw [5] (fun v5 wr => ∃ i, i ≤ n ∧ v5 = .int .i64 (i : Nat) ∧ HMem w0 wr (rosB br bm last :: mapE MI bm l :: Ent.blk b3 (RV A n c last2) 65 :: rowE ROne (.slice A n c) l :: es)) (fun v5 _ => n - (intOf v5).toNat)
  case atStart => exact ⟨0, Nat.zero_le _, rfl, HM⟩
  case round =>
    clear HM HB
    obtain ⟨i, hi, rfl, HM⟩ := hrel
    have HB := HM.out.below
    by_cases hlt : i < n
    · obtain ⟨⟨kx, v⟩, hp⟩ : ∃ p, l[i]? = some p := ⟨l[i]'(by rw [HN.out]; exact hlt), by simp [HN.out, hlt]⟩
      obtain ⟨ad, rfl, _⟩ := row_at HM.out (by (first | ((repeat (first | with_reducible exact List.Mem.head _ | with_reducible apply List.Mem.tail)); done) | ((repeat (first | exact List.Mem.head _ | apply List.Mem.tail)); done))) hp
      have HP := Lib.hid hp
      have HG : Hid (getK l kx = some v) := Lib.hid (getK_of HND.out (List.mem_of_getElem? hp))
      have HK : Hid (keyOfId l v = some kx) := Lib.hid (keyOfId_mem HR.out (List.mem_of_getElem? hp))
      have HC := Lib.hid (cellsKV kx)
      have HE : Hid (EqlOf 29 (keyC kx) (keyC kx) true) := Lib.hid (by have := eq_key kx kx; rwa [decide_eq_true rfl] at this)
      clear hp
      go_wp2_with (first | (refine m_rd ?_ HM (Rd.elem rfl (by kernel_rfl) rfl (fun w hm => one_key (row_at' hm (by (first | ((repeat (first | with_reducible exact List.Mem.head _ | with_reducible apply List.Mem.tail)); done) | ((repeat (first | exact List.Mem.head _ | apply List.Mem.tail)); done))) HP.out)) (by show _ = some (keyC kx).size; rw [keyC_size]; exact info_key)) (wanted_none rfl)) | refine m_rd ?_ | (refine m_wr ?_; clear HM HB; intro w b HM HB; try clear b) | fail)
      refine (id_some kx HM HG.out).mono ?_
      rintro e w ⟨rfl, HM'⟩
      replace HM := HM'
      replace HB := HM.out.below
      clear HM'
      go_wp2_with (first | (refine m_rd ?_ HM (Rd.fact rfl (by kernel_rfl) rfl (fun w hm => one_id (row_at' hm (by (first | ((repeat (first | with_reducible exact List.Mem.head _ | with_reducible apply List.Mem.tail)); done) | ((repeat (first | exact List.Mem.head _ | apply List.Mem.tail)); done))) HP.out))) (wanted_none rfl)) | refine m_rd ?_ | (refine m_wr ?_; clear HM HB; intro w b HM HB; try clear b) | fail)
      refine (rkey_any v HM (by rw [HN.out]; exact HL1000.out) HR.out HND.out).mono ?_
      rw [HK.out]
      rintro e w ⟨rfl, HM'⟩
      replace HM := HM'
      replace HB := HM.out.below
      clear HM'
      rw [show keyV (some kx) = keyC kx from rfl, Option.isSome_some]
      go_wp2_with (first | refine m_rd ?_ | (refine m_wr ?_; clear HM HB; intro w b HM HB; try clear b) | fail)
      try simp only [Act.put, List.setIfInBounds_toArray, List.set_cons_zero, List.set_cons_succ]
      refine wp_region_held_drew (S := fun w' => Mem w0 w' (Ent.blk b (keyC kx) 29 :: rosB br bm last :: mapE MI bm l :: Ent.blk b3 (RV (some ad) n c last2) 65 :: rowE ROne (.slice (some ad) n c) l :: es)) (by kernel_rfl) (HM.out.drew) (fun hS => ?_)
      replace HM := Lib.hid HM.out.drew
      replace HB := HM.out.below
      refine tk 0 57 ?_
      refine tk 1 58 ?_
      refine tkv 2 59 (.slice (some ad) n c) rfl (yields_cell rfl (by kernel_rfl) rfl (fun _ h => h) (by (first | ((repeat (first | with_reducible exact List.Mem.head _ | with_reducible apply List.Mem.tail)); done) | ((repeat (first | exact List.Mem.head _ | apply List.Mem.tail)); done))) rfl (by kernel_rfl)) ?_
      refine tk 3 60 ?_
      refine tk 4 61 ?_
      refine tk 5 62 ?_
      refine tkv 6 63 (.int .i64 v) rfl (yields_fact rfl (by kernel_rfl) rfl (fun w hw => one_id (row_at' hw (by (first | ((repeat (first | with_reducible exact List.Mem.head _ | with_reducible apply List.Mem.tail)); done) | ((repeat (first | exact List.Mem.head _ | apply List.Mem.tail)); done))) HP.out)) (by kernel_rfl)) ?_
      refine tk 7 64 ?_
      refine tk 8 65 ?_
      refine tk 9 66 ?_
      refine tk 10 67 ?_
      refine tk 11 68 ?_
      refine tk 12 69 ?_
      refine tkv 13 70 (.agg (keyC kx)) rfl (yields_own rfl rfl (fun _ h => h) (by (first | ((repeat (first | with_reducible exact List.Mem.head _ | with_reducible apply List.Mem.tail)); done) | ((repeat (first | exact List.Mem.head _ | apply List.Mem.tail)); done))) Try.underlying29 rfl HC.out.1 (by kernel_rfl)) ?_
      refine tk 14 71 ?_
      refine tkv 15 72 (.slice (some ad) n c) rfl (yields_cell rfl (by kernel_rfl) rfl (fun _ h => h) (by (first | ((repeat (first | with_reducible exact List.Mem.head _ | with_reducible apply List.Mem.tail)); done) | ((repeat (first | exact List.Mem.head _ | apply List.Mem.tail)); done))) rfl (by kernel_rfl)) ?_
      refine tk 16 73 ?_
      refine tk 17 74 ?_
      refine tk 18 75 ?_
      refine tkv 19 76 (.agg (keyC kx)) rfl (yields_elem rfl (by kernel_rfl) rfl (fun w hw => one_key (row_at' hw (by (first | ((repeat (first | with_reducible exact List.Mem.head _ | with_reducible apply List.Mem.tail)); done) | ((repeat (first | exact List.Mem.head _ | apply List.Mem.tail)); done))) HP.out)) (by rw [keyC_size]; exact info_key) (by kernel_rfl)) ?_
      refine tkv 20 77 (.bool (!true)) rfl (yields_neq rfl rfl rfl (by kernel_rfl) HE.out (by kernel_rfl)) ?_
      refine tk 21 78 ?_
      refine tk 22 79 ?_
      refine tk 23 80 ?_
      refine tk 24 81 ?_
      refine tk 25 82 ?_
      refine wpAnyH_done (by kernel_rfl) ?_ _
      clear hS
      go_wp2_with fail
      go_roundw
      case rel => exact ⟨i + 1, by omega, by go_num, Lib.hid HM.out.tail⟩
      case measure => (simp [intOf]) <;> omega
    · obtain rfl : i = n := by omega
      go_wp2_with (first | refine m_rd ?_ | (refine m_wr ?_; clear HM HB; intro w b HM HB; try clear b) | fail)
      go_ret
      exact ⟨rfl, Lib.hid ((HM.out.perm (es' := Ent.blk b3 (RV A i c last2) 65 :: rosB br bm last :: mapE MI bm l :: rowE ROne (.slice A i c) l :: es) (by ((repeat (first | exact List.Perm.refl _ | (refine List.Perm.trans (Del.perm (by (first | ((repeat (first | with_reducible exact Del.head _ | with_reducible apply Del.tail)); done) | ((repeat (first | exact Del.head _ | apply Del.tail)); done)))) (List.Perm.cons _ ?_)))); done))).tail)⟩
end Go.Proofs.Ytapncdgeigbgmaa.Tb
