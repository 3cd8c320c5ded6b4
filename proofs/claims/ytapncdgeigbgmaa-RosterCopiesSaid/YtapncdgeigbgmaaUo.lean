/- Chapter 27: a deed done, beside the document's. -/
import Derived.Test.YtapncdgeigbgmaaUn
import Derived.Test.YtapncdgeigbgmaaUk
set_option linter.unusedSimpArgs false
set_option linter.unusedVariables false
set_option linter.unusedSectionVars false
set_option maxRecDepth 100000
namespace Go.Proofs.Ytapncdgeigbgmaa.Tb
open Go.RowKit Go.Proofs.YtapncdgeigbgmaaW.PrintWords Go.Proofs.Ytapncdgeigbgmaa.Bs Go.Proofs.Ytapncdgeigbgmaa.Gm Go.Proofs.Ytapncdgeigbgmaa.Sf

def deedC (d : Int × Key) : Array Value := #[.int .i64 d.1] ++ keyC d.2
theorem deedC_size (d : Int × Key) : (deedC d).size = 33 := by simp [deedC, keyC_size]
theorem cellsDeed (d : Int × Key) : Cells 67 (deedC d) := ⟨by rw [deedC_size]; kernel_rfl, by
  unfold deedC
  rw [Array.all_append, keyC_one]
  simp [Value.oneCell']⟩
theorem deed_key (d : Int × Key) : PartOf 29 (deedC d) 1 (keyC d.2) := ⟨fun j v hv => by
  unfold deedC
  rw [Array.getElem?_append_right (by simp)]
  simpa using hv, by rw [keyC_size]; exact info_key, by kernel_rfl⟩
theorem deed_kind (d : Int × Key) : (deedC d)[0]? = some (.int .i64 d.1) := by
  unfold deedC
  rw [Array.getElem?_append_left (by simp)]
  rfl
/-- What a deed makes of a list and its last number. -/
def stepR (q : List (Key × Int) × Int) (d : Int × Key) : List (Key × Int) × Int :=
  if d.1 = 0 then (if addE q.1 d.2 = 0 then (q.1 ++ [(d.2, q.2 + 1)], q.2 + 1) else q) else if d.1 = 1 then (delK q.1 d.2, q.2) else ([], q.2)
structure OkR (q : List (Key × Int) × Int) (m : Nat) : Prop where
  rise : Rising q.1
  last : ∀ p ∈ q.1, p.2 ≤ q.2
  pos : 0 ≤ q.2
  le : q.2 ≤ m
  room : q.1.length ≤ 16
theorem inL_none {l : List (Key × Int)} {k : Key} (h : inL l k = false) : getK l k = none := by
  unfold inL at h
  simpa using h
theorem inL_some {l : List (Key × Int)} {k : Key} (h : inL l k = true) : ∃ v, getK l k = some v := Option.isSome_iff_exists.1 h
theorem put_new {l : List (Key × Int)} {k : Key} {v : Int} (h : getK l k = none) : putK l k v = l ++ [(k, v)] := by
  unfold putK
  rw [h]
  rfl
theorem OkR.step {q : List (Key × Int) × Int} {m : Nat} (h : OkR q m) (d : Int × Key) : OkR (stepR q d) (m + 1) := by
  obtain ⟨l, last⟩ := q
  obtain ⟨h1, h2, h3, h4, h5⟩ := h
  simp only at h1 h2 h3 h4 h5
  unfold stepR
  split
  · split
    · rename_i h0 he
      unfold addE at he
      simp only at he
      refine ⟨?_, fun p hp => ?_, by simp only; omega, by simp only; omega, ?_⟩
      · unfold Rising at h1 ⊢
        rw [List.map_append, List.pairwise_append]
        refine ⟨h1, by simp, fun a ha b hb => ?_⟩
        obtain ⟨p, hp, rfl⟩ := List.mem_map.1 ha
        obtain rfl : b = last + 1 := by simpa using hb
        have := h2 p hp
        omega
      · rcases List.mem_append.1 hp with hp | hp
        · have := h2 p hp
          simp only
          omega
        · obtain rfl : p = (d.2, last + 1) := by simpa using hp
          simp
      · split at he
        · cases he
        · split at he
          · cases he
          · simp; omega
    · exact ⟨h1, h2, h3, by simp only; omega, h5⟩
  · split
    · refine ⟨h1.sublist (List.filter_sublist.map _), fun p hp => h2 p (List.mem_filter.1 hp).1, h3, by simp only; omega, Nat.le_trans (del_len l d.2) h5⟩
    · exact ⟨List.Pairwise.nil, fun p hp => absurd hp List.not_mem_nil, h3, by simp only; omega, Nat.zero_le _⟩
theorem built_last (last : Int) : Built 65 #[(1, .int .i64 last)] (.agg (RV none 0 0 last)) := fun W => by kernel_rfl
set_option maxHeartbeats 4000000 in
theorem step_bad {w0 w : World} {es : List Ent} {br bm n c : Nat} {last : Int} {A : Option Addr} {l : List (Key × Int)} (k : Key) (HM : HMem w0 w (rosB br bm last :: mapE MI bm l :: rowE ROne (.slice A n c) l :: es)) (hn : l.length = n) (hl : n ≤ 16) (h0 : 0 ≤ last) (h1 : last < 1000000) (he : addE l k ≠ 0) :
    Calls Try.prog 26 #[.pointer (some ⟨br, 0, none⟩), .agg (RV A n c last), .agg (deedC (0, k))] w fun e w' => e = .returned (.tuple #[.agg (RV A n c last), .bool true]) ∧ HMem w0 w' (rosB br bm last :: mapE MI bm l :: rowE ROne (.slice A n c) l :: es) := by
  have HN := Lib.hid hn
  have HL := Lib.hid hl
  have H0 := Lib.hid h0
  have H1 := Lib.hid h1
  have HC2 := Lib.hid (cellsRV A n c last)
  have HCD := Lib.hid (cellsDeed (0, k))
  have CV1 : Hid ((deedC (0, k))[0]? = some (.int .i64 0)) := Lib.hid (deed_kind (0, k))
  have PT1 : Hid (PartOf 29 (deedC (0, k)) 1 (keyC k)) := Lib.hid (deed_key (0, k))
  have AL1 := Lib.hid zeroRV
  have HB := HM.out.below
  have HE := Lib.hid he
  have HR : Hid (addE l k = 13 ∧ inL l k = true ∨ addE l k = 7 ∧ inL l k = false ∧ 16 ≤ l.length) := Lib.hid (by
    unfold addE at he ⊢
    by_cases h : inL l k = true
    · exact .inl ⟨if_pos h, h⟩
    · rw [if_neg h] at he ⊢
      by_cases h2 : 16 ≤ l.length
      · exact .inr ⟨if_pos h2, by simpa using h, h2⟩
      · rw [if_neg h2] at he; exact absurd rfl he)
  clear he
  clear hn hl h0 h1
  go_enter Try.func26, Try.ntmps26
  go_wp2_with (first | (refine m_wr ?_ HM (Wr.box rfl rfl HC2.out) (wanted_none rfl); clear HM HB; intro w b4 HM HB) | (refine m_wr ?_ HM (Wr.box rfl rfl HCD.out) (wanted_none rfl); clear HM HB; intro w b5 HM HB) | (refine m_wr ?_ HM (Wr.alloc rfl AL1.out.1 AL1.out.2) (wanted_none rfl); clear HM HB; intro w b6 HM HB) | refine m_rd ?_ | (refine m_wr ?_; clear HM HB; intro w b HM HB; try clear b) | fail)
  replace HM : HMem w0 w (rosB br bm last :: mapE MI bm l :: rowE ROne (.slice A n c) l :: Ent.blk b6 ZRV 65 :: Ent.blk b5 (deedC (0, k)) 67 :: Ent.blk b4 (RV A n c last) 65 :: es) := Lib.hid (HM.out.perm (by ((repeat (first | exact List.Perm.refl _ | (refine List.Perm.trans (Del.perm (by (first | ((repeat (first | with_reducible exact Del.head _ | with_reducible apply Del.tail)); done) | ((repeat (first | exact Del.head _ | apply Del.tail)); done)))) (List.Perm.cons _ ?_)))); done)))
  rcases HR.out with ⟨he, hi⟩ | ⟨he, hi, h16⟩
  · obtain ⟨v, hv⟩ := inL_some hi
    refine (add_twice k HM hv).mono ?_
    clear hv
    clear hi
    rintro e w ⟨rfl, HM'⟩
    replace HM := HM'
    replace HB := HM.out.below
    clear HM'
    have HD := Lib.hid (fun W (hr : RW ROne W (.slice A n c) l) => docAdd_no A n c last l k W hr HN.out HE.out)
    rw [he] at HD
    clear he
    go_wp2_with (first | refine m_rd ?_ | (refine m_wr ?_; clear HM HB; intro w b HM HB; try clear b) | fail)
    refine (HD.out _ (HM.out.rw_ (R := ROne) LOne (by (first | ((repeat (first | with_reducible exact List.Mem.head _ | with_reducible apply List.Mem.tail)); done) | ((repeat (first | exact List.Mem.head _ | apply List.Mem.tail)); done))))).mono ?_
    rintro e w ⟨rfl, hb⟩
    replace HM := Lib.hid (HM.out.call hb)
    replace HB := HM.out.below
    clear hb
    go_wp2_with (first | refine m_rd ?_ | (refine m_wr ?_; clear HM HB; intro w b HM HB; try clear b) | fail)
    apply m_ret_c1
    next => exact rfl
    next => exact rfl
    next => exact rfl
    next => exact HM
    next => (first | ((repeat (first | with_reducible exact List.Mem.head _ | with_reducible apply List.Mem.tail)); done) | ((repeat (first | exact List.Mem.head _ | apply List.Mem.tail)); done))
    next => exact Try.underlying65
    next => rfl
    exact ⟨rfl, Lib.hid ((HM.out.perm (es' := Ent.blk b (RV A n c last) 65 :: Ent.blk b6 (RV A n c last) 65 :: Ent.blk b5 (deedC (0, k)) 67 :: Ent.blk b4 (RV A n c last) 65 :: rosB br bm last :: mapE MI bm l :: rowE ROne (.slice A n c) l :: es) (by ((repeat (first | exact List.Perm.refl _ | (refine List.Perm.trans (Del.perm (by (first | ((repeat (first | with_reducible exact Del.head _ | with_reducible apply Del.tail)); done) | ((repeat (first | exact Del.head _ | apply Del.tail)); done)))) (List.Perm.cons _ ?_)))); done))).tail.tail.tail.tail)⟩
  · refine (add_full k HM (inL_none hi) h16).mono ?_
    clear h16
    clear hi
    rintro e w ⟨rfl, HM'⟩
    replace HM := HM'
    replace HB := HM.out.below
    clear HM'
    have HD := Lib.hid (fun W (hr : RW ROne W (.slice A n c) l) => docAdd_no A n c last l k W hr HN.out HE.out)
    rw [he] at HD
    clear he
    go_wp2_with (first | refine m_rd ?_ | (refine m_wr ?_; clear HM HB; intro w b HM HB; try clear b) | fail)
    refine (HD.out _ (HM.out.rw_ (R := ROne) LOne (by (first | ((repeat (first | with_reducible exact List.Mem.head _ | with_reducible apply List.Mem.tail)); done) | ((repeat (first | exact List.Mem.head _ | apply List.Mem.tail)); done))))).mono ?_
    rintro e w ⟨rfl, hb⟩
    replace HM := Lib.hid (HM.out.call hb)
    replace HB := HM.out.below
    clear hb
    go_wp2_with (first | refine m_rd ?_ | (refine m_wr ?_; clear HM HB; intro w b HM HB; try clear b) | fail)
    apply m_ret_c1
    next => exact rfl
    next => exact rfl
    next => exact rfl
    next => exact HM
    next => (first | ((repeat (first | with_reducible exact List.Mem.head _ | with_reducible apply List.Mem.tail)); done) | ((repeat (first | exact List.Mem.head _ | apply List.Mem.tail)); done))
    next => exact Try.underlying65
    next => rfl
    exact ⟨rfl, Lib.hid ((HM.out.perm (es' := Ent.blk b (RV A n c last) 65 :: Ent.blk b6 (RV A n c last) 65 :: Ent.blk b5 (deedC (0, k)) 67 :: Ent.blk b4 (RV A n c last) 65 :: rosB br bm last :: mapE MI bm l :: rowE ROne (.slice A n c) l :: es) (by ((repeat (first | exact List.Perm.refl _ | (refine List.Perm.trans (Del.perm (by (first | ((repeat (first | with_reducible exact Del.head _ | with_reducible apply Del.tail)); done) | ((repeat (first | exact Del.head _ | apply Del.tail)); done)))) (List.Perm.cons _ ?_)))); done))).tail.tail.tail.tail)⟩
end Go.Proofs.Ytapncdgeigbgmaa.Tb
