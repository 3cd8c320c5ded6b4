/- The document's roster: all keys, a key dropped, a key put. -/
import Derived.Test.YtapncdgeigbgmaaUi
set_option linter.unusedSimpArgs false
set_option linter.unusedVariables false
set_option linter.unusedSectionVars false
set_option maxRecDepth 100000
namespace Go.Proofs.Ytapncdgeigbgmaa.Tb
open Go.RowKit Go.Proofs.YtapncdgeigbgmaaW.PrintWords Go.Proofs.Ytapncdgeigbgmaa.Bs Go.Proofs.Ytapncdgeigbgmaa.Gm Go.Proofs.Ytapncdgeigbgmaa.Sf

theorem take_snoc {α : Type} {l : List α} {i : Nat} {p : α} (h : l[i]? = some p) : l.take (i + 1) = l.take i ++ [p] := by
  rw [List.take_add_one, h]
  rfl
theorem take_len {α : Type} {l : List α} {i : Nat} (h : i ≤ l.length) : (l.take i).length = i := by simp; omega
set_option maxHeartbeats 1000000 in
theorem docKeys_any (A : Option Addr) (n c : Nat) (last : Int) (l : List (Key × Int)) (w0 : World) (hr : RW ROne w0 (.slice A n c) l) (hn : l.length = n) (h100 : n ≤ 1000) :
    Calls Try.prog 61 #[.agg (RV A n c last)] w0 fun e w' => ∃ A' c', e = .returned (.slice A' n c') ∧ OW RKey w0.heap.size w' (.slice A' n c') (l.map (·.1)) ∧ Below w0.heap.size w0 w' := by
  have HP := Lib.hid (one_at hr hn)
  have hmax := rw_max hr
  have HN := Lib.hid hn
  have HC2 := Lib.hid (cellsRV A n c last)
  have CV1 : Hid ((RV A n c last)[0]? = some (.slice A n c)) := Lib.hid rfl
  clear hr hn
  have HM := Lib.hid (Mem.start w0)
  have HB := HM.out.below
  go_enter Try.func61, Try.ntmps61
  go_wp2_with (first | (refine m_wr ?_ HM (Wr.box rfl rfl HC2.out) (wanted_none rfl); clear HM HB; intro w br HM HB) | refine m_rd ?_ | (refine m_wr ?_; clear HM HB; intro w b HM HB; try clear b) | fail)
  go_loopw [3, 4] (fun v3 v4 wr => ∃ i A' c', i ≤ n ∧ v3 = .slice A' i c' ∧ v4 = .int .i64 (i : Nat) ∧ HMem w0 wr [rowE RKey (.slice A' i c') ((l.take i).map (·.1)), Ent.blk br (RV A n c last) 65]) (fun _ v4 _ => n - (intOf v4).toNat)
  case atStart => exact ⟨0, none, 0, Nat.zero_le _, rfl, rfl, Lib.hid (HM.out.nilR RKey)⟩
  case round =>
    clear HM HB
    obtain ⟨i, A', c', hi, rfl, rfl, HM⟩ := hrel
    have HB := HM.out.below
    by_cases hlt : i < n
    · obtain ⟨p, ad, hp, rfl, hrng⟩ := HP.out i hlt
      have HRK : Hid (∀ W, Below w0.heap.size w0 W → RangeA W (ad.add (i * 33)) (keyC p.1)) := Lib.hid (fun W hW => one_key (hrng W hW))
      have LT1 := Lib.hid (litKey p.1)
      obtain ⟨xs, hxs⟩ : ∃ xs, (l.take i).map (·.1) = xs := ⟨_, rfl⟩
      have HX : Hid ((l.take (i + 1)).map (·.1) = xs ++ [p.1]) := Lib.hid (by rw [take_snoc hp, List.map_append, hxs]; rfl)
      have HN1 : Hid (xs.length + [p.1].length = i + 1) := Lib.hid (by rw [← hxs, List.length_map, take_len (by have := HN.out; omega)]; rfl)
      have HL1 : Hid ((i + 1) * RKey.bytes ≤ 140737488355328) := Lib.hid (by show (i + 1) * 32 ≤ _; omega)
      rw [hxs] at HM
      clear hp hrng HP hxs
      go_wp2_with (first | (refine m_rd ?_ HM (Rd.elem rfl (by kernel_rfl) rfl (fun w hm => HRK.out w hm.below) (by rw [keyC_size]; exact info_key)) (wanted_none rfl)) | ((with_reducible apply m_wrh); (next => exact HM); (next => exact wanted_none rfl); ((with_reducible apply Wr.litR LKey); (next => exact rfl); (next => first | with_reducible exact LT1.out | with_reducible exact LT2.out | with_reducible exact LT3.out | exact LT1.out | exact LT2.out | exact LT3.out); (next => first | (go_simp; done) | exact rfl)); clear HM HB; intro w b HM HB; try clear b) | ((with_reducible apply m_wxh); (next => exact HM); (next => exact wanted_none rfl); ((with_reducible apply Wx.app LKey); (next => exact rfl); (next => first | (go_simp; with_reducible rfl) | exact rfl); (next => first | (go_simp; with_reducible rfl) | exact rfl); (next => (first | ((repeat (first | with_reducible exact Del.head _ | with_reducible apply Del.tail)); done) | ((repeat (first | exact Del.head _ | apply Del.tail)); done))); (next => intro w hm; first | with_reducible exact HR1.out.below hm.below | with_reducible exact HR2.out.below hm.below | exact hm.rw_ LKey (by (first | ((repeat (first | with_reducible exact List.Mem.head _ | with_reducible apply List.Mem.tail)); done) | ((repeat (first | exact List.Mem.head _ | apply List.Mem.tail)); done)))); (next => first | exact HN1.out | exact HN2.out | exact HN3.out | exact HN4.out); (next => first | exact HL1.out | exact HL2.out)); clear HM HB; rintro w ⟨Aq, cq⟩ HM HB) | refine m_rd ?_ | (refine m_wr ?_; clear HM HB; intro w b HM HB; try clear b) | fail)
      go_roundw
      case rel => exact ⟨i + 1, Aq, cq, by omega, rfl, by go_num, by rw [HX.out]; exact Lib.hid (HM.out.sub (by repeat (first | exact List.Sublist.refl _ | apply List.Sublist.cons_cons | apply List.Sublist.cons)))⟩
      case measure => (simp [intOf]) <;> omega
    · obtain rfl : i = n := by omega
      go_wp2_with (first | refine m_rd ?_ | (refine m_wr ?_; clear HM HB; intro w b HM HB; try clear b) | fail)
      go_ret
      refine ⟨A', c', rfl, ?_, HB⟩
      have ho := HM.out.ow (R := RKey) (List.mem_cons_self ..)
      rwa [List.take_of_length_le (by have := HN.out; omega)] at ho
theorem info_one : (Try.prog.info? 76).map (·.size) = some 33 := by kernel_rfl
theorem litOne (p : Key × Int) : LitR ROne 1 #[(0, .agg (oneC p))] [p] := ⟨rfl, by decide, fun W => by
  obtain ⟨k0, k1, k2, k3, k4, k5, k6, k7, k8, k9, k10, k11, k12, k13, k14, k15, k16, k17, k18, k19, k20, k21, k22, k23, k24, k25, k26, k27, k28, k29, k30, k31, e⟩ := arr32 (keyC_size p.1)
  have e2 : encR ROne [p] = (oneC p).toList := by simp [encR, ROne]
  show (Instr.buildSlice 63 1 #[(0, .agg (oneC p))]).run Try.prog W = .ok (.slice (some ⟨W.heap.size, 0, none⟩) 1 1) (W.alloc (.cells (encR ROne [p]).toArray 76))
  rw [e2]
  unfold oneC
  rw [e]
  kernel_rfl⟩
def ZRV : Array Value := RV none 0 0 0
theorem zeroRV : ZeroOf 65 ZRV := ⟨fun W => zero_of (by kernel_rfl) W, cellsRV none 0 0 0⟩
theorem del_snoc {κ ν : Type} [DecidableEq κ] {l : List (κ × ν)} {i : Nat} {p : κ × ν} {x : κ} (h : l[i]? = some p) : delK (l.take (i + 1)) x = if p.1 = x then delK (l.take i) x else delK (l.take i) x ++ [p] := by
  rw [take_snoc h]
  unfold delK
  rw [List.filter_append]
  by_cases e : p.1 = x <;> simp [e]
theorem del_len {κ ν : Type} [DecidableEq κ] (l : List (κ × ν)) (x : κ) : (delK l x).length ≤ l.length := List.length_filter_le _ _
set_option maxHeartbeats 2000000 in
theorem docDrop_any (A : Option Addr) (n c : Nat) (last : Int) (l : List (Key × Int)) (k : Key) (w0 : World) (hr : RW ROne w0 (.slice A n c) l) (hn : l.length = n) (h100 : n ≤ 1000) :
    Calls Try.prog 60 #[.agg (RV A n c last), .agg (keyC k)] w0 fun e w' => ∃ A' m c', e = .returned (.agg (RV A' m c' last)) ∧ m = (delK l k).length ∧ OW ROne w0.heap.size w' (.slice A' m c') (delK l k) ∧ Below w0.heap.size w0 w' := by
  have HP := Lib.hid (one_at hr hn)
  have hmax := rw_max hr
  have HN := Lib.hid hn
  have HC1 := Lib.hid (cells_key (keyC k) (keyC_size k) (keyC_one k))
  have HC2 := Lib.hid (cellsRV A n c last)
  have CV1 : Hid ((RV A n c last)[0]? = some (.slice A n c)) := Lib.hid rfl
  have AL1 := Lib.hid zeroRV
  clear hr hn
  have HM := Lib.hid (Mem.start w0)
  have HB := HM.out.below
  go_enter Try.func60, Try.ntmps60
  go_wp2_with (first | (refine m_wr ?_ HM (Wr.box rfl rfl HC2.out) (wanted_none rfl); clear HM HB; intro w br HM HB) | (refine m_wr ?_ HM (Wr.box rfl rfl HC1.out) (wanted_none rfl); clear HM HB; intro w bk HM HB) | (refine m_wr ?_ HM (Wr.alloc rfl AL1.out.1 AL1.out.2) (wanted_none rfl); clear HM HB; intro w b4 HM HB) | refine m_rd ?_ | (refine m_wr ?_; clear HM HB; intro w b HM HB; try clear b) | fail)
  go_loopw [5, 6] (fun v5 v6 wr => ∃ i A' m c', i ≤ n ∧ m ≤ i ∧ Hid ((delK (l.take i) k).length = m) ∧ v5 = .slice A' m c' ∧ v6 = .int .i64 (i : Nat) ∧ HMem w0 wr [rowE ROne (.slice A' m c') (delK (l.take i) k), Ent.blk bk (keyC k) 29, Ent.blk br (RV A n c last) 65, Ent.blk b4 ZRV 65]) (fun _ v6 _ => n - (intOf v6).toNat)
  case atStart => exact ⟨0, none, 0, 0, Nat.zero_le _, Nat.le_refl _, Lib.hid rfl, rfl, rfl, Lib.hid ((HM.out.nilR ROne).perm (es' := [rowE ROne (.slice none 0 0) [], Ent.blk bk (keyC k) 29, Ent.blk br (RV A n c last) 65, Ent.blk b4 ZRV 65]) (by ((repeat (first | exact List.Perm.refl _ | (refine List.Perm.trans (Del.perm (by (first | ((repeat (first | with_reducible exact Del.head _ | with_reducible apply Del.tail)); done) | ((repeat (first | exact Del.head _ | apply Del.tail)); done)))) (List.Perm.cons _ ?_)))); done)))⟩
  case round =>
    clear HM HB
    obtain ⟨i, A', m, c', hi, hmi, HLM, rfl, rfl, HM⟩ := hrel
    have HB := HM.out.below
    by_cases hlt : i < n
    · obtain ⟨p, ad, hp, rfl, hrng⟩ := HP.out i hlt
      have HRK : Hid (∀ W, Below w0.heap.size w0 W → RangeA W (ad.add (i * 33)) (keyC p.1)) := Lib.hid (fun W hW => one_key (hrng W hW))
      have HRO : Hid (∀ W, Below w0.heap.size w0 W → RangeA W (ad.add (i * 33)) (oneC p)) := Lib.hid hrng
      have LT1 := Lib.hid (litOne p)
      have HDS := Lib.hid (del_snoc (x := k) hp)
      obtain ⟨xs, hxs⟩ : ∃ xs, delK (l.take i) k = xs := ⟨_, rfl⟩
      rw [hxs] at HM HLM HDS
      have HN1 : Hid (xs.length + [p].length = m + 1) := Lib.hid (by rw [HLM.out]; rfl)
      have HL1 : Hid ((m + 1) * ROne.bytes ≤ 140737488355328) := Lib.hid (by show (m + 1) * 40 ≤ _; omega)
      clear hp hrng HP hxs
      by_cases hk : p.1 = k
      · have HE : Hid (EqlOf 29 (keyC p.1) (keyC k) true) := Lib.hid (by have := eq_key p.1 k; rwa [decide_eq_true hk] at this)
        have HD2 : Hid (delK (l.take (i + 1)) k = xs) := Lib.hid (by rw [HDS.out, if_pos hk])
        clear hk HDS
        go_wp2_with (first | refine m_rd ?_ | (refine m_wr ?_; clear HM HB; intro w b HM HB; try clear b) | fail)
        try simp only [Act.put, List.setIfInBounds_toArray, List.set_cons_zero, List.set_cons_succ]
        refine wp_region_held_drew (S := fun w' => Mem w0 w' (rowE ROne (.slice A' m c') xs :: Ent.blk bk (keyC k) 29 :: Ent.blk br (RV (some ad) n c last) 65 :: [])) (by kernel_rfl) (HM.out.drew.three) (fun hS => ?_)
        replace HM := Lib.hid HM.out.drew
        replace HB := HM.out.below
        refine tk 0 14 ?_
        refine tkv 1 15 (.slice (some ad) n c) rfl (yields_cell rfl (by kernel_rfl) rfl (fun _ h => h) (by (first | ((repeat (first | with_reducible exact List.Mem.head _ | with_reducible apply List.Mem.tail)); done) | ((repeat (first | exact List.Mem.head _ | apply List.Mem.tail)); done))) rfl (by kernel_rfl)) ?_
        refine tk 2 16 ?_
        refine tk 3 17 ?_
        refine tk 4 18 ?_
        refine tkv 5 19 (.agg (keyC p.1)) rfl (yields_elem rfl (by kernel_rfl) rfl (fun w hw => HRK.out w hw.below) (by rw [keyC_size]; exact info_key) (by kernel_rfl)) ?_
        refine tkv 6 20 (.agg (keyC k)) rfl (yields_own rfl rfl (fun _ h => h) (by (first | ((repeat (first | with_reducible exact List.Mem.head _ | with_reducible apply List.Mem.tail)); done) | ((repeat (first | exact List.Mem.head _ | apply List.Mem.tail)); done))) Try.underlying29 rfl HC1.out.1 (by kernel_rfl)) ?_
        refine tkv 7 21 (.bool (!true)) rfl (yields_neq rfl rfl rfl (by kernel_rfl) HE.out (by kernel_rfl)) ?_
        refine wpAnyH_done (by kernel_rfl) ?_ _
        clear hS
        rw [Bool.not_true]
        go_wp2_with fail
        go_roundw
        case rel => exact ⟨i + 1, A', m, c', by omega, by omega, by rw [HD2.out]; exact HLM, rfl, by go_num, by rw [HD2.out]; exact HM⟩
        case measure => (simp [intOf]) <;> omega
      · have HE : Hid (EqlOf 29 (keyC p.1) (keyC k) false) := Lib.hid (by have := eq_key p.1 k; rwa [decide_eq_false hk] at this)
        have HD2 : Hid (delK (l.take (i + 1)) k = xs ++ [p]) := Lib.hid (by rw [HDS.out, if_neg hk])
        clear hk HDS
        go_wp2_with (first | refine m_rd ?_ | (refine m_wr ?_; clear HM HB; intro w b HM HB; try clear b) | fail)
        try simp only [Act.put, List.setIfInBounds_toArray, List.set_cons_zero, List.set_cons_succ]
        refine wp_region_held_drew (S := fun w' => Mem w0 w' (rowE ROne (.slice A' m c') xs :: Ent.blk bk (keyC k) 29 :: Ent.blk br (RV (some ad) n c last) 65 :: [])) (by kernel_rfl) (HM.out.drew.three) (fun hS => ?_)
        replace HM := Lib.hid HM.out.drew
        replace HB := HM.out.below
        refine tk 0 14 ?_
        refine tkv 1 15 (.slice (some ad) n c) rfl (yields_cell rfl (by kernel_rfl) rfl (fun _ h => h) (by (first | ((repeat (first | with_reducible exact List.Mem.head _ | with_reducible apply List.Mem.tail)); done) | ((repeat (first | exact List.Mem.head _ | apply List.Mem.tail)); done))) rfl (by kernel_rfl)) ?_
        refine tk 2 16 ?_
        refine tk 3 17 ?_
        refine tk 4 18 ?_
        refine tkv 5 19 (.agg (keyC p.1)) rfl (yields_elem rfl (by kernel_rfl) rfl (fun w hw => HRK.out w hw.below) (by rw [keyC_size]; exact info_key) (by kernel_rfl)) ?_
        refine tkv 6 20 (.agg (keyC k)) rfl (yields_own rfl rfl (fun _ h => h) (by (first | ((repeat (first | with_reducible exact List.Mem.head _ | with_reducible apply List.Mem.tail)); done) | ((repeat (first | exact List.Mem.head _ | apply List.Mem.tail)); done))) Try.underlying29 rfl HC1.out.1 (by kernel_rfl)) ?_
        refine tkv 7 21 (.bool (!false)) rfl (yields_neq rfl rfl rfl (by kernel_rfl) HE.out (by kernel_rfl)) ?_
        refine wpAnyH_done (by kernel_rfl) ?_ _
        clear hS
        rw [Bool.not_false]
        go_wp2_with (first | (refine m_rd ?_ HM (Rd.elem rfl (by kernel_rfl) rfl (fun w hm => HRO.out w hm.below) (by rw [oneC_size]; exact info_one)) (wanted_none rfl)) | ((with_reducible apply m_wrh); (next => exact HM); (next => exact wanted_none rfl); ((with_reducible apply Wr.litR LOne); (next => exact rfl); (next => first | with_reducible exact LT1.out | with_reducible exact LT2.out | with_reducible exact LT3.out | exact LT1.out | exact LT2.out | exact LT3.out); (next => first | (go_simp; done) | exact rfl)); clear HM HB; intro w b HM HB; try clear b) | ((with_reducible apply m_wxh); (next => exact HM); (next => exact wanted_none rfl); ((with_reducible apply Wx.app LOne); (next => exact rfl); (next => first | (go_simp; with_reducible rfl) | exact rfl); (next => first | (go_simp; with_reducible rfl) | exact rfl); (next => (first | ((repeat (first | with_reducible exact Del.head _ | with_reducible apply Del.tail)); done) | ((repeat (first | exact Del.head _ | apply Del.tail)); done))); (next => intro w hm; first | with_reducible exact HR1.out.below hm.below | with_reducible exact HR2.out.below hm.below | exact hm.rw_ LOne (by (first | ((repeat (first | with_reducible exact List.Mem.head _ | with_reducible apply List.Mem.tail)); done) | ((repeat (first | exact List.Mem.head _ | apply List.Mem.tail)); done)))); (next => first | exact HN1.out | exact HN2.out | exact HN3.out | exact HN4.out); (next => first | exact HL1.out | exact HL2.out)); clear HM HB; rintro w ⟨Aq, cq⟩ HM HB) | refine m_rd ?_ | (refine m_wr ?_; clear HM HB; intro w b HM HB; try clear b) | fail)
        go_roundw
        case rel => exact ⟨i + 1, Aq, m + 1, cq, by omega, by omega, Lib.hid (by rw [HD2.out, List.length_append]; exact HN1.out), rfl, by go_num, by rw [HD2.out]; exact Lib.hid (HM.out.sub (by repeat (first | exact List.Sublist.refl _ | apply List.Sublist.cons_cons | apply List.Sublist.cons)))⟩
        case measure => (simp [intOf]) <;> omega
    · obtain rfl : i = n := by omega
      have HT : Hid (l.take i = l) := Lib.hid (List.take_of_length_le (by have := HN.out; omega))
      have PU1 : Hid ((RV A i c last).setIfInBounds 0 (.slice A' m c') = RV A' m c' last) := Lib.hid rfl
      have HC3 := Lib.hid (cellsRV A' m c' last)
      rw [HT.out] at HM HLM
      go_wp2_with (first | refine m_rd ?_ | (refine m_wr ?_; clear HM HB; intro w b HM HB; try clear b) | fail)
      apply m_ret_c
      next => exact rfl
      next => exact rfl
      next => exact rfl
      next => exact HM
      next => (first | ((repeat (first | with_reducible exact List.Mem.head _ | with_reducible apply List.Mem.tail)); done) | ((repeat (first | exact List.Mem.head _ | apply List.Mem.tail)); done))
      next => exact Try.underlying65
      next => rfl
      exact ⟨A', m, c', rfl, HLM.out.symm, HM.out.ow (R := ROne) (by (first | ((repeat (first | with_reducible exact List.Mem.head _ | with_reducible apply List.Mem.tail)); done) | ((repeat (first | exact List.Mem.head _ | apply List.Mem.tail)); done))), HB⟩
end Go.Proofs.Ytapncdgeigbgmaa.Tb
