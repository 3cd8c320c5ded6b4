/- Roster: slices.SortedFunc over a map's keys; Keys. -/
import Derived.Test.YtapncdgeigbgmaaUd
import Derived.Shelf.SlSortCmp.NoneTotal
set_option linter.unusedSimpArgs false
set_option linter.unusedVariables false
set_option linter.unusedSectionVars false
set_option maxRecDepth 100000
namespace Go.Proofs.Ytapncdgeigbgmaa.Tb
open Go.RowKit Go.Proofs.YtapncdgeigbgmaaW.PrintWords Go.Proofs.Ytapncdgeigbgmaa.Bs Go.Proofs.Ytapncdgeigbgmaa.Gm Go.Proofs.Ytapncdgeigbgmaa.Sf

theorem eq_of_perm_lt {α : Type} {f : α → Int} : ∀ {a b : List α}, a.Perm b → a.Pairwise (fun x y => f x < f y) → b.Pairwise (fun x y => f x < f y) → a = b
  | [], b, hp, _, _ => hp.nil_eq
  | x :: r, [], hp, _, _ => absurd hp.symm.nil_eq (by simp)
  | x :: r, y :: s, hp, h1, h2 => by
    obtain ⟨a1, a2⟩ := List.pairwise_cons.1 h1
    obtain ⟨b1, b2⟩ := List.pairwise_cons.1 h2
    by_cases e : x = y
    · subst e
      rw [eq_of_perm_lt ((List.perm_cons x).1 hp) a2 b2]
    · have m1 : x ∈ s := (List.mem_cons.1 (hp.mem_iff.1 (List.mem_cons_self ..))).resolve_left e
      have m2 : y ∈ r := (List.mem_cons.1 (hp.mem_iff.2 (List.mem_cons_self ..))).resolve_left (fun h => e h.symm)
      have := a1 y m2
      have := b1 x m1
      omega
theorem lt_cmp {α : Type} (f : α → Int) (x y : α) : ltOf (fun x y => cmpI (f x) (f y)) x y = decide (f x < f y) := by
  unfold ltOf cmpI
  by_cases h : f x < f y
  · simp [h]
  · by_cases h2 : f y < f x <;> simp [h, h2]
theorem swo_cmp {α : Type} (f : α → Int) : Sort.SWO (ltOf (fun x y : α => cmpI (f x) (f y))) :=
  ⟨fun x => by rw [lt_cmp]; simp, fun x y z h1 h2 => by
    rw [lt_cmp, decide_eq_true_eq] at h1 h2 ⊢
    omega, fun x y z h1 h2 => by
    rw [lt_cmp, decide_eq_false_iff_not] at h1 h2 ⊢
    omega⟩
/-- The numbers rise. -/
def Rising (l : List (Key × Int)) : Prop := (l.map (·.2)).Pairwise (· < ·)
theorem sorted_unique {l : List (Key × Int)} (hn : (l.map (·.1)).Nodup) (hr : Rising l) {d : Array Key} (hp : d.toList.Perm (l.map (·.1))) (hs : Sort.SortedIn (ltOf fun x y => cmpI (idOf l x) (idOf l y)) 0 d.size d) : d.toList = l.map (·.1) := by
  have hid : ∀ p ∈ l, idOf l p.1 = p.2 := fun p hp => by
    unfold idOf
    rw [getK_of hn hp]
    rfl
  have h1 : (l.map (·.1)).Pairwise (fun x y => idOf l x < idOf l y) := by
    unfold Rising at hr
    rw [List.pairwise_map] at hr ⊢
    exact hr.imp_of_mem (fun {a b} ha hb h => by rw [hid a ha, hid b hb]; exact h)
  have hinj : ∀ x ∈ l.map (·.1), ∀ y ∈ l.map (·.1), idOf l x = idOf l y → x = y := fun x hx y hy e => by
    obtain ⟨i, hi, rfl⟩ := List.getElem_of_mem hx
    obtain ⟨j, hj, rfl⟩ := List.getElem_of_mem hy
    rcases Nat.lt_trichotomy i j with h | h | h
    · have := List.pairwise_iff_getElem.1 h1 i j hi hj h
      omega
    · subst h; rfl
    · have := List.pairwise_iff_getElem.1 h1 j i hj hi h
      omega
  refine eq_of_perm_lt hp ?_ h1
  have hnd : d.toList.Nodup := hp.nodup_iff.2 hn
  rw [List.pairwise_iff_getElem]
  intro i j hi hj hij
  have hj' : j < d.size := by simpa using hj
  have hi' : i < d.size := by simpa using hi
  have h2 := hs i j (Nat.zero_le _) hij hj'
  rw [lt_cmp, decide_eq_false_iff_not, getElem!_pos d j hj', getElem!_pos d i hi'] at h2
  have hne : idOf l d[i] ≠ idOf l d[j] := fun e => by
    have hi2 : d[i] ∈ l.map (·.1) := hp.mem_iff.1 (by simp)
    have hj2 : d[j] ∈ l.map (·.1) := hp.mem_iff.1 (by simp)
    have := hinj _ hi2 _ hj2 e
    have h3 := List.pairwise_iff_getElem.1 hnd i j hi hj hij
    exact h3 (by simpa using this)
  simp only [Array.getElem_toList]
  omega
def rosB (br bm : Nat) (last : Int) : Ent := .blk br #[.map (some bm), .int .i64 last] 82
set_option maxHeartbeats 2000000 in
theorem sorted_any {w0 w : World} {es : List Ent} {bq bx br bm : Nat} {last : Int} {l : List (Key × Int)} (HM : HMem w0 w (Ent.blk bq #[.map (some bm)] 80 :: Ent.blk bx #[.pointer (some ⟨br, 0, none⟩)] 61 :: rosB br bm last :: mapE MI bm l :: es)) (hl : l.length ≤ 1000) (hr : Rising l) :
    Calls Try.prog 64 #[.func (.func 86) #[] #[.pointer (some ⟨bq, 0, none⟩)], .func (.func 66) #[] #[.pointer (some ⟨bx, 0, none⟩)]] w fun e w' => ∃ A c, e = .returned (.slice A l.length c) ∧ HMem w0 w' (rowE RKey (.slice A l.length c) (l.map (·.1)) :: Ent.blk bq #[.map (some bm)] 80 :: Ent.blk bx #[.pointer (some ⟨br, 0, none⟩)] 61 :: rosB br bm last :: mapE MI bm l :: es) := by
  have hmap := HM.out.mapAt (M := MI) (b := bm) (l := l) (by (first | ((repeat (first | with_reducible exact List.Mem.head _ | with_reducible apply List.Mem.tail)); done) | ((repeat (first | exact List.Mem.head _ | apply List.Mem.tail)); done)))
  have hnd := hmap.nodup
  have hcol := collect_key (enters_of Try.func86 (by kernel_rfl) rfl) (N := l.length) (by omega) w (fun n hn => keys_stops ((blk_cell (HM.out.get (b := bq) (cs := #[.map (some bm)]) (by (first | ((repeat (first | with_reducible exact List.Mem.head _ | with_reducible apply List.Mem.tail)); done) | ((repeat (first | exact List.Mem.head _ | apply List.Mem.tail)); done)))) 0).trans rfl) hmap n hn)
  have HCOL := Lib.hid hcol
  have HR : Hid (Rising l) := Lib.hid hr
  have HN := Lib.hid hnd
  have HLEN := Lib.hid hl
  clear hcol hmap hr hnd hl
  go_enter Try.func64, Try.ntmps64
  go_wp2_with fail
  refine HCOL.out.mono ?_
  rintro e w1 ⟨A, c, ss, rfl, hS, ho, hb⟩
  have HM1 := HM.out.newRow hb ho
  have hlen : ss.length = l.length := by have := hS.length_eq; simpa using this
  rcases ho.2 with ⟨hv, h0⟩ | ⟨g, cap, cur, hv, hbase, hg, hnc, hcm, hcs, htk⟩
  · have hss : ss = [] := List.eq_nil_of_length_eq_zero h0
    have hll : l = [] := List.eq_nil_of_length_eq_zero (by omega)
    subst hss hll
    injection hv with e1 e2 e3
    subst e1 e3
    have hcon := fun fv => AnyF.slices_SortFunc_none laySort none 0 fv w1
    change ∀ fv, Calls Try.prog 85 _ _ _ at hcon
    have HC2 := Lib.hid hcon
    have HM2 := Lib.hid HM1
    clear hcon ho hb HM1 HCOL
    go_wp2_with fail
    refine (HC2.out _).mono ?_
    rintro e w2 ⟨rfl, rfl⟩
    go_wp2_with fail
    go_ret
    exact ⟨_, _, rfl, HM2⟩
  · injection hv with e1 e2 e3
    subst e1 e3
    have hH := holds_row (n := 0) LKey hg hcs hnc htk
    have hgl : g < w1.heap.size := (Array.getElem?_eq_some_iff.1 hg).1
    have hcmp : CmpLays Try.prog 66 #[.pointer (some ⟨bx, 0, none⟩)] (encL RKey) RKey.k (fun x y => cmpI (idOf l x) (idOf l y)) g 0 ss.toArray.size w1 := fun m os dk hs x y => by
      have HMS := HM1.sorted LKey dk (by simpa using hs) m os
      have := closure_any (l := l) ((blk_cell (HMS.get (b := bx) (cs := #[.pointer (some ⟨br, 0, none⟩)]) (by (first | ((repeat (first | with_reducible exact List.Mem.head _ | with_reducible apply List.Mem.tail)); done) | ((repeat (first | exact List.Mem.head _ | apply List.Mem.tail)); done)))) 0).trans rfl) ((blk_cell (HMS.get (b := br) (cs := #[.map (some bm), .int .i64 last]) (by (first | ((repeat (first | with_reducible exact List.Mem.head _ | with_reducible apply List.Mem.tail)); done) | ((repeat (first | exact List.Mem.head _ | apply List.Mem.tail)); done)))) 0).trans rfl) (HMS.mapAt (M := MI) (b := bm) (l := l) (by (first | ((repeat (first | with_reducible exact List.Mem.head _ | with_reducible apply List.Mem.tail)); done) | ((repeat (first | exact List.Mem.head _ | apply List.Mem.tail)); done)))) x y
      simpa [encL, RKey] using this
    have hcon := AnyQ.slices_SortFunc laySort RKey.k (fun w => Try.isAgg29 w) (fun w => Try.sizeOf29 w) (encL RKey) (fun x => by simp [encL, RKey, keyC_size]) (fun x v hv => by
      have := keyC_one x
      rw [Array.all_eq_true_iff_forall_mem] at this
      exact this v (by simpa [encL, RKey] using hv)) (fun x y => cmpI (idOf l x) (idOf l y)) (swo_cmp (idOf l)) 66 #[.pointer (some ⟨bx, 0, none⟩)] g 0 c ss.toArray w1 (enters_of Try.func66 (by kernel_rfl) rfl) hcmp hH hgl (by have := HLEN.out; simp; omega)
    simp only [List.size_toArray] at hcon
    change Calls Try.prog 85 _ _ _ at hcon
    have HC2 := Lib.hid hcon
    have HM2 := Lib.hid HM1
    have HS : Hid (ss.Perm (l.map (·.1))) := Lib.hid hS
    have HL2 := Lib.hid hlen
    clear hcon hcmp hH hgl ho hb HM1 HCOL hg hcs hnc htk hbase hcm hS hlen
    go_wp2_with fail
    refine HC2.out.mono ?_
    rintro e w2 ⟨rfl, d', m, os, hpm, hso, rfl⟩
    have hd : d'.size = ss.length := by simpa using hpm.1
    have hperm : d'.toList.Perm ss := by
      have := hpm.2.2
      simp only [List.extract_toArray, Array.toList_extract, List.extract_eq_take_drop, List.drop_zero, Nat.sub_zero, List.take_length] at this
      rwa [List.take_of_length_le (by simp [hd])] at this
    have huni := sorted_unique HN.out HR.out (hperm.trans HS.out) (by rw [hd]; exact hso)
    have HM3 := HM2.out.sorted LKey d' hd m os
    rw [huni, HL2.out] at HM3
    have HM4 := Lib.hid HM3
    clear hpm hso hperm huni HM3 HC2
    rw [HL2.out]
    go_wp2_with fail
    go_ret
    exact ⟨_, _, rfl, HM4⟩
end Go.Proofs.Ytapncdgeigbgmaa.Tb
