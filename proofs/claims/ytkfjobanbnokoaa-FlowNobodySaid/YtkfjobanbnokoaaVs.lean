/- Package flow: slices.SortedFunc over a table's tallies; All. -/
import Derived.Test.YtkfjobanbnokoaaVr
import Derived.Shelf.SlSortCmp.NoneTotal
set_option linter.unusedSimpArgs false
set_option linter.unusedVariables false
set_option linter.unusedSectionVars false
set_option maxRecDepth 100000
namespace Go.Proofs.Ytkfjobanbnokoaa.Fw
open Go.RowKit Go.Proofs.YtkfjobanbnokoaaW.PrintWords Go.Proofs.Ytkfjobanbnokoaa.Bs Go.Proofs.Ytkfjobanbnokoaa.Gm
open Go.Shelf

def laySort_ren : Go.Shelf.Ren := ⟨fun | 6 => 55 | 15 => 76 | 14 => 75 | 28 => 90 | 29 => 91 | 20 => 77 | 21 => 83 | 22 => 84 | 23 => 85 | 24 => 86 | 25 => 87 | 26 => 88 | 27 => 89 | 46 => 94 | 47 => 95 | 48 => 96 | 49 => 97 | 50 => 98 | 57 => 100 | n => n, fun | 22 => 50 | 24 => 57 | 25 => 82 | 3 => 3 | 39 => 70 | 0 => 0 | 53 => 128 | 55 => 105 | 4 => 4 | 46 => 121 | 45 => 120 | 50 => 125 | 5 => 5 | 9 => 9 | 66 => 130 | 70 => 134 | 76 => 136 | 77 => 137 | n => n, fun | n => n⟩
theorem laySort : Go.Proofs.SlLaysF0.n6 Try.prog laySort_ren := {
  mixed := by kernel_rfl
  f6 := ⟨Try.f55.name, by decide, Try.func55.trans (congrArg some (by kernel_rfl))⟩
  f14 := ⟨Try.f75.name, by decide, Try.func75.trans (congrArg some (by kernel_rfl))⟩
  f15 := Try.func76.trans (congrArg some (by kernel_rfl))
  f20 := ⟨Try.f77.name, by decide, Try.func77.trans (congrArg some (by kernel_rfl))⟩
  f21 := ⟨Try.f83.name, by decide, Try.func83.trans (congrArg some (by kernel_rfl))⟩
  f22 := ⟨Try.f84.name, by decide, Try.func84.trans (congrArg some (by kernel_rfl))⟩
  f23 := ⟨Try.f85.name, by decide, Try.func85.trans (congrArg some (by kernel_rfl))⟩
  f24 := ⟨Try.f86.name, by decide, Try.func86.trans (congrArg some (by kernel_rfl))⟩
  f25 := ⟨Try.f87.name, by decide, Try.func87.trans (congrArg some (by kernel_rfl))⟩
  f26 := ⟨Try.f88.name, by decide, Try.func88.trans (congrArg some (by kernel_rfl))⟩
  f27 := ⟨Try.f89.name, by decide, Try.func89.trans (congrArg some (by kernel_rfl))⟩
  f28 := Try.func90.trans (congrArg some (by kernel_rfl))
  f29 := Try.func91.trans (congrArg some (by kernel_rfl))
  f46 := ⟨Try.f94.name, by decide, Try.func94.trans (congrArg some (by kernel_rfl))⟩
  f47 := Try.func95.trans (congrArg some (by kernel_rfl))
  f48 := Try.func96.trans (congrArg some (by kernel_rfl))
  f49 := ⟨Try.f97.name, by decide, Try.func97.trans (congrArg some (by kernel_rfl))⟩
  f50 := ⟨Try.f98.name, by decide, Try.func98.trans (congrArg some (by kernel_rfl))⟩
  f57 := ⟨Try.f100.name, by decide, Try.func100.trans (congrArg some (by kernel_rfl))⟩
  t0 := Try.underlying0
  a0 := Try.isAgg0
  z0 := Try.sizeOf0
  v0 := Try.zeroValue0
  t3 := Try.underlying3
  a3 := Try.isAgg3
  z3 := Try.sizeOf3
  v3 := Try.zeroValue3
  t4 := Try.underlying4
  a4 := Try.isAgg4
  z4 := Try.sizeOf4
  v4 := Try.zeroValue4
  t5 := Try.underlying5
  a5 := Try.isAgg5
  z5 := Try.sizeOf5
  v5 := Try.zeroValue5
  t9 := Try.underlying9
  a9 := Try.isAgg9
  z9 := Try.sizeOf9
  v9 := Try.zeroValue9
  t22 := Try.underlying50
  a22 := Try.isAgg50
  z22 := Try.sizeOf50
  v22 := Try.zeroValue50
  t25 := Try.underlying82
  a25 := Try.isAgg82
  z25 := Try.sizeOf82
  v25 := Try.zeroValue82
  t39 := Try.underlying70
  a39 := Try.isAgg70
  z39 := Try.sizeOf70
  v39 := Try.zeroValue70
  t45 := Try.underlying120
  a45 := Try.isAgg120
  z45 := Try.sizeOf120
  v45 := Try.zeroValue120
  t46 := Try.underlying121
  a46 := Try.isAgg121
  z46 := Try.sizeOf121
  v46 := Try.zeroValue121
  t50 := Try.underlying125
  a50 := Try.isAgg125
  z50 := Try.sizeOf125
  v50 := Try.zeroValue125
  t53 := Try.underlying128
  a53 := Try.isAgg128
  z53 := Try.sizeOf128
  v53 := Try.zeroValue128
  t55 := Try.underlying105
  a55 := Try.isAgg105
  z55 := Try.sizeOf105
  v55 := Try.zeroValue105
  t66 := Try.underlying130
  a66 := Try.isAgg130
  z66 := Try.sizeOf130
  v66 := Try.zeroValue130
  t70 := Try.underlying134
  a70 := Try.isAgg134
  z70 := Try.sizeOf134
  v70 := Try.zeroValue134
  t76 := Try.underlying136
  a76 := Try.isAgg136
  z76 := Try.sizeOf136
  v76 := Try.zeroValue136
  t77 := Try.underlying137
  a77 := Try.isAgg137
  z77 := Try.sizeOf137
  v77 := Try.zeroValue137 }

instance : Inhabited Tal := ⟨zT⟩
def cmpT (x y : Tal) : Int := orderZ x.k y.k
theorem lt_cmpT (x y : Tal) : ltOf cmpT x y = lessF x.k y.k := rfl
theorem lessF_asym {f g : Flow} (h : lessF f g = true) : lessF g f = false := by
  unfold lessF at h ⊢
  rw [decide_eq_true_eq] at h
  rw [orderZ_swap f g, decide_eq_false_iff_not]
  omega
theorem lessF_total {f g : Flow} (h : lessF f g = false) (hne : f ≠ g) : lessF g f = true := by
  unfold lessF at h ⊢
  rw [decide_eq_false_iff_not] at h
  have h0 : orderZ f g ≠ 0 := fun e => hne ((orderZ_zero f g).1 e)
  rw [orderZ_swap f g, decide_eq_true_eq]
  omega
theorem swo_cmpT : Sort.SWO (ltOf cmpT) :=
  ⟨fun x => by rw [lt_cmpT]; simp [lessF_self], fun x y z h1 h2 => by
    rw [lt_cmpT] at h1 h2 ⊢
    exact lessF_trans h1 h2, fun x y z h1 h2 => by
    rw [lt_cmpT] at h1 h2 ⊢
    by_cases e1 : x.k = y.k
    · rw [e1]; exact h2
    by_cases e2 : y.k = z.k
    · rw [← e2]; exact h1
    exact lessF_asym (lessF_trans (lessF_total h2 e2) (lessF_total h1 e1))⟩
/-- The talks rise. -/
def IncT (l : List Tal) : Prop := l.Pairwise (fun x y => lessF x.k y.k = true)
theorem incT_of_sorted {d : Array Tal} (hn : (d.toList.map (·.k)).Nodup) (hs : Sort.SortedIn (ltOf cmpT) 0 d.size d) : IncT d.toList := by
  unfold IncT
  rw [List.pairwise_iff_getElem]
  intro i j hi hj hij
  have hj' : j < d.size := by simpa using hj
  have hi' : i < d.size := by simpa using hi
  have h2 := hs i j (Nat.zero_le _) hij hj'
  rw [lt_cmpT, getElem!_pos d j hj', getElem!_pos d i hi'] at h2
  simp only [Array.getElem_toList]
  refine lessF_total h2 fun e => ?_
  have h3 := List.pairwise_iff_getElem.1 hn i j (by simpa using hi) (by simpa using hj) hij
  exact h3 (by simpa using e.symm)
theorem keys_vals {l : List (Flow × Tal)} (hk : ∀ p ∈ l, p.2.k = p.1) : (l.map (·.2)).map (·.k) = l.map (·.1) := by
  rw [List.map_map]
  exact List.map_congr_left fun p hp => hk p hp
set_option maxHeartbeats 2000000 in
theorem sorted_any {w0 w : World} {es : List Ent} {bq bm : Nat} {l : List (Flow × Tal)} (HM : HMem w0 w (Ent.blk bq #[.map (some bm)] 75 :: mapE MT bm l :: es)) (hl : l.length ≤ 1000) (hk : ∀ p ∈ l, p.2.k = p.1) :
    Calls Try.prog 37 #[.func (.func 56) #[] #[.pointer (some ⟨bq, 0, none⟩)], .func (.func 39) #[] #[]] w fun e w' => ∃ A c ts, e = .returned (.slice A ts.length c) ∧ (ts.Perm (l.map (·.2)) ∧ IncT ts) ∧ HMem w0 w' (rowE RTal (.slice A ts.length c) ts :: Ent.blk bq #[.map (some bm)] 75 :: mapE MT bm l :: es) := by
  have hmap := HM.out.mapAt (M := MT) (b := bm) (l := l) (by (first | ((repeat (first | with_reducible exact List.Mem.head _ | with_reducible apply List.Mem.tail)); done) | ((repeat (first | exact List.Mem.head _ | apply List.Mem.tail)); done)))
  have hnd := hmap.nodup
  have hcol := collect_tal (enters_of Try.func56 (by kernel_rfl) rfl) (N := l.length) (by omega) w (fun n hn => values_stops ((blk_cell (HM.out.get (b := bq) (cs := #[.map (some bm)]) (by (first | ((repeat (first | with_reducible exact List.Mem.head _ | with_reducible apply List.Mem.tail)); done) | ((repeat (first | exact List.Mem.head _ | apply List.Mem.tail)); done)))) 0).trans rfl) hmap n hn)
  have HCOL := Lib.hid hcol
  have HN := Lib.hid hnd
  have HLEN := Lib.hid hl
  have HKV := Lib.hid (keys_vals hk)
  clear hcol hmap hnd hl hk
  go_enter Try.func37, Try.ntmps37
  go_wp2_with fail
  refine HCOL.out.mono ?_
  rintro e w1 ⟨A, c, ss, rfl, hS, ho, hb⟩
  have HM1 := HM.out.newRow hb ho
  have hlen : ss.length = l.length := by have := hS.length_eq; simpa using this
  rcases ho.2 with ⟨hv, h0⟩ | ⟨g, cap, cur, hv, hbase, hg, hnc, hcm, hcs, htk⟩
  · have hss : ss = [] := List.eq_nil_of_length_eq_zero h0
    have hll : l = [] := List.eq_nil_of_length_eq_zero (by omega)
    subst hss hll
    injection hv with e1 e2 e3
    subst e1 e3
    have hcon := fun fv => AnyF.slices_SortFunc_none laySort none 0 fv w1
    change ∀ fv, Calls Try.prog 55 _ _ _ at hcon
    have HC2 := Lib.hid hcon
    have HM2 := Lib.hid HM1
    clear hcon ho hb HM1 HCOL
    go_wp2_with fail
    refine (HC2.out _).mono ?_
    rintro e w2 ⟨rfl, rfl⟩
    go_wp2_with fail
    go_ret
    exact ⟨none, 0, [], rfl, ⟨List.Perm.refl _, List.Pairwise.nil⟩, HM2⟩
  · injection hv with e1 e2 e3
    subst e1 e3
    have hH := holds_row (n := 0) LTal hg hcs hnc htk
    have hgl : g < w1.heap.size := (Array.getElem?_eq_some_iff.1 hg).1
    have hcmp : CmpLays Try.prog 39 #[] (encL RTal) RTal.k cmpT g 0 ss.toArray.size w1 := fun m os dk hs x y => by
      have := closure_any x y (sortWorldK (encL RTal) RTal.k w1 g 0 m dk os)
      simpa [encL, RTal, cmpT, Gr] using this
    have hcon := AnyQ.slices_SortFunc laySort RTal.k (fun w => Try.isAgg57 w) (fun w => Try.sizeOf57 w) (encL RTal) (fun x => by simp [encL, RTal, tallyC_size]) (fun x v hv => by
      have := tallyC_one x
      rw [Array.all_eq_true_iff_forall_mem] at this
      exact this v (by simpa [encL, RTal] using hv)) cmpT swo_cmpT 39 #[] g 0 c ss.toArray w1 (enters_of Try.func39 (by kernel_rfl) rfl) hcmp hH hgl (by have := HLEN.out; simp; omega)
    simp only [List.size_toArray] at hcon
    change Calls Try.prog 55 _ _ _ at hcon
    have HC2 := Lib.hid hcon
    have HM2 := Lib.hid HM1
    have HS : Hid (ss.Perm (l.map (·.2))) := Lib.hid hS
    have HL2 := Lib.hid hlen
    clear hcon hcmp hH hgl ho hb HM1 HCOL hg hcs hnc htk hbase hcm hS hlen
    go_wp2_with fail
    refine HC2.out.mono ?_
    rintro e w2 ⟨rfl, d', m, os, hpm, hso, rfl⟩
    have hd : d'.size = ss.length := by simpa using hpm.1
    have hperm : d'.toList.Perm ss := by
      have := hpm.2.2
      simp only [List.extract_toArray, Array.toList_extract, List.extract_eq_take_drop, List.drop_zero, Nat.sub_zero, List.take_length] at this
      rwa [List.take_of_length_le (by simp [hd])] at this
    have hp2 := hperm.trans HS.out
    have hinc := incT_of_sorted (d := d') (by rw [(hp2.map (·.k)).nodup_iff, HKV.out]; exact HN.out) (by rw [hd]; exact hso)
    have HM3 := HM2.out.sorted LTal d' hd m os
    have hl3 : d'.toList.length = ss.length := by simpa using hd
    rw [← hl3] at HM3 ⊢
    have HM4 := Lib.hid HM3
    have HP2 := Lib.hid hp2
    have HI := Lib.hid hinc
    clear hpm hso hperm hp2 hinc HM3 HC2 hl3 hd HM2
    generalize d'.toList = ts at *
    go_wp2_with fail
    go_ret
    exact ⟨_, _, ts, rfl, ⟨HP2.out, HI.out⟩, HM4⟩
theorem all_any {w0 w : World} {es : List Ent} {bt bm : Nat} {room : Int} {l : List (Flow × Tal)} (HM : HMem w0 w (tblB bt room bm :: mapE MT bm l :: es)) (hl : l.length ≤ 1000) (hk : ∀ p ∈ l, p.2.k = p.1) :
    Calls Try.prog 22 #[.pointer (some ⟨bt, 0, none⟩)] w fun e w' => ∃ A c ts, e = .returned (.slice A ts.length c) ∧ (ts.Perm (l.map (·.2)) ∧ IncT ts) ∧ HMem w0 w' (rowE RTal (.slice A ts.length c) ts :: tblB bt room bm :: mapE MT bm l :: es) := by
  have HK := Lib.hid hk
  have HL := Lib.hid hl
  have HB := HM.out.below
  have hc := tbl_cell HM.out (by (first | ((repeat (first | with_reducible exact List.Mem.head _ | with_reducible apply List.Mem.tail)); done) | ((repeat (first | exact List.Mem.head _ | apply List.Mem.tail)); done)))
  clear hl hk
  go_enter Try.func22, Try.ntmps22
  go_wp2_with fail
  refine (values_any w bm).mono ?_
  rintro e w' ⟨rfl, rfl⟩
  clear hc
  replace HM := Lib.hid (HM.out.alloc #[.map (some bm)] 75 (by kernel_rfl))
  replace HB := HM.out.below
  generalize Array.size (World.heap w) = bq at HM ⊢
  generalize World.alloc w (.cells #[.map (some bm)] 75) = w at HM HB ⊢
  replace HM : HMem w0 w (Ent.blk bq #[.map (some bm)] 75 :: mapE MT bm l :: tblB bt room bm :: es) := Lib.hid (HM.out.perm (by ((repeat (first | exact List.Perm.refl _ | (refine List.Perm.trans (Del.perm (by (first | ((repeat (first | with_reducible exact Del.head _ | with_reducible apply Del.tail)); done) | ((repeat (first | exact Del.head _ | apply Del.tail)); done)))) (List.Perm.cons _ ?_)))); done)))
  go_wp2_with fail
  refine (sorted_any HM HL.out HK.out).mono ?_
  rintro e w ⟨A, c, ts, rfl, hts, HM'⟩
  have HM2 : Hid (Mem w0 w (rowE RTal (.slice A ts.length c) ts :: tblB bt room bm :: mapE MT bm l :: es)) := Lib.hid (HM'.out.perm (es' := Ent.blk bq #[.map (some bm)] 75 :: rowE RTal (.slice A ts.length c) ts :: tblB bt room bm :: mapE MT bm l :: es) (by ((repeat (first | exact List.Perm.refl _ | (refine List.Perm.trans (Del.perm (by (first | ((repeat (first | with_reducible exact Del.head _ | with_reducible apply Del.tail)); done) | ((repeat (first | exact Del.head _ | apply Del.tail)); done)))) (List.Perm.cons _ ?_)))); done))).tail
  have HT := Lib.hid hts
  clear HM' HM HB hts
  go_wp2_with fail
  go_ret
  exact ⟨A, c, ts, rfl, HT.out, HM2⟩
end Go.Proofs.Ytkfjobanbnokoaa.Fw
