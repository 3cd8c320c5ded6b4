/- Roster: its keys in the order of their numbers. -/
import Derived.Test.YtapncdgeigbgmaaUb
import Derived.Test.YtapncdgeigbgmaaUc
import Derived.Test.YtapncdgeigbgmaaTe
set_option linter.unusedSimpArgs false
set_option linter.unusedVariables false
set_option linter.unusedSectionVars false
set_option maxRecDepth 100000
namespace Go.Proofs.Ytapncdgeigbgmaa.Tb
open Go.RowKit Go.Proofs.YtapncdgeigbgmaaW.PrintWords Go.Proofs.Ytapncdgeigbgmaa.Bs Go.Proofs.Ytapncdgeigbgmaa.Gm Go.Proofs.Ytapncdgeigbgmaa.Sf
open Go.Shelf

def laySort_ren : Go.Shelf.Ren := ⟨fun | 6 => 85 | 15 => 94 | 14 => 93 | 28 => 105 | 29 => 106 | 20 => 97 | 21 => 98 | 22 => 99 | 23 => 100 | 24 => 101 | 25 => 102 | 26 => 103 | 27 => 104 | 46 => 116 | 47 => 117 | 48 => 118 | 49 => 119 | 50 => 120 | 57 => 125 | n => n, fun | 22 => 86 | 24 => 29 | 25 => 134 | 3 => 3 | 39 => 160 | 0 => 0 | 53 => 23 | 55 => 22 | 4 => 4 | 46 => 168 | 45 => 167 | 50 => 71 | 5 => 5 | 9 => 9 | 66 => 181 | 70 => 184 | 76 => 188 | 77 => 189 | n => n, fun | n => n⟩
theorem laySort : Go.Proofs.SlLaysF0.n6 Try.prog laySort_ren := {
  mixed := by kernel_rfl
  f6 := ⟨Try.f85.name, by decide, Try.func85.trans (congrArg some (by kernel_rfl))⟩
  f14 := ⟨Try.f93.name, by decide, Try.func93.trans (congrArg some (by kernel_rfl))⟩
  f15 := Try.func94.trans (congrArg some (by kernel_rfl))
  f20 := ⟨Try.f97.name, by decide, Try.func97.trans (congrArg some (by kernel_rfl))⟩
  f21 := ⟨Try.f98.name, by decide, Try.func98.trans (congrArg some (by kernel_rfl))⟩
  f22 := ⟨Try.f99.name, by decide, Try.func99.trans (congrArg some (by kernel_rfl))⟩
  f23 := ⟨Try.f100.name, by decide, Try.func100.trans (congrArg some (by kernel_rfl))⟩
  f24 := ⟨Try.f101.name, by decide, Try.func101.trans (congrArg some (by kernel_rfl))⟩
  f25 := ⟨Try.f102.name, by decide, Try.func102.trans (congrArg some (by kernel_rfl))⟩
  f26 := ⟨Try.f103.name, by decide, Try.func103.trans (congrArg some (by kernel_rfl))⟩
  f27 := ⟨Try.f104.name, by decide, Try.func104.trans (congrArg some (by kernel_rfl))⟩
  f28 := Try.func105.trans (congrArg some (by kernel_rfl))
  f29 := Try.func106.trans (congrArg some (by kernel_rfl))
  f46 := ⟨Try.f116.name, by decide, Try.func116.trans (congrArg some (by kernel_rfl))⟩
  f47 := Try.func117.trans (congrArg some (by kernel_rfl))
  f48 := Try.func118.trans (congrArg some (by kernel_rfl))
  f49 := ⟨Try.f119.name, by decide, Try.func119.trans (congrArg some (by kernel_rfl))⟩
  f50 := ⟨Try.f120.name, by decide, Try.func120.trans (congrArg some (by kernel_rfl))⟩
  f57 := ⟨Try.f125.name, by decide, Try.func125.trans (congrArg some (by kernel_rfl))⟩
  t0 := Try.underlying0
  a0 := Try.isAgg0
  z0 := Try.sizeOf0
  v0 := Try.zeroValue0
  t3 := Try.underlying3
  a3 := Try.isAgg3
  z3 := Try.sizeOf3
  v3 := Try.zeroValue3
  t4 := Try.underlying4
  a4 := Try.isAgg4
  z4 := Try.sizeOf4
  v4 := Try.zeroValue4
  t5 := Try.underlying5
  a5 := Try.isAgg5
  z5 := Try.sizeOf5
  v5 := Try.zeroValue5
  t9 := Try.underlying9
  a9 := Try.isAgg9
  z9 := Try.sizeOf9
  v9 := Try.zeroValue9
  t22 := Try.underlying86
  a22 := Try.isAgg86
  z22 := Try.sizeOf86
  v22 := Try.zeroValue86
  t25 := Try.underlying134
  a25 := Try.isAgg134
  z25 := Try.sizeOf134
  v25 := Try.zeroValue134
  t39 := Try.underlying160
  a39 := Try.isAgg160
  z39 := Try.sizeOf160
  v39 := Try.zeroValue160
  t45 := Try.underlying167
  a45 := Try.isAgg167
  z45 := Try.sizeOf167
  v45 := Try.zeroValue167
  t46 := Try.underlying168
  a46 := Try.isAgg168
  z46 := Try.sizeOf168
  v46 := Try.zeroValue168
  t50 := Try.underlying71
  a50 := Try.isAgg71
  z50 := Try.sizeOf71
  v50 := Try.zeroValue71
  t53 := Try.underlying23
  a53 := Try.isAgg23
  z53 := Try.sizeOf23
  v53 := Try.zeroValue23
  t55 := Try.underlying22
  a55 := Try.isAgg22
  z55 := Try.sizeOf22
  v55 := Try.zeroValue22
  t66 := Try.underlying181
  a66 := Try.isAgg181
  z66 := Try.sizeOf181
  v66 := Try.zeroValue181
  t70 := Try.underlying184
  a70 := Try.isAgg184
  z70 := Try.sizeOf184
  v70 := Try.zeroValue184
  t76 := Try.underlying188
  a76 := Try.isAgg188
  z76 := Try.sizeOf188
  v76 := Try.zeroValue188
  t77 := Try.underlying189
  a77 := Try.isAgg189
  z77 := Try.sizeOf189
  v77 := Try.zeroValue189 }

instance : Inhabited Key := ⟨⟨Array.replicate 32 0, by simp⟩⟩
def idOf (l : List (Key × Int)) (k : Key) : Int := (getK l k).getD 0
def cmpI (a b : Int) : Int := if a < b then -1 else if b < a then 1 else 0
theorem lookId (l : List (Key × Int)) (k : Key) : lookV MI false (getK l k) = .int .i64 (idOf l k) := by
  unfold idOf
  cases getK l k <;> rfl
theorem compare_any (a b : Int) (w : World) : Calls Try.prog 67 #[.int .i64 a, .int .i64 b] w fun e w' => e = .returned (.int .i64 (cmpI a b)) ∧ w = w' := by
  obtain ⟨r, hr⟩ : ∃ r, cmpI a b = r := ⟨_, rfl⟩
  rw [hr]
  by_cases h1 : a < b
  · obtain rfl : r = -1 := by rw [← hr]; unfold cmpI; rw [if_pos h1]
    clear hr
    go_enter Try.func67, Try.ntmps67
    go_wp2
    go_ret
    exact ⟨rfl, rfl⟩
  · by_cases h2 : b < a
    · obtain rfl : r = 1 := by rw [← hr]; unfold cmpI; rw [if_neg h1, if_pos h2]
      clear hr
      go_enter Try.func67, Try.ntmps67
      go_wp2
      go_ret
      exact ⟨rfl, rfl⟩
    · obtain rfl : r = 0 := by rw [← hr]; unfold cmpI; rw [if_neg h1, if_neg h2]
      clear hr
      go_enter Try.func67, Try.ntmps67
      go_wp2
      go_ret
      exact ⟨rfl, rfl⟩
theorem yields_w {ops : Array Oper} {op : Oper} {a : Act} {Wd : World} {t : TypeId} {x : Operand} (ho : op.op = .load t x) {ad : Addr} (hx : a.eval x = .pointer (some ad)) {v : Value} (hrun : (loadVar t ad).run Try.prog Wd = .ok v Wd) (hw : Region.wanted op (yielded ops a.tmps) = true) : YieldsIf Try.prog ops (fun w' => w' = Wd) op v a :=
  .inl ⟨hw, fun w' e => by
    subst e
    simp [execOp, ho, hx, Instr.loadAt, Instr.sureAddr, hrun, Result.andThen]⟩
theorem s_look {op : Oper} {a : Act} {K : Act → World → Prop} {Q : Exit → Act → World → Prop} {E : Prop} {Wd : World} {b : Nat} {l : List (Key × Int)} {x : Key} {tm tk : Operand} {ops : Array Oper} (k : K (a.put op.dst (.int .i64 (idOf l x))) Wd) (h : Gm.MapAt MI.k MI.ek MI.ev b l Wd) (ho : op.op = .lookup MI.t tm tk false) (hm : a.eval tm = .map (some b)) (hk : a.eval tk = .agg (keyC x)) (hw : Region.wanted op (yielded ops a.tmps) = true) :
    if Region.wanted op (yielded ops a.tmps) = true then Oper.wp Try.prog op a Wd K Q else E := by
  rw [if_pos hw]
  unfold Oper.wp
  have := run_look LI h x false
  rw [lookId] at this
  have hk2 : a.eval tk = MI.ek x := hk
  simp [execOp, ho, hm, hk2, this, Result.andThen]
  exact k
set_option maxHeartbeats 2000000 in
/-- The closure: which of two keys came first. -/
theorem closure_any {W : World} {B br bm : Nat} {l : List (Key × Int)} (hB : W.cell? ⟨B, 0, none⟩ = some (.pointer (some ⟨br, 0, none⟩))) (hr : W.cell? ⟨br, 0, none⟩ = some (.map (some bm))) (hm : Gm.MapAt MI.k MI.ek MI.ev bm l W) (x y : Key) :
    Calls Try.prog 66 #[.agg (keyC x), .agg (keyC y), .pointer (some ⟨B, 0, none⟩)] W fun e w' => e = .returned (.int .i64 (cmpI (idOf l x) (idOf l y))) ∧ ∃ q os', w' = Sort.grow (W.drewN q) os' := by
  obtain ⟨Wd, hWd⟩ : ∃ Wd, ((W.alloc (.cells (keyC x) 29)).alloc (.cells (keyC y) 29)).drew = Wd := ⟨_, rfl⟩
  have hBl : B < W.heap.size := World.block_lt_of_cell? W ⟨B, 0, none⟩ hB
  have hrl : br < W.heap.size := World.block_lt_of_cell? W ⟨br, 0, none⟩ hr
  have hbel : Below W.heap.size W Wd := by rw [← hWd]; exact below_drew (below_alloc (below_alloc (Below.refl _ _) _) _)
  have hcB := (hbel.cell (p := ⟨B, 0, none⟩) hBl).trans hB
  have hcr := (hbel.cell (p := ⟨br, 0, none⟩) hrl).trans hr
  have hmd := hm.block (hbel.block bm hm.lt)
  have hx1 : Wd.heap[W.heap.size]? = some (.cells (keyC x) 29 (0, 0)) := by
    rw [← hWd]
    exact (Below.heap_alloc _ _ _ (by simp)).trans (World.alloc_heap_new W _)
  have hy1 : Wd.heap[W.heap.size + 1]? = some (.cells (keyC y) 29 (0, 0)) := by
    rw [← hWd]
    have := World.alloc_heap_new (W.alloc (.cells (keyC x) 29)) (.cells (keyC y) 29)
    rwa [World.size_alloc] at this
  have hend : ∃ q os', Wd = Sort.grow (W.drewN q) os' := ⟨1, #[.cells (keyC x) 29, .cells (keyC y) 29], by
    rw [← hWd, Sort.alloc_eq_grow, Sort.alloc_eq_grow, Sort.grow_grow]
    rfl⟩
  have HB1 := Lib.hid hcB
  have HR1 := Lib.hid hcr
  have HM1 := Lib.hid hmd
  have HX1 := Lib.hid hx1
  have HY1 := Lib.hid hy1
  have HE := Lib.hid hend
  have HC := Lib.hid (cells_key (keyC x) (keyC_size x) (keyC_one x))
  have HW := Lib.hid hWd
  clear hB hr hm hBl hrl hbel hcB hcr hmd hx1 hy1 hend hWd
  go_enter Try.func66, Try.ntmps66
  go_wp2
  refine wp_region_held_drew (S := fun w' => w' = Wd) (by kernel_rfl) HW.out (fun hS => ?_)
  rw [HW.out] at hS ⊢
  refine tkv 0 6 (.pointer (some ⟨br, 0, none⟩)) rfl (yields_w rfl rfl (run_load1 (by kernel_rfl) _ _ _ HB1.out) (by kernel_rfl)) ?_
  refine tk 1 7 ?_
  refine tk 2 8 ?_
  refine tkv 3 9 (.map (some bm)) rfl (yields_w rfl rfl (run_load1 (by kernel_rfl) _ _ _ HR1.out) (by kernel_rfl)) ?_
  refine tkv 4 10 (.agg (keyC x)) rfl (yields_w rfl rfl (key_of_heap HX1.out) (by kernel_rfl)) ?_
  refine tkv 6 12 (.pointer (some ⟨br, 0, none⟩)) rfl (yields_w rfl rfl (run_load1 (by kernel_rfl) _ _ _ HB1.out) (by kernel_rfl)) ?_
  refine tk 7 13 ?_
  refine tk 8 14 ?_
  refine tkv 9 15 (.map (some bm)) rfl (yields_w rfl rfl (run_load1 (by kernel_rfl) _ _ _ HR1.out) (by kernel_rfl)) ?_
  refine tkv 10 16 (.agg (keyC y)) rfl (yields_w rfl rfl (key_of_heap HY1.out) (by kernel_rfl)) ?_
  refine wpAnyH_ready (rs := [5, 11]) (by kernel_rfl) (by simp) (rmore 5 rfl (fun K' hK => ?_) (rmore 11 rfl (fun K' hK => ?_) AllReadyH.nil))
  · refine s_look (x := x) ?_ HM1.out rfl rfl rfl (by kernel_rfl)
    refine hK.out _ _ (rfl) (fun hS2 => ?_)
    clear hS hK
    have hS := hS2
    clear hS2
    try simp only [Act.put, List.setIfInBounds_toArray, List.set_cons_zero, List.set_cons_succ]
    refine rone 11 rfl fun K' hK => ?_
    refine s_look (x := y) ?_ HM1.out rfl rfl rfl (by kernel_rfl)
    refine hK.out _ _ (rfl) (fun hS2 => ?_)
    clear hS hK
    have hS := hS2
    clear hS2
    try simp only [Act.put, List.setIfInBounds_toArray, List.set_cons_zero, List.set_cons_succ]
    refine rone 12 rfl fun K' hK => ?_
    go_simp
    refine (compare_any _ _ _).mono ?_
    rintro e w' ⟨rfl, rfl⟩
    refine hK.out _ _ (rfl) (fun hS2 => ?_)
    clear hS hK
    have hS := hS2
    clear hS2
    try simp only [Act.put, List.setIfInBounds_toArray, List.set_cons_zero, List.set_cons_succ]
    refine tk 13 5 ?_
    refine wpAnyH_done (by kernel_rfl) ?_ _
    clear hS
    go_wp2_with fail
    go_ret
    exact ⟨rfl, HE.out⟩
  · refine s_look (x := y) ?_ HM1.out rfl rfl rfl (by kernel_rfl)
    refine hK.out _ _ (rfl) (fun hS2 => ?_)
    clear hS hK
    have hS := hS2
    clear hS2
    try simp only [Act.put, List.setIfInBounds_toArray, List.set_cons_zero, List.set_cons_succ]
    refine rone 5 rfl fun K' hK => ?_
    refine s_look (x := x) ?_ HM1.out rfl rfl rfl (by kernel_rfl)
    refine hK.out _ _ (rfl) (fun hS2 => ?_)
    clear hS hK
    have hS := hS2
    clear hS2
    try simp only [Act.put, List.setIfInBounds_toArray, List.set_cons_zero, List.set_cons_succ]
    refine rone 12 rfl fun K' hK => ?_
    go_simp
    refine (compare_any _ _ _).mono ?_
    rintro e w' ⟨rfl, rfl⟩
    refine hK.out _ _ (rfl) (fun hS2 => ?_)
    clear hS hK
    have hS := hS2
    clear hS2
    try simp only [Act.put, List.setIfInBounds_toArray, List.set_cons_zero, List.set_cons_succ]
    refine tk 13 5 ?_
    refine wpAnyH_done (by kernel_rfl) ?_ _
    clear hS
    go_wp2_with fail
    go_ret
    exact ⟨rfl, HE.out⟩
end Go.Proofs.Ytapncdgeigbgmaa.Tb
