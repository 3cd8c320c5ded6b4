/- wire: the statement WireTells. -/
import Derived.Test.YtnehbhhjdjiieaaWt
set_option linter.unusedSimpArgs false
set_option linter.unusedVariables false
set_option maxRecDepth 100000
namespace Go.Proofs.Ytnehbhhjdjiieaa.Wm
open Go.RowKit Go.Proofs.YtnehbhhjdjiieaaW.PrintWords Go.Proofs.Ytnehbhhjdjiieaa.Bs Go.Proofs.Ytnehbhhjdjiieaa.Le Go.Proofs.Ytnehbhhjdjiieaa.Mv Go.Proofs.Ytnehbhhjdjiieaa.Gm

theorem eqKinds (kd : Int) : Hid (kd = 1 ∨ kd = 2 ∨ kd = 3 ∨ kd = 4 ∨ kd ≤ 0 ∨ 5 ≤ kd) := Lib.hid (by omega)
def NAMES : Array Value := #[.string ⟨#[105, 110, 105, 116, 105, 97, 116, 105, 111, 110]⟩, .string ⟨#[114, 101, 115, 112, 111, 110, 115, 101]⟩, .string ⟨#[99, 111, 111, 107, 105, 101]⟩, .string ⟨#[100, 97, 116, 97]⟩]
theorem names_lit (W : World) : (Instr.buildSlice 98 4 #[(0, .string ⟨#[105, 110, 105, 116, 105, 97, 116, 105, 111, 110]⟩), (1, .string ⟨#[114, 101, 115, 112, 111, 110, 115, 101]⟩), (2, .string ⟨#[99, 111, 111, 107, 105, 101]⟩), (3, .string ⟨#[100, 97, 116, 97]⟩)]).run Try.prog W = .ok (.slice (some ⟨W.heap.size, 0, none⟩) 4 4) (W.alloc (.cells NAMES 9)) := by
  kernel_rfl
set_option maxHeartbeats 4000000 in
theorem wireTells_any (Ma Mb : Array Value) (ka kb : Int) (ia ra ca ib rb cb : Array Value) (m2 n3 x1 y1 x2 y2 : Nat) (A1 A2 : Option Addr) (k1 k2 : Nat) (l1 l2 : List UInt8) (ei er ec : Bool) (w0 : World)
    (ha : Parts Ma ka ia ra ca #[.int .u32 (x1 : Int), .int .u64 (y1 : Int), .slice A1 l1.length k1]) (hb : Parts Mb kb ib rb cb #[.int .u32 (x2 : Int), .int .u64 (y2 : Int), .slice A2 l2.length k2])
    (hv : Recvs Ma ka m2 n3 x1)
    (hi : EqlOf 50 ia ib ei) (hr : EqlOf 40 ra rb er) (hc : EqlOf 26 ca cb ec)
    (si : EqlOf 50 ia ia true) (sr : EqlOf 40 ra ra true) (sc : EqlOf 26 ca ca true) (h1 : RB w0 (.slice A1 l1.length k1) l1) (h2 : RB w0 (.slice A2 l2.length k2) l2) :
    Calls Try.prog 17 #[.agg Ma, .agg Mb] w0 fun e w' => e = .returned (.bool true) ∧ Below w0.heap.size w0 w' := by
  have HS1 := Lib.hid (fun w r1 r2 => wireSame_any Ma Mb ka kb ia ra ca ib rb cb x1 y1 x2 y2 A1 A2 k1 k2 l1 l2 ei er ec w ha hb hi hr hc r1 r2)
  have HS2 := Lib.hid (fun w r1 r2 => refSame_any2 Ma Mb ka kb ia ra ca ib rb cb x1 y1 x2 y2 A1 A2 k1 k2 l1 l2 ei er ec w ha hb hi hr hc r1 r2)
  have HS3 := Lib.hid (fun w r1 => wireSame_any Ma Ma ka ka ia ra ca ia ra ca x1 y1 x1 y1 A1 A1 k1 k1 l1 l1 true true true w ha ha si sr sc r1 r1)
  rw [show sameB ka ka true true true x1 y1 x1 y1 l1 l1 = true from by unfold sameB; simp] at HS3
  generalize sameB ka kb ei er ec x1 y1 x2 y2 l1 l2 = sb at HS1 HS2
  have HV := Lib.hid (fun w => recv_any Ma ka m2 n3 x1 w hv)
  have CV1 := Lib.hid hv.kd
  have CV2 := Lib.hid hv.m2
  have CV3 := Lib.hid hv.n3
  have CV4 := Lib.hid hv.x
  have CV5 : Hid (Ma[283]? = some (.slice A1 l1.length k1)) := Lib.hid (ha.t.1 2 _ rfl)
  have CV6 : Hid (Mb[283]? = some (.slice A2 l2.length k2)) := Lib.hid (hb.t.1 2 _ rfl)
  have HCA := Lib.hid ha.cells
  have HCB := Lib.hid hb.cells
  have HR1 := Lib.hid h1
  have HR2 := Lib.hid h2
  clear ha hb hi hr hc si sr sc h1 h2 hv
  have HM := Lib.hid (Mem.start w0)
  have HB := HM.out.below
  go_enter Try.func17, Try.ntmps17
  by_cases hl1 : l1.length ≤ 1000
  case neg =>
    have hd1 : decide ((1000 : Int) < (l1.length : Int)) = true := decide_eq_true (by omega)
    go_wp2_with (first | refine m_rd ?_ | (refine m_wr ?_; clear HM HB; intro w b HM HB; try clear b) | fail)
    refine (alive_any _).mono ?_
    rintro e w ⟨rfl, hb⟩
    replace HM := Lib.hid (HM.out.call hb)
    replace HB := HM.out.below
    clear hb
    go_wp2_with (first | refine m_rd ?_ | (refine m_wr ?_; clear HM HB; intro w b HM HB; try clear b) | fail)
    go_ret
    exact ⟨rfl, HB⟩
  have hd1 : decide ((1000 : Int) < (l1.length : Int)) = false := decide_eq_false (by omega)
  by_cases hl2 : l2.length ≤ 1000
  case neg =>
    have hd2 : decide ((1000 : Int) < (l2.length : Int)) = true := decide_eq_true (by omega)
    go_wp2_with (first | refine m_rd ?_ | (refine m_wr ?_; clear HM HB; intro w b HM HB; try clear b) | fail)
    refine (alive_any _).mono ?_
    rintro e w ⟨rfl, hb⟩
    replace HM := Lib.hid (HM.out.call hb)
    replace HB := HM.out.below
    clear hb
    go_wp2_with (first | refine m_rd ?_ | (refine m_wr ?_; clear HM HB; intro w b HM HB; try clear b) | fail)
    go_ret
    exact ⟨rfl, HB⟩
  have hd2 : decide ((1000 : Int) < (l2.length : Int)) = false := decide_eq_false (by omega)
  go_wp2_with (first | refine m_rd ?_ | (refine m_wr ?_; clear HM HB; intro w b HM HB; try clear b) | fail)
  refine (HV.out _).mono ?_
  rintro e w ⟨rfl, hb⟩
  replace HM := Lib.hid (HM.out.call hb)
  replace HB := HM.out.below
  clear hb
  have HK := eqKinds ka
  rcases HK.out with rfl | rfl | rfl | rfl | hk | hk
  · clear HK
    have HNB : Hid (nameB 1 = ⟨#[105, 110, 105, 116, 105, 97, 116, 105, 111, 110]⟩) := Lib.hid (by rfl)
    have HNM : Hid (NAMES[0]? = some (.string ⟨#[105, 110, 105, 116, 105, 97, 116, 105, 111, 110]⟩)) := Lib.hid rfl
    rw [show recvN 1 m2 n3 x1 = 0 from rfl, show recvB 1 = false from by decide]
    go_wp2_with (first | (refine m_wr ?_ HM (Wr.slices rfl names_lit rfl) (wanted_none rfl); clear HM HB; intro w bn HM HB) | (refine m_rd ?_ HM (Rd.fact rfl (by kernel_rfl) rfl (fun w hm => (blk_cell (hm.getRaw (by ((repeat (first | exact List.Mem.head _ | apply List.Mem.tail)); done))) _).trans HNM.out)) (wanted_none rfl)) | refine m_rd ?_ | (refine m_wr ?_; clear HM HB; intro w b HM HB; try clear b) | fail)
    try simp only [Act.put, List.setIfInBounds_toArray, List.set_cons_zero, List.set_cons_succ]
    refine wp_region_held_drew (S := fun w' => Mem w0 w' _) (by kernel_rfl) (HM.out.drew) (fun hS => ?_)
    replace HM := Lib.hid HM.out.drew
    replace HB := HM.out.below
    refine tk 0 59 ?_
    refine tk 1 60 ?_
    refine tk 2 61 ?_
    refine tk 3 62 ?_
    refine tk 4 63 ?_
    refine tk 5 64 ?_
    refine tkv 6 65 (.int .i64 (1)) rfl (yields_cell rfl (by kernel_rfl) rfl (fun _ h => h) (by ((repeat (first | exact List.Mem.head _ | apply List.Mem.tail)); done)) CV1.out (by kernel_rfl)) ?_
    refine tk 7 66 ?_
    refine tk 8 67 ?_
    refine tku 9 68 ?_
    refine tku 10 69 ?_
    refine tku 11 70 ?_
    refine tk 12 71 ?_
    refine tk 13 72 ?_
    refine tk 14 73 ?_
    refine tk 15 74 ?_
    refine tk 16 75 ?_
    refine tkv 17 76 (.int .i64 (1)) rfl (yields_cell rfl (by kernel_rfl) rfl (fun _ h => h) (by ((repeat (first | exact List.Mem.head _ | apply List.Mem.tail)); done)) CV1.out (by kernel_rfl)) ?_
    refine tk 19 78 ?_
    refine rone 18 rfl fun K' hK => ?_
    rw [if_pos (by kernel_rfl)]
    go_simp
    refine (name_any _ _).mono ?_
    rintro e w' ⟨rfl, rfl⟩
    rw [HNB.out]
    refine hK.out _ _ (HM.out) (fun hS2 => ?_)
    clear hS hK
    have hS := hS2
    clear hS2
    try simp only [Act.put, List.setIfInBounds_toArray, List.set_cons_zero, List.set_cons_succ]
    refine tk 20 79 ?_
    refine tk 21 80 ?_
    refine tk 22 81 ?_
    refine tkv 23 82 (.agg Ma) rfl (yields_own rfl rfl (fun _ h => h) (by ((repeat (first | exact List.Mem.head _ | apply List.Mem.tail)); done)) Try.underlying87 rfl HCA.out.1 (by kernel_rfl)) ?_
    refine tkv 24 83 (.agg Mb) rfl (yields_own rfl rfl (fun _ h => h) (by ((repeat (first | exact List.Mem.head _ | apply List.Mem.tail)); done)) Try.underlying87 rfl HCB.out.1 (by kernel_rfl)) ?_
    refine tkv 26 85 (.agg Ma) rfl (yields_own rfl rfl (fun _ h => h) (by ((repeat (first | exact List.Mem.head _ | apply List.Mem.tail)); done)) Try.underlying87 rfl HCA.out.1 (by kernel_rfl)) ?_
    refine tkv 27 86 (.agg Mb) rfl (yields_own rfl rfl (fun _ h => h) (by ((repeat (first | exact List.Mem.head _ | apply List.Mem.tail)); done)) Try.underlying87 rfl HCB.out.1 (by kernel_rfl)) ?_
    refine rone 25 rfl fun K' hK => ?_
    rw [if_pos (by kernel_rfl)]
    go_simp
    refine (HS1.out _ (HR1.out.below HB) (HR2.out.below HB)).mono ?_
    rintro e w ⟨rfl, hb⟩
    replace HM := Lib.hid (HM.out.call hb)
    replace HB := HM.out.below
    clear hb
    refine hK.out _ _ (HM.out) (fun hS2 => ?_)
    clear hS hK
    have hS := hS2
    clear hS2
    try simp only [Act.put, List.setIfInBounds_toArray, List.set_cons_zero, List.set_cons_succ]
    refine rone 28 rfl fun K' hK => ?_
    rw [if_pos (by kernel_rfl)]
    go_simp
    refine (HS2.out _ (HR1.out.below HB) (HR2.out.below HB)).mono ?_
    rintro e w ⟨rfl, hb⟩
    replace HM := Lib.hid (HM.out.call hb)
    replace HB := HM.out.below
    clear hb
    refine hK.out _ _ (HM.out) (fun hS2 => ?_)
    clear hS hK
    have hS := hS2
    clear hS2
    try simp only [Act.put, List.setIfInBounds_toArray, List.set_cons_zero, List.set_cons_succ]
    refine tk 29 88 ?_
    have hbb : (sb == sb) = true := by cases sb <;> rfl
    try rw [hbb]
    try simp only [hbb]
    clear hbb
    refine tk 30 89 ?_
    refine tk 31 90 ?_
    refine tkv 32 91 (.agg Ma) rfl (yields_own rfl rfl (fun _ h => h) (by ((repeat (first | exact List.Mem.head _ | apply List.Mem.tail)); done)) Try.underlying87 rfl HCA.out.1 (by kernel_rfl)) ?_
    refine tkv 33 92 (.agg Ma) rfl (yields_own rfl rfl (fun _ h => h) (by ((repeat (first | exact List.Mem.head _ | apply List.Mem.tail)); done)) Try.underlying87 rfl HCA.out.1 (by kernel_rfl)) ?_
    refine rone 34 rfl fun K' hK => ?_
    rw [if_pos (by kernel_rfl)]
    go_simp
    refine (HS3.out _ (HR1.out.below HB)).mono ?_
    rintro e w ⟨rfl, hb⟩
    replace HM := Lib.hid (HM.out.call hb)
    replace HB := HM.out.below
    clear hb
    refine hK.out _ _ (HM.out) (fun hS2 => ?_)
    clear hS hK
    have hS := hS2
    clear hS2
    try simp only [Act.put, List.setIfInBounds_toArray, List.set_cons_zero, List.set_cons_succ]
    refine tk 35 94 ?_
    refine tk 36 95 ?_
    refine rone 37 rfl fun K' hK => ?_
    rw [if_pos (by kernel_rfl)]
    go_simp
    refine (alive_any _).mono ?_
    rintro e w ⟨rfl, hb⟩
    replace HM := Lib.hid (HM.out.call hb)
    replace HB := HM.out.below
    clear hb
    refine hK.out _ _ (HM.out) (fun hS2 => ?_)
    clear hS hK
    have hS := hS2
    clear hS2
    try simp only [Act.put, List.setIfInBounds_toArray, List.set_cons_zero, List.set_cons_succ]
    refine tk 38 97 ?_
    refine tk 39 4 ?_
    refine wpAnyH_done (by kernel_rfl) ?_ _
    clear hS
    go_wp2_with (first | refine m_rd ?_ | (refine m_wr ?_; clear HM HB; intro w b HM HB; try clear b) | fail)
    go_ret
    exact ⟨rfl, HB⟩
  · have HNB : Hid (nameB 2 = ⟨#[114, 101, 115, 112, 111, 110, 115, 101]⟩) := Lib.hid (by rfl)
    have HNM : Hid (NAMES[1]? = some (.string ⟨#[114, 101, 115, 112, 111, 110, 115, 101]⟩)) := Lib.hid rfl
    rw [show recvN 2 m2 n3 x1 = m2 from rfl, show recvB 2 = true from by decide]
    go_wp2_with (first | (refine m_wr ?_ HM (Wr.slices rfl names_lit rfl) (wanted_none rfl); clear HM HB; intro w bn HM HB) | (refine m_rd ?_ HM (Rd.fact rfl (by kernel_rfl) rfl (fun w hm => (blk_cell (hm.getRaw (by ((repeat (first | exact List.Mem.head _ | apply List.Mem.tail)); done))) _).trans HNM.out)) (wanted_none rfl)) | refine m_rd ?_ | (refine m_wr ?_; clear HM HB; intro w b HM HB; try clear b) | fail)
    try simp only [Act.put, List.setIfInBounds_toArray, List.set_cons_zero, List.set_cons_succ]
    refine wp_region_held_drew (S := fun w' => Mem w0 w' _) (by kernel_rfl) (HM.out.drew) (fun hS => ?_)
    replace HM := Lib.hid HM.out.drew
    replace HB := HM.out.below
    refine tk 0 59 ?_
    refine tk 1 60 ?_
    refine tk 2 61 ?_
    refine tk 3 62 ?_
    refine tk 4 63 ?_
    refine tk 5 64 ?_
    refine tkv 6 65 (.int .i64 (2)) rfl (yields_cell rfl (by kernel_rfl) rfl (fun _ h => h) (by ((repeat (first | exact List.Mem.head _ | apply List.Mem.tail)); done)) CV1.out (by kernel_rfl)) ?_
    refine tk 7 66 ?_
    refine tk 8 67 ?_
    refine tk 9 68 ?_
    refine tkv 10 69 (.int .i64 (2)) rfl (yields_cell rfl (by kernel_rfl) rfl (fun _ h => h) (by ((repeat (first | exact List.Mem.head _ | apply List.Mem.tail)); done)) CV1.out (by kernel_rfl)) ?_
    refine tk 11 70 ?_
    refine tk 12 71 ?_
    refine tk 13 72 ?_
    refine tk 14 73 ?_
    refine tk 15 74 ?_
    refine tk 16 75 ?_
    refine tkv 17 76 (.int .i64 (2)) rfl (yields_cell rfl (by kernel_rfl) rfl (fun _ h => h) (by ((repeat (first | exact List.Mem.head _ | apply List.Mem.tail)); done)) CV1.out (by kernel_rfl)) ?_
    refine tk 19 78 ?_
    refine rone 18 rfl fun K' hK => ?_
    rw [if_pos (by kernel_rfl)]
    go_simp
    refine (name_any _ _).mono ?_
    rintro e w' ⟨rfl, rfl⟩
    rw [HNB.out]
    refine hK.out _ _ (HM.out) (fun hS2 => ?_)
    clear hS hK
    have hS := hS2
    clear hS2
    try simp only [Act.put, List.setIfInBounds_toArray, List.set_cons_zero, List.set_cons_succ]
    refine tk 20 79 ?_
    refine tk 21 80 ?_
    refine tk 22 81 ?_
    refine tkv 23 82 (.agg Ma) rfl (yields_own rfl rfl (fun _ h => h) (by ((repeat (first | exact List.Mem.head _ | apply List.Mem.tail)); done)) Try.underlying87 rfl HCA.out.1 (by kernel_rfl)) ?_
    refine tkv 24 83 (.agg Mb) rfl (yields_own rfl rfl (fun _ h => h) (by ((repeat (first | exact List.Mem.head _ | apply List.Mem.tail)); done)) Try.underlying87 rfl HCB.out.1 (by kernel_rfl)) ?_
    refine tkv 26 85 (.agg Ma) rfl (yields_own rfl rfl (fun _ h => h) (by ((repeat (first | exact List.Mem.head _ | apply List.Mem.tail)); done)) Try.underlying87 rfl HCA.out.1 (by kernel_rfl)) ?_
    refine tkv 27 86 (.agg Mb) rfl (yields_own rfl rfl (fun _ h => h) (by ((repeat (first | exact List.Mem.head _ | apply List.Mem.tail)); done)) Try.underlying87 rfl HCB.out.1 (by kernel_rfl)) ?_
    refine rone 25 rfl fun K' hK => ?_
    rw [if_pos (by kernel_rfl)]
    go_simp
    refine (HS1.out _ (HR1.out.below HB) (HR2.out.below HB)).mono ?_
    rintro e w ⟨rfl, hb⟩
    replace HM := Lib.hid (HM.out.call hb)
    replace HB := HM.out.below
    clear hb
    refine hK.out _ _ (HM.out) (fun hS2 => ?_)
    clear hS hK
    have hS := hS2
    clear hS2
    try simp only [Act.put, List.setIfInBounds_toArray, List.set_cons_zero, List.set_cons_succ]
    refine rone 28 rfl fun K' hK => ?_
    rw [if_pos (by kernel_rfl)]
    go_simp
    refine (HS2.out _ (HR1.out.below HB) (HR2.out.below HB)).mono ?_
    rintro e w ⟨rfl, hb⟩
    replace HM := Lib.hid (HM.out.call hb)
    replace HB := HM.out.below
    clear hb
    refine hK.out _ _ (HM.out) (fun hS2 => ?_)
    clear hS hK
    have hS := hS2
    clear hS2
    try simp only [Act.put, List.setIfInBounds_toArray, List.set_cons_zero, List.set_cons_succ]
    refine tk 29 88 ?_
    have hbb : (sb == sb) = true := by cases sb <;> rfl
    try rw [hbb]
    try simp only [hbb]
    clear hbb
    refine tk 30 89 ?_
    refine tk 31 90 ?_
    refine tkv 32 91 (.agg Ma) rfl (yields_own rfl rfl (fun _ h => h) (by ((repeat (first | exact List.Mem.head _ | apply List.Mem.tail)); done)) Try.underlying87 rfl HCA.out.1 (by kernel_rfl)) ?_
    refine tkv 33 92 (.agg Ma) rfl (yields_own rfl rfl (fun _ h => h) (by ((repeat (first | exact List.Mem.head _ | apply List.Mem.tail)); done)) Try.underlying87 rfl HCA.out.1 (by kernel_rfl)) ?_
    refine rone 34 rfl fun K' hK => ?_
    rw [if_pos (by kernel_rfl)]
    go_simp
    refine (HS3.out _ (HR1.out.below HB)).mono ?_
    rintro e w ⟨rfl, hb⟩
    replace HM := Lib.hid (HM.out.call hb)
    replace HB := HM.out.below
    clear hb
    refine hK.out _ _ (HM.out) (fun hS2 => ?_)
    clear hS hK
    have hS := hS2
    clear hS2
    try simp only [Act.put, List.setIfInBounds_toArray, List.set_cons_zero, List.set_cons_succ]
    refine tk 35 94 ?_
    refine tk 36 95 ?_
    refine rone 37 rfl fun K' hK => ?_
    rw [if_pos (by kernel_rfl)]
    go_simp
    refine (alive_any _).mono ?_
    rintro e w ⟨rfl, hb⟩
    replace HM := Lib.hid (HM.out.call hb)
    replace HB := HM.out.below
    clear hb
    refine hK.out _ _ (HM.out) (fun hS2 => ?_)
    clear hS hK
    have hS := hS2
    clear hS2
    try simp only [Act.put, List.setIfInBounds_toArray, List.set_cons_zero, List.set_cons_succ]
    refine tk 38 97 ?_
    refine tk 39 4 ?_
    refine wpAnyH_done (by kernel_rfl) ?_ _
    clear hS
    go_wp2_with (first | refine m_rd ?_ | (refine m_wr ?_; clear HM HB; intro w b HM HB; try clear b) | fail)
    go_ret
    exact ⟨rfl, HB⟩
  · have HNB : Hid (nameB 3 = ⟨#[99, 111, 111, 107, 105, 101]⟩) := Lib.hid (by rfl)
    have HNM : Hid (NAMES[2]? = some (.string ⟨#[99, 111, 111, 107, 105, 101]⟩)) := Lib.hid rfl
    rw [show recvN 3 m2 n3 x1 = n3 from rfl, show recvB 3 = true from by decide]
    go_wp2_with (first | (refine m_wr ?_ HM (Wr.slices rfl names_lit rfl) (wanted_none rfl); clear HM HB; intro w bn HM HB) | (refine m_rd ?_ HM (Rd.fact rfl (by kernel_rfl) rfl (fun w hm => (blk_cell (hm.getRaw (by ((repeat (first | exact List.Mem.head _ | apply List.Mem.tail)); done))) _).trans HNM.out)) (wanted_none rfl)) | refine m_rd ?_ | (refine m_wr ?_; clear HM HB; intro w b HM HB; try clear b) | fail)
    try simp only [Act.put, List.setIfInBounds_toArray, List.set_cons_zero, List.set_cons_succ]
    refine wp_region_held_drew (S := fun w' => Mem w0 w' _) (by kernel_rfl) (HM.out.drew) (fun hS => ?_)
    replace HM := Lib.hid HM.out.drew
    replace HB := HM.out.below
    refine tk 0 59 ?_
    refine tk 1 60 ?_
    refine tk 2 61 ?_
    refine tk 3 62 ?_
    refine tk 4 63 ?_
    refine tk 5 64 ?_
    refine tkv 6 65 (.int .i64 (3)) rfl (yields_cell rfl (by kernel_rfl) rfl (fun _ h => h) (by ((repeat (first | exact List.Mem.head _ | apply List.Mem.tail)); done)) CV1.out (by kernel_rfl)) ?_
    refine tk 7 66 ?_
    refine tk 8 67 ?_
    refine tk 9 68 ?_
    refine tkv 10 69 (.int .i64 (3)) rfl (yields_cell rfl (by kernel_rfl) rfl (fun _ h => h) (by ((repeat (first | exact List.Mem.head _ | apply List.Mem.tail)); done)) CV1.out (by kernel_rfl)) ?_
    refine tk 11 70 ?_
    refine tk 12 71 ?_
    refine tk 13 72 ?_
    refine tk 14 73 ?_
    refine tk 15 74 ?_
    refine tk 16 75 ?_
    refine tkv 17 76 (.int .i64 (3)) rfl (yields_cell rfl (by kernel_rfl) rfl (fun _ h => h) (by ((repeat (first | exact List.Mem.head _ | apply List.Mem.tail)); done)) CV1.out (by kernel_rfl)) ?_
    refine tk 19 78 ?_
    refine rone 18 rfl fun K' hK => ?_
    rw [if_pos (by kernel_rfl)]
    go_simp
    refine (name_any _ _).mono ?_
    rintro e w' ⟨rfl, rfl⟩
    rw [HNB.out]
    refine hK.out _ _ (HM.out) (fun hS2 => ?_)
    clear hS hK
    have hS := hS2
    clear hS2
    try simp only [Act.put, List.setIfInBounds_toArray, List.set_cons_zero, List.set_cons_succ]
    refine tk 20 79 ?_
    refine tk 21 80 ?_
    refine tk 22 81 ?_
    refine tkv 23 82 (.agg Ma) rfl (yields_own rfl rfl (fun _ h => h) (by ((repeat (first | exact List.Mem.head _ | apply List.Mem.tail)); done)) Try.underlying87 rfl HCA.out.1 (by kernel_rfl)) ?_
    refine tkv 24 83 (.agg Mb) rfl (yields_own rfl rfl (fun _ h => h) (by ((repeat (first | exact List.Mem.head _ | apply List.Mem.tail)); done)) Try.underlying87 rfl HCB.out.1 (by kernel_rfl)) ?_
    refine tkv 26 85 (.agg Ma) rfl (yields_own rfl rfl (fun _ h => h) (by ((repeat (first | exact List.Mem.head _ | apply List.Mem.tail)); done)) Try.underlying87 rfl HCA.out.1 (by kernel_rfl)) ?_
    refine tkv 27 86 (.agg Mb) rfl (yields_own rfl rfl (fun _ h => h) (by ((repeat (first | exact List.Mem.head _ | apply List.Mem.tail)); done)) Try.underlying87 rfl HCB.out.1 (by kernel_rfl)) ?_
    refine rone 25 rfl fun K' hK => ?_
    rw [if_pos (by kernel_rfl)]
    go_simp
    refine (HS1.out _ (HR1.out.below HB) (HR2.out.below HB)).mono ?_
    rintro e w ⟨rfl, hb⟩
    replace HM := Lib.hid (HM.out.call hb)
    replace HB := HM.out.below
    clear hb
    refine hK.out _ _ (HM.out) (fun hS2 => ?_)
    clear hS hK
    have hS := hS2
    clear hS2
    try simp only [Act.put, List.setIfInBounds_toArray, List.set_cons_zero, List.set_cons_succ]
    refine rone 28 rfl fun K' hK => ?_
    rw [if_pos (by kernel_rfl)]
    go_simp
    refine (HS2.out _ (HR1.out.below HB) (HR2.out.below HB)).mono ?_
    rintro e w ⟨rfl, hb⟩
    replace HM := Lib.hid (HM.out.call hb)
    replace HB := HM.out.below
    clear hb
    refine hK.out _ _ (HM.out) (fun hS2 => ?_)
    clear hS hK
    have hS := hS2
    clear hS2
    try simp only [Act.put, List.setIfInBounds_toArray, List.set_cons_zero, List.set_cons_succ]
    refine tk 29 88 ?_
    have hbb : (sb == sb) = true := by cases sb <;> rfl
    try rw [hbb]
    try simp only [hbb]
    clear hbb
    refine tk 30 89 ?_
    refine tk 31 90 ?_
    refine tkv 32 91 (.agg Ma) rfl (yields_own rfl rfl (fun _ h => h) (by ((repeat (first | exact List.Mem.head _ | apply List.Mem.tail)); done)) Try.underlying87 rfl HCA.out.1 (by kernel_rfl)) ?_
    refine tkv 33 92 (.agg Ma) rfl (yields_own rfl rfl (fun _ h => h) (by ((repeat (first | exact List.Mem.head _ | apply List.Mem.tail)); done)) Try.underlying87 rfl HCA.out.1 (by kernel_rfl)) ?_
    refine rone 34 rfl fun K' hK => ?_
    rw [if_pos (by kernel_rfl)]
    go_simp
    refine (HS3.out _ (HR1.out.below HB)).mono ?_
    rintro e w ⟨rfl, hb⟩
    replace HM := Lib.hid (HM.out.call hb)
    replace HB := HM.out.below
    clear hb
    refine hK.out _ _ (HM.out) (fun hS2 => ?_)
    clear hS hK
    have hS := hS2
    clear hS2
    try simp only [Act.put, List.setIfInBounds_toArray, List.set_cons_zero, List.set_cons_succ]
    refine tk 35 94 ?_
    refine tk 36 95 ?_
    refine rone 37 rfl fun K' hK => ?_
    rw [if_pos (by kernel_rfl)]
    go_simp
    refine (alive_any _).mono ?_
    rintro e w ⟨rfl, hb⟩
    replace HM := Lib.hid (HM.out.call hb)
    replace HB := HM.out.below
    clear hb
    refine hK.out _ _ (HM.out) (fun hS2 => ?_)
    clear hS hK
    have hS := hS2
    clear hS2
    try simp only [Act.put, List.setIfInBounds_toArray, List.set_cons_zero, List.set_cons_succ]
    refine tk 38 97 ?_
    refine tk 39 4 ?_
    refine wpAnyH_done (by kernel_rfl) ?_ _
    clear hS
    go_wp2_with (first | refine m_rd ?_ | (refine m_wr ?_; clear HM HB; intro w b HM HB; try clear b) | fail)
    go_ret
    exact ⟨rfl, HB⟩
  · have HNB : Hid (nameB 4 = ⟨#[100, 97, 116, 97]⟩) := Lib.hid (by rfl)
    have HNM : Hid (NAMES[3]? = some (.string ⟨#[100, 97, 116, 97]⟩)) := Lib.hid rfl
    rw [show recvN 4 m2 n3 x1 = x1 from rfl, show recvB 4 = true from by decide]
    go_wp2_with (first | (refine m_wr ?_ HM (Wr.slices rfl names_lit rfl) (wanted_none rfl); clear HM HB; intro w bn HM HB) | (refine m_rd ?_ HM (Rd.fact rfl (by kernel_rfl) rfl (fun w hm => (blk_cell (hm.getRaw (by ((repeat (first | exact List.Mem.head _ | apply List.Mem.tail)); done))) _).trans HNM.out)) (wanted_none rfl)) | refine m_rd ?_ | (refine m_wr ?_; clear HM HB; intro w b HM HB; try clear b) | fail)
    try simp only [Act.put, List.setIfInBounds_toArray, List.set_cons_zero, List.set_cons_succ]
    refine wp_region_held_drew (S := fun w' => Mem w0 w' _) (by kernel_rfl) (HM.out.drew) (fun hS => ?_)
    replace HM := Lib.hid HM.out.drew
    replace HB := HM.out.below
    refine tk 0 59 ?_
    refine tk 1 60 ?_
    refine tk 2 61 ?_
    refine tk 3 62 ?_
    refine tk 4 63 ?_
    refine tk 5 64 ?_
    refine tkv 6 65 (.int .i64 (4)) rfl (yields_cell rfl (by kernel_rfl) rfl (fun _ h => h) (by ((repeat (first | exact List.Mem.head _ | apply List.Mem.tail)); done)) CV1.out (by kernel_rfl)) ?_
    refine tk 7 66 ?_
    refine tk 8 67 ?_
    refine tk 9 68 ?_
    refine tkv 10 69 (.int .i64 (4)) rfl (yields_cell rfl (by kernel_rfl) rfl (fun _ h => h) (by ((repeat (first | exact List.Mem.head _ | apply List.Mem.tail)); done)) CV1.out (by kernel_rfl)) ?_
    refine tk 11 70 ?_
    refine tk 12 71 ?_
    refine tk 13 72 ?_
    refine tk 14 73 ?_
    refine tk 15 74 ?_
    refine tk 16 75 ?_
    refine tkv 17 76 (.int .i64 (4)) rfl (yields_cell rfl (by kernel_rfl) rfl (fun _ h => h) (by ((repeat (first | exact List.Mem.head _ | apply List.Mem.tail)); done)) CV1.out (by kernel_rfl)) ?_
    refine tk 19 78 ?_
    refine rone 18 rfl fun K' hK => ?_
    rw [if_pos (by kernel_rfl)]
    go_simp
    refine (name_any _ _).mono ?_
    rintro e w' ⟨rfl, rfl⟩
    rw [HNB.out]
    refine hK.out _ _ (HM.out) (fun hS2 => ?_)
    clear hS hK
    have hS := hS2
    clear hS2
    try simp only [Act.put, List.setIfInBounds_toArray, List.set_cons_zero, List.set_cons_succ]
    refine tk 20 79 ?_
    refine tk 21 80 ?_
    refine tk 22 81 ?_
    refine tkv 23 82 (.agg Ma) rfl (yields_own rfl rfl (fun _ h => h) (by ((repeat (first | exact List.Mem.head _ | apply List.Mem.tail)); done)) Try.underlying87 rfl HCA.out.1 (by kernel_rfl)) ?_
    refine tkv 24 83 (.agg Mb) rfl (yields_own rfl rfl (fun _ h => h) (by ((repeat (first | exact List.Mem.head _ | apply List.Mem.tail)); done)) Try.underlying87 rfl HCB.out.1 (by kernel_rfl)) ?_
    refine tkv 26 85 (.agg Ma) rfl (yields_own rfl rfl (fun _ h => h) (by ((repeat (first | exact List.Mem.head _ | apply List.Mem.tail)); done)) Try.underlying87 rfl HCA.out.1 (by kernel_rfl)) ?_
    refine tkv 27 86 (.agg Mb) rfl (yields_own rfl rfl (fun _ h => h) (by ((repeat (first | exact List.Mem.head _ | apply List.Mem.tail)); done)) Try.underlying87 rfl HCB.out.1 (by kernel_rfl)) ?_
    refine rone 25 rfl fun K' hK => ?_
    rw [if_pos (by kernel_rfl)]
    go_simp
    refine (HS1.out _ (HR1.out.below HB) (HR2.out.below HB)).mono ?_
    rintro e w ⟨rfl, hb⟩
    replace HM := Lib.hid (HM.out.call hb)
    replace HB := HM.out.below
    clear hb
    refine hK.out _ _ (HM.out) (fun hS2 => ?_)
    clear hS hK
    have hS := hS2
    clear hS2
    try simp only [Act.put, List.setIfInBounds_toArray, List.set_cons_zero, List.set_cons_succ]
    refine rone 28 rfl fun K' hK => ?_
    rw [if_pos (by kernel_rfl)]
    go_simp
    refine (HS2.out _ (HR1.out.below HB) (HR2.out.below HB)).mono ?_
    rintro e w ⟨rfl, hb⟩
    replace HM := Lib.hid (HM.out.call hb)
    replace HB := HM.out.below
    clear hb
    refine hK.out _ _ (HM.out) (fun hS2 => ?_)
    clear hS hK
    have hS := hS2
    clear hS2
    try simp only [Act.put, List.setIfInBounds_toArray, List.set_cons_zero, List.set_cons_succ]
    refine tk 29 88 ?_
    have hbb : (sb == sb) = true := by cases sb <;> rfl
    try rw [hbb]
    try simp only [hbb]
    clear hbb
    refine tk 30 89 ?_
    refine tk 31 90 ?_
    refine tkv 32 91 (.agg Ma) rfl (yields_own rfl rfl (fun _ h => h) (by ((repeat (first | exact List.Mem.head _ | apply List.Mem.tail)); done)) Try.underlying87 rfl HCA.out.1 (by kernel_rfl)) ?_
    refine tkv 33 92 (.agg Ma) rfl (yields_own rfl rfl (fun _ h => h) (by ((repeat (first | exact List.Mem.head _ | apply List.Mem.tail)); done)) Try.underlying87 rfl HCA.out.1 (by kernel_rfl)) ?_
    refine rone 34 rfl fun K' hK => ?_
    rw [if_pos (by kernel_rfl)]
    go_simp
    refine (HS3.out _ (HR1.out.below HB)).mono ?_
    rintro e w ⟨rfl, hb⟩
    replace HM := Lib.hid (HM.out.call hb)
    replace HB := HM.out.below
    clear hb
    refine hK.out _ _ (HM.out) (fun hS2 => ?_)
    clear hS hK
    have hS := hS2
    clear hS2
    try simp only [Act.put, List.setIfInBounds_toArray, List.set_cons_zero, List.set_cons_succ]
    refine tk 35 94 ?_
    refine tk 36 95 ?_
    refine rone 37 rfl fun K' hK => ?_
    rw [if_pos (by kernel_rfl)]
    go_simp
    refine (alive_any _).mono ?_
    rintro e w ⟨rfl, hb⟩
    replace HM := Lib.hid (HM.out.call hb)
    replace HB := HM.out.below
    clear hb
    refine hK.out _ _ (HM.out) (fun hS2 => ?_)
    clear hS hK
    have hS := hS2
    clear hS2
    try simp only [Act.put, List.setIfInBounds_toArray, List.set_cons_zero, List.set_cons_succ]
    refine tk 38 97 ?_
    refine tk 39 4 ?_
    refine wpAnyH_done (by kernel_rfl) ?_ _
    clear hS
    go_wp2_with (first | refine m_rd ?_ | (refine m_wr ?_; clear HM HB; intro w b HM HB; try clear b) | fail)
    go_ret
    exact ⟨rfl, HB⟩
  · have HNB : Hid (nameB ka = ⟨#[]⟩) := Lib.hid (by unfold nameB; rw [if_neg (by omega), if_neg (by omega), if_neg (by omega), if_neg (by omega)])
    have d1 : decide ((1 : Int) ≤ ka) = false := decide_eq_false (by omega)
    have d2 : decide ((2 : Int) ≤ ka) = false := decide_eq_false (by omega)
    rw [show recvN ka m2 n3 x1 = 0 from by unfold recvN; rw [if_neg (by omega), if_neg (by omega), if_neg (by omega)], show recvB ka = false from by unfold recvB; exact decide_eq_false (by omega)]
    clear HK
    go_wp2_with (first | refine m_rd ?_ | (refine m_wr ?_; clear HM HB; intro w b HM HB; try clear b) | fail)
    try simp only [Act.put, List.setIfInBounds_toArray, List.set_cons_zero, List.set_cons_succ]
    refine wp_region_held_drew (S := fun w' => Mem w0 w' _) (by kernel_rfl) (HM.out.drew) (fun hS => ?_)
    replace HM := Lib.hid HM.out.drew
    replace HB := HM.out.below
    refine tk 0 59 ?_
    refine tk 1 60 ?_
    refine tk 2 61 ?_
    refine tk 3 62 ?_
    refine tk 4 63 ?_
    refine tk 5 64 ?_
    refine tkv 6 65 (.int .i64 (ka)) rfl (yields_cell rfl (by kernel_rfl) rfl (fun _ h => h) (by ((repeat (first | exact List.Mem.head _ | apply List.Mem.tail)); done)) CV1.out (by kernel_rfl)) ?_
    refine tk 7 66 ?_
    refine tk 8 67 ?_
    refine tku 9 68 ?_
    refine tku 10 69 ?_
    refine tku 11 70 ?_
    refine tk 12 71 ?_
    refine tk 13 72 ?_
    refine tk 14 73 ?_
    refine tk 15 74 ?_
    refine tk 16 75 ?_
    refine tkv 17 76 (.int .i64 (ka)) rfl (yields_cell rfl (by kernel_rfl) rfl (fun _ h => h) (by ((repeat (first | exact List.Mem.head _ | apply List.Mem.tail)); done)) CV1.out (by kernel_rfl)) ?_
    refine tk 19 78 ?_
    refine rone 18 rfl fun K' hK => ?_
    rw [if_pos (by kernel_rfl)]
    go_simp
    refine (name_any _ _).mono ?_
    rintro e w' ⟨rfl, rfl⟩
    rw [HNB.out]
    refine hK.out _ _ (HM.out) (fun hS2 => ?_)
    clear hS hK
    have hS := hS2
    clear hS2
    try simp only [Act.put, List.setIfInBounds_toArray, List.set_cons_zero, List.set_cons_succ]
    refine tk 20 79 ?_
    refine tk 21 80 ?_
    refine tk 22 81 ?_
    refine tkv 23 82 (.agg Ma) rfl (yields_own rfl rfl (fun _ h => h) (by ((repeat (first | exact List.Mem.head _ | apply List.Mem.tail)); done)) Try.underlying87 rfl HCA.out.1 (by kernel_rfl)) ?_
    refine tkv 24 83 (.agg Mb) rfl (yields_own rfl rfl (fun _ h => h) (by ((repeat (first | exact List.Mem.head _ | apply List.Mem.tail)); done)) Try.underlying87 rfl HCB.out.1 (by kernel_rfl)) ?_
    refine tkv 26 85 (.agg Ma) rfl (yields_own rfl rfl (fun _ h => h) (by ((repeat (first | exact List.Mem.head _ | apply List.Mem.tail)); done)) Try.underlying87 rfl HCA.out.1 (by kernel_rfl)) ?_
    refine tkv 27 86 (.agg Mb) rfl (yields_own rfl rfl (fun _ h => h) (by ((repeat (first | exact List.Mem.head _ | apply List.Mem.tail)); done)) Try.underlying87 rfl HCB.out.1 (by kernel_rfl)) ?_
    refine rone 25 rfl fun K' hK => ?_
    rw [if_pos (by kernel_rfl)]
    go_simp
    refine (HS1.out _ (HR1.out.below HB) (HR2.out.below HB)).mono ?_
    rintro e w ⟨rfl, hb⟩
    replace HM := Lib.hid (HM.out.call hb)
    replace HB := HM.out.below
    clear hb
    refine hK.out _ _ (HM.out) (fun hS2 => ?_)
    clear hS hK
    have hS := hS2
    clear hS2
    try simp only [Act.put, List.setIfInBounds_toArray, List.set_cons_zero, List.set_cons_succ]
    refine rone 28 rfl fun K' hK => ?_
    rw [if_pos (by kernel_rfl)]
    go_simp
    refine (HS2.out _ (HR1.out.below HB) (HR2.out.below HB)).mono ?_
    rintro e w ⟨rfl, hb⟩
    replace HM := Lib.hid (HM.out.call hb)
    replace HB := HM.out.below
    clear hb
    refine hK.out _ _ (HM.out) (fun hS2 => ?_)
    clear hS hK
    have hS := hS2
    clear hS2
    try simp only [Act.put, List.setIfInBounds_toArray, List.set_cons_zero, List.set_cons_succ]
    refine tk 29 88 ?_
    have hbb : (sb == sb) = true := by cases sb <;> rfl
    try rw [hbb]
    try simp only [hbb]
    clear hbb
    refine tk 30 89 ?_
    refine tk 31 90 ?_
    refine tkv 32 91 (.agg Ma) rfl (yields_own rfl rfl (fun _ h => h) (by ((repeat (first | exact List.Mem.head _ | apply List.Mem.tail)); done)) Try.underlying87 rfl HCA.out.1 (by kernel_rfl)) ?_
    refine tkv 33 92 (.agg Ma) rfl (yields_own rfl rfl (fun _ h => h) (by ((repeat (first | exact List.Mem.head _ | apply List.Mem.tail)); done)) Try.underlying87 rfl HCA.out.1 (by kernel_rfl)) ?_
    refine rone 34 rfl fun K' hK => ?_
    rw [if_pos (by kernel_rfl)]
    go_simp
    refine (HS3.out _ (HR1.out.below HB)).mono ?_
    rintro e w ⟨rfl, hb⟩
    replace HM := Lib.hid (HM.out.call hb)
    replace HB := HM.out.below
    clear hb
    refine hK.out _ _ (HM.out) (fun hS2 => ?_)
    clear hS hK
    have hS := hS2
    clear hS2
    try simp only [Act.put, List.setIfInBounds_toArray, List.set_cons_zero, List.set_cons_succ]
    refine tk 35 94 ?_
    refine tk 36 95 ?_
    refine rone 37 rfl fun K' hK => ?_
    rw [if_pos (by kernel_rfl)]
    go_simp
    refine (alive_any _).mono ?_
    rintro e w ⟨rfl, hb⟩
    replace HM := Lib.hid (HM.out.call hb)
    replace HB := HM.out.below
    clear hb
    refine hK.out _ _ (HM.out) (fun hS2 => ?_)
    clear hS hK
    have hS := hS2
    clear hS2
    try simp only [Act.put, List.setIfInBounds_toArray, List.set_cons_zero, List.set_cons_succ]
    refine tk 38 97 ?_
    refine tk 39 4 ?_
    refine wpAnyH_done (by kernel_rfl) ?_ _
    clear hS
    go_wp2_with (first | refine m_rd ?_ | (refine m_wr ?_; clear HM HB; intro w b HM HB; try clear b) | fail)
    go_ret
    exact ⟨rfl, HB⟩
  · have HNB : Hid (nameB ka = ⟨#[]⟩) := Lib.hid (by unfold nameB; rw [if_neg (by omega), if_neg (by omega), if_neg (by omega), if_neg (by omega)])
    have d1 : decide ((1 : Int) ≤ ka) = true := decide_eq_true (by omega)
    have d2 : decide ((2 : Int) ≤ ka) = true := decide_eq_true (by omega)
    have d3 : decide (ka ≤ (4 : Int)) = false := decide_eq_false (by omega)
    rw [show recvN ka m2 n3 x1 = 0 from by unfold recvN; rw [if_neg (by omega), if_neg (by omega), if_neg (by omega)], show recvB ka = false from by unfold recvB; exact decide_eq_false (by omega)]
    clear HK
    go_wp2_with (first | refine m_rd ?_ | (refine m_wr ?_; clear HM HB; intro w b HM HB; try clear b) | fail)
    try simp only [Act.put, List.setIfInBounds_toArray, List.set_cons_zero, List.set_cons_succ]
    refine wp_region_held_drew (S := fun w' => Mem w0 w' _) (by kernel_rfl) (HM.out.drew) (fun hS => ?_)
    replace HM := Lib.hid HM.out.drew
    replace HB := HM.out.below
    refine tk 0 59 ?_
    refine tk 1 60 ?_
    refine tk 2 61 ?_
    refine tk 3 62 ?_
    refine tk 4 63 ?_
    refine tk 5 64 ?_
    refine tkv 6 65 (.int .i64 (ka)) rfl (yields_cell rfl (by kernel_rfl) rfl (fun _ h => h) (by ((repeat (first | exact List.Mem.head _ | apply List.Mem.tail)); done)) CV1.out (by kernel_rfl)) ?_
    refine tk 7 66 ?_
    refine tk 8 67 ?_
    refine tk 9 68 ?_
    refine tkv 10 69 (.int .i64 ka) rfl (yields_cell rfl (by kernel_rfl) rfl (fun _ h => h) (by ((repeat (first | exact List.Mem.head _ | apply List.Mem.tail)); done)) CV1.out (by kernel_rfl)) ?_
    refine tk 11 70 ?_
    refine tk 12 71 ?_
    refine tk 13 72 ?_
    refine tk 14 73 ?_
    refine tk 15 74 ?_
    refine tk 16 75 ?_
    refine tkv 17 76 (.int .i64 (ka)) rfl (yields_cell rfl (by kernel_rfl) rfl (fun _ h => h) (by ((repeat (first | exact List.Mem.head _ | apply List.Mem.tail)); done)) CV1.out (by kernel_rfl)) ?_
    refine tk 19 78 ?_
    refine rone 18 rfl fun K' hK => ?_
    rw [if_pos (by kernel_rfl)]
    go_simp
    refine (name_any _ _).mono ?_
    rintro e w' ⟨rfl, rfl⟩
    rw [HNB.out]
    refine hK.out _ _ (HM.out) (fun hS2 => ?_)
    clear hS hK
    have hS := hS2
    clear hS2
    try simp only [Act.put, List.setIfInBounds_toArray, List.set_cons_zero, List.set_cons_succ]
    refine tk 20 79 ?_
    refine tk 21 80 ?_
    refine tk 22 81 ?_
    refine tkv 23 82 (.agg Ma) rfl (yields_own rfl rfl (fun _ h => h) (by ((repeat (first | exact List.Mem.head _ | apply List.Mem.tail)); done)) Try.underlying87 rfl HCA.out.1 (by kernel_rfl)) ?_
    refine tkv 24 83 (.agg Mb) rfl (yields_own rfl rfl (fun _ h => h) (by ((repeat (first | exact List.Mem.head _ | apply List.Mem.tail)); done)) Try.underlying87 rfl HCB.out.1 (by kernel_rfl)) ?_
    refine tkv 26 85 (.agg Ma) rfl (yields_own rfl rfl (fun _ h => h) (by ((repeat (first | exact List.Mem.head _ | apply List.Mem.tail)); done)) Try.underlying87 rfl HCA.out.1 (by kernel_rfl)) ?_
    refine tkv 27 86 (.agg Mb) rfl (yields_own rfl rfl (fun _ h => h) (by ((repeat (first | exact List.Mem.head _ | apply List.Mem.tail)); done)) Try.underlying87 rfl HCB.out.1 (by kernel_rfl)) ?_
    refine rone 25 rfl fun K' hK => ?_
    rw [if_pos (by kernel_rfl)]
    go_simp
    refine (HS1.out _ (HR1.out.below HB) (HR2.out.below HB)).mono ?_
    rintro e w ⟨rfl, hb⟩
    replace HM := Lib.hid (HM.out.call hb)
    replace HB := HM.out.below
    clear hb
    refine hK.out _ _ (HM.out) (fun hS2 => ?_)
    clear hS hK
    have hS := hS2
    clear hS2
    try simp only [Act.put, List.setIfInBounds_toArray, List.set_cons_zero, List.set_cons_succ]
    refine rone 28 rfl fun K' hK => ?_
    rw [if_pos (by kernel_rfl)]
    go_simp
    refine (HS2.out _ (HR1.out.below HB) (HR2.out.below HB)).mono ?_
    rintro e w ⟨rfl, hb⟩
    replace HM := Lib.hid (HM.out.call hb)
    replace HB := HM.out.below
    clear hb
    refine hK.out _ _ (HM.out) (fun hS2 => ?_)
    clear hS hK
    have hS := hS2
    clear hS2
    try simp only [Act.put, List.setIfInBounds_toArray, List.set_cons_zero, List.set_cons_succ]
    refine tk 29 88 ?_
    have hbb : (sb == sb) = true := by cases sb <;> rfl
    try rw [hbb]
    try simp only [hbb]
    clear hbb
    refine tk 30 89 ?_
    refine tk 31 90 ?_
    refine tkv 32 91 (.agg Ma) rfl (yields_own rfl rfl (fun _ h => h) (by ((repeat (first | exact List.Mem.head _ | apply List.Mem.tail)); done)) Try.underlying87 rfl HCA.out.1 (by kernel_rfl)) ?_
    refine tkv 33 92 (.agg Ma) rfl (yields_own rfl rfl (fun _ h => h) (by ((repeat (first | exact List.Mem.head _ | apply List.Mem.tail)); done)) Try.underlying87 rfl HCA.out.1 (by kernel_rfl)) ?_
    refine rone 34 rfl fun K' hK => ?_
    rw [if_pos (by kernel_rfl)]
    go_simp
    refine (HS3.out _ (HR1.out.below HB)).mono ?_
    rintro e w ⟨rfl, hb⟩
    replace HM := Lib.hid (HM.out.call hb)
    replace HB := HM.out.below
    clear hb
    refine hK.out _ _ (HM.out) (fun hS2 => ?_)
    clear hS hK
    have hS := hS2
    clear hS2
    try simp only [Act.put, List.setIfInBounds_toArray, List.set_cons_zero, List.set_cons_succ]
    refine tk 35 94 ?_
    refine tk 36 95 ?_
    refine rone 37 rfl fun K' hK => ?_
    rw [if_pos (by kernel_rfl)]
    go_simp
    refine (alive_any _).mono ?_
    rintro e w ⟨rfl, hb⟩
    replace HM := Lib.hid (HM.out.call hb)
    replace HB := HM.out.below
    clear hb
    refine hK.out _ _ (HM.out) (fun hS2 => ?_)
    clear hS hK
    have hS := hS2
    clear hS2
    try simp only [Act.put, List.setIfInBounds_toArray, List.set_cons_zero, List.set_cons_succ]
    refine tk 38 97 ?_
    refine tk 39 4 ?_
    refine wpAnyH_done (by kernel_rfl) ?_ _
    clear hS
    go_wp2_with (first | refine m_rd ?_ | (refine m_wr ?_; clear HM HB; intro w b HM HB; try clear b) | fail)
    go_ret
    exact ⟨rfl, HB⟩
theorem eq_two {t : TypeId} (ht : Try.prog.keyTypeAt 3 t = true) (x y : Array Value) (hs : (match Try.prog.underlying t with | some (.struct _) | some (.array _ _) => true | _ => false) = true) (hx : x.size = Try.prog.cellsOf t) (hy : y.size = Try.prog.cellsOf t) (h1 : ∃ L, Try.prog.keyLits 3 t x.toList = some L) (h2 : ∃ L, Try.prog.keyLits 3 t y.toList = some L) : ∃ r, EqlOf t x y r := by
  obtain ⟨L1, h1⟩ := h1
  obtain ⟨L2, h2⟩ := h2
  obtain ⟨r, hr, _⟩ := eq_any ht x y hs hx hy h1 h2
  exact ⟨r, eql_of hr⟩
theorem wireTells_walk (kd : Int) (n1 : Nat) (L1 : List UInt8) (n2 m2 : Nat) (L2 : List UInt8) (n3 : Nat) (L3 : List UInt8) (x y : Nat) (A : Option Addr) (k : Nat) (l : List UInt8)
    (kd' : Int) (n1' : Nat) (L1' : List UInt8) (n2' m2' : Nat) (L2' : List UInt8) (n3' : Nat) (L3' : List UInt8) (x' y' : Nat) (A' : Option Addr) (k' : Nat) (l' : List UInt8) (w0 : World)
    (hn1 : n1 < 4294967296) (hL1 : L1.length = 140) (hn2 : n2 < 4294967296) (hm2 : m2 < 4294967296) (hL2 : L2.length = 80) (hn3 : n3 < 4294967296) (hL3 : L3.length = 56) (hr : RB w0 (.slice A l.length k) l)
    (hn1' : n1' < 4294967296) (hL1' : L1'.length = 140) (hn2' : n2' < 4294967296) (hm2' : m2' < 4294967296) (hL2' : L2'.length = 80) (hn3' : n3' < 4294967296) (hL3' : L3'.length = 56) (hr' : RB w0 (.slice A' l'.length k') l') :
    Calls Try.prog 17 #[.agg (WV kd (MV [n1] L1) (MV [n2, m2] L2) (MV [n3] L3) #[.int .u32 (x : Int), .int .u64 (y : Int), .slice A l.length k]), .agg (WV kd' (MV [n1'] L1') (MV [n2', m2'] L2') (MV [n3'] L3') #[.int .u32 (x' : Int), .int .u64 (y' : Int), .slice A' l'.length k'])] w0 fun e w' => e = .returned (.bool true) ∧ Below w0.heap.size w0 w' := by
  have pa := parts kd n1 L1 n2 m2 L2 n3 L3 x y A l.length k hL1 hL2 hL3
  have pb := parts kd' n1' L1' n2' m2' L2' n3' L3' x' y' A' l'.length k' hL1' hL2' hL3'
  obtain ⟨ei, hi⟩ := eq_two (t := 50) (by kernel_rfl) (MV [n1] L1) (MV [n1'] L1') (by rw [Try.underlying50]) (by rw [MV_size, show Try.prog.cellsOf 50 = 141 by kernel_rfl]; simp; omega) (by rw [MV_size, show Try.prog.cellsOf 50 = 141 by kernel_rfl]; simp; omega) (lits_initial 0 n1 L1 hn1 hL1) (lits_initial 0 n1' L1' hn1' hL1')
  obtain ⟨er, hrr⟩ := eq_two (t := 40) (by kernel_rfl) (MV [n2, m2] L2) (MV [n2', m2'] L2') (by rw [Try.underlying40]) (by rw [MV_size, show Try.prog.cellsOf 40 = 82 by kernel_rfl]; simp; omega) (by rw [MV_size, show Try.prog.cellsOf 40 = 82 by kernel_rfl]; simp; omega) (lits_answer 0 n2 m2 L2 hn2 hm2 hL2) (lits_answer 0 n2' m2' L2' hn2' hm2' hL2')
  obtain ⟨ec, hc⟩ := eq_two (t := 26) (by kernel_rfl) (MV [n3] L3) (MV [n3'] L3') (by rw [Try.underlying26]) (by rw [MV_size, show Try.prog.cellsOf 26 = 57 by kernel_rfl]; simp; omega) (by rw [MV_size, show Try.prog.cellsOf 26 = 57 by kernel_rfl]; simp; omega) (lits_cookie 0 n3 L3 hn3 hL3) (lits_cookie 0 n3' L3' hn3' hL3')
  exact wireTells_any _ _ kd kd' _ _ _ _ _ _ m2 n3 x y x' y' A A' k k' l l' ei er ec w0 pa pb pa.recvs hi hrr hc (eql_of (eq_initial n1 L1 hn1 hL1)) (eql_of (eq_answer n2 m2 L2 hn2 hm2 hL2)) (eql_of (eq_cookie n3 L3 hn3 hL3)) hr hr'
end Go.Proofs.Ytnehbhhjdjiieaa.Wm
