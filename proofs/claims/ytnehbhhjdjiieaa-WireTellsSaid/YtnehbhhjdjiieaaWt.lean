/- wire: whom a message is for, its kind's name, and whether two are the same. -/
import Derived.Test.YtnehbhhjdjiieaaWo
import Derived.Test.YtnehbhhjdjiieaaWs
import Derived.Test.YtnehbhhjdjiieaaGp
set_option linter.unusedSimpArgs false
set_option linter.unusedVariables false
set_option maxRecDepth 100000
namespace Go.Proofs.Ytnehbhhjdjiieaa.Wm
open Go.RowKit Go.Proofs.YtnehbhhjdjiieaaW.PrintWords Go.Proofs.Ytnehbhhjdjiieaa.Bs Go.Proofs.Ytnehbhhjdjiieaa.Le Go.Proofs.Ytnehbhhjdjiieaa.Mv Go.Proofs.Ytnehbhhjdjiieaa.Gm

theorem partOf_mid {t : TypeId} (X M Y : Array Value) {o : Nat} (ho : o = X.size) (hi : (Try.prog.info? t).map (·.size) = some M.size) (hu : (Try.prog.underlying t).map (·.isRow) = some true) : PartOf t (X ++ M ++ Y) o M := by
  subst ho
  refine ⟨fun j v hv => ?_, hi, hu⟩
  have hj : j < M.size := by simpa using (List.getElem?_eq_some_iff.1 hv).1
  rw [Array.getElem?_append_left (by rw [Array.size_append]; omega), Array.getElem?_append_right (by omega), show X.size + j - X.size = j by omega]
  simpa using hv
/-- What is known of a message's cells. -/
structure Parts (M : Array Value) (kd : Int) (i r c t : Array Value) : Prop where
  kd : M[0]? = some (.int .i64 kd)
  i : PartOf 50 M 1 i
  r : PartOf 40 M 142 r
  c : PartOf 26 M 224 c
  t : PartOf 59 M 281 t
  cells : Cells 87 M
theorem parts (kd : Int) (n1 : Nat) (L1 : List UInt8) (n2 m2 : Nat) (L2 : List UInt8) (n3 : Nat) (L3 : List UInt8) (x y : Nat) (A : Option Addr) (n k : Nat) (h1 : L1.length = 140) (h2 : L2.length = 80) (h3 : L3.length = 56) :
    Parts (WV kd (MV [n1] L1) (MV [n2, m2] L2) (MV [n3] L3) #[.int .u32 (x : Int), .int .u64 (y : Int), .slice A n k]) kd (MV [n1] L1) (MV [n2, m2] L2) (MV [n3] L3) #[.int .u32 (x : Int), .int .u64 (y : Int), .slice A n k] := by
  have s1 : (MV [n1] L1).size = 141 := by rw [MV_size, h1]; rfl
  have s2 : (MV [n2, m2] L2).size = 82 := by rw [MV_size, h2]; rfl
  have s3 : (MV [n3] L3).size = 57 := by rw [MV_size, h3]; rfl
  refine ⟨WV_0 .., ?_, ?_, ?_, ?_, ?_⟩
  · rw [WV_i]; exact partOf_mid _ _ _ rfl (by rw [s1]; kernel_rfl) (by kernel_rfl)
  · rw [WV_r]; exact partOf_mid _ _ _ (by simp [s1]) (by rw [s2]; kernel_rfl) (by kernel_rfl)
  · rw [WV_c]; exact partOf_mid _ _ _ (by simp [s1, s2]) (by rw [s3]; kernel_rfl) (by kernel_rfl)
  · rw [WV_t]; exact partOf_mid _ _ _ (by simp [s1, s2, s3]) (by kernel_rfl) (by kernel_rfl)
  · exact ⟨by rw [WV_size _ _ _ _ _ s1 s2 s3 rfl]; kernel_rfl, WV_one _ _ _ _ _ (MV_one _ _) (MV_one _ _) (MV_one _ _) (by simp [Value.oneCell'])⟩
theorem eql_of {t : TypeId} {x y : Array Value} {r : Bool} (h : ∀ w : World, (Op.equalIn 10000 t (.agg x) (.agg y)).run Try.prog w = .ok r w) : EqlOf t x y r := fun W => by
  rw [run_eql_struct, h W]
  rfl
/-- Two messages: what both comparisons answer. -/
def sameB (ka kb : Int) (ei er ec : Bool) (x1 y1 x2 y2 : Nat) (l1 l2 : List UInt8) : Bool := decide (ka = kb) && ei && er && ec && decide (x1 = x2 ∧ y1 = y2 ∧ l1 = l2)
set_option maxHeartbeats 4000000 in
theorem wireSame_any (Ma Mb : Array Value) (ka kb : Int) (ia ra ca ib rb cb : Array Value) (x1 y1 x2 y2 : Nat) (A1 A2 : Option Addr) (k1 k2 : Nat) (l1 l2 : List UInt8) (ei er ec : Bool) (w0 : World)
    (ha : Parts Ma ka ia ra ca #[.int .u32 (x1 : Int), .int .u64 (y1 : Int), .slice A1 l1.length k1]) (hb : Parts Mb kb ib rb cb #[.int .u32 (x2 : Int), .int .u64 (y2 : Int), .slice A2 l2.length k2])
    (hi : EqlOf 50 ia ib ei) (hr : EqlOf 40 ra rb er) (hc : EqlOf 26 ca cb ec) (h1 : RB w0 (.slice A1 l1.length k1) l1) (h2 : RB w0 (.slice A2 l2.length k2) l2) :
    Calls Try.prog 57 #[.agg Ma, .agg Mb] w0 fun e w' => e = .returned (.bool (sameB ka kb ei er ec x1 y1 x2 y2 l1 l2)) ∧ Below w0.heap.size w0 w' := by
  have CV1 := Lib.hid ha.kd
  have CV2 := Lib.hid hb.kd
  have PT1 := Lib.hid ha.i
  have PT2 := Lib.hid hb.i
  have PT3 := Lib.hid ha.r
  have PT4 := Lib.hid hb.r
  have PT5 := Lib.hid ha.c
  have PT6 := Lib.hid hb.c
  have PT7 := Lib.hid ha.t
  have PT8 := Lib.hid hb.t
  have EQ1 := Lib.hid hi
  have EQ2 := Lib.hid hr
  have EQ3 := Lib.hid hc
  have HCA := Lib.hid ha.cells
  have HCB := Lib.hid hb.cells
  have HR1 := Lib.hid h1
  have HR2 := Lib.hid h2
  clear ha hb hi hr hc h1 h2
  unfold sameB
  by_cases hk : ka = kb
  case neg =>
    rw [decide_eq_false hk]
    simp only [Bool.false_and]
    have HM := Lib.hid (Mem.start w0)
    have HB := HM.out.below
    go_enter Try.func57, Try.ntmps57
    go_wp2_with (first | refine m_rd ?_ | (refine m_wr ?_; clear HM HB; intro w b HM HB; try clear b) | fail)
    go_ret
    exact ⟨rfl, HB⟩
  subst hk
  rw [decide_eq_true (rfl : ka = ka)]
  simp only [Bool.true_and]
  cases ei
  case false =>
    simp only [Bool.false_and]
    have HM := Lib.hid (Mem.start w0)
    have HB := HM.out.below
    go_enter Try.func57, Try.ntmps57
    go_wp2_with (first | refine m_rd ?_ | (refine m_wr ?_; clear HM HB; intro w b HM HB; try clear b) | fail)
    go_ret
    exact ⟨rfl, HB⟩
  simp only [Bool.true_and]
  cases er
  case false =>
    simp only [Bool.false_and]
    have HM := Lib.hid (Mem.start w0)
    have HB := HM.out.below
    go_enter Try.func57, Try.ntmps57
    go_wp2_with (first | refine m_rd ?_ | (refine m_wr ?_; clear HM HB; intro w b HM HB; try clear b) | fail)
    go_ret
    exact ⟨rfl, HB⟩
  simp only [Bool.true_and]
  cases ec
  case false =>
    simp only [Bool.false_and]
    have HM := Lib.hid (Mem.start w0)
    have HB := HM.out.below
    go_enter Try.func57, Try.ntmps57
    go_wp2_with (first | refine m_rd ?_ | (refine m_wr ?_; clear HM HB; intro w b HM HB; try clear b) | fail)
    go_ret
    exact ⟨rfl, HB⟩
  simp only [Bool.true_and]
  generalize hdd : decide (x1 = x2 ∧ y1 = y2 ∧ l1 = l2) = dd
  have HDD := Lib.hid hdd
  clear hdd
  have HM := Lib.hid (Mem.start w0)
  have HB := HM.out.below
  go_enter Try.func57, Try.ntmps57
  go_wp2_with (first | refine m_rd ?_ | (refine m_wr ?_; clear HM HB; intro w b HM HB; try clear b) | fail)
  refine (Da.same_any x1 x2 y1 y2 A1 A2 k1 k2 l1 l2 _ (HR1.out.below HB) (HR2.out.below HB)).mono ?_
  rintro e w ⟨rfl, hb⟩
  replace HM := Lib.hid (HM.out.call hb)
  replace HB := HM.out.below
  clear hb
  rw [HDD.out]
  go_wp2_with (first | refine m_rd ?_ | (refine m_wr ?_; clear HM HB; intro w b HM HB; try clear b) | fail)
  go_ret
  exact ⟨rfl, HB⟩
set_option maxHeartbeats 4000000 in
theorem refSame_any2 (Ma Mb : Array Value) (ka kb : Int) (ia ra ca ib rb cb : Array Value) (x1 y1 x2 y2 : Nat) (A1 A2 : Option Addr) (k1 k2 : Nat) (l1 l2 : List UInt8) (ei er ec : Bool) (w0 : World)
    (ha : Parts Ma ka ia ra ca #[.int .u32 (x1 : Int), .int .u64 (y1 : Int), .slice A1 l1.length k1]) (hb : Parts Mb kb ib rb cb #[.int .u32 (x2 : Int), .int .u64 (y2 : Int), .slice A2 l2.length k2])
    (hi : EqlOf 50 ia ib ei) (hr : EqlOf 40 ra rb er) (hc : EqlOf 26 ca cb ec) (h1 : RB w0 (.slice A1 l1.length k1) l1) (h2 : RB w0 (.slice A2 l2.length k2) l2) :
    Calls Try.prog 54 #[.agg Ma, .agg Mb] w0 fun e w' => e = .returned (.bool (sameB ka kb ei er ec x1 y1 x2 y2 l1 l2)) ∧ Below w0.heap.size w0 w' := by
  have CV1 := Lib.hid ha.kd
  have CV2 := Lib.hid hb.kd
  have PT1 := Lib.hid ha.i
  have PT2 := Lib.hid hb.i
  have PT3 := Lib.hid ha.r
  have PT4 := Lib.hid hb.r
  have PT5 := Lib.hid ha.c
  have PT6 := Lib.hid hb.c
  have PT7 := Lib.hid ha.t
  have PT8 := Lib.hid hb.t
  have EQ1 := Lib.hid hi
  have EQ2 := Lib.hid hr
  have EQ3 := Lib.hid hc
  have HCA := Lib.hid ha.cells
  have HCB := Lib.hid hb.cells
  have HR1 := Lib.hid h1
  have HR2 := Lib.hid h2
  clear ha hb hi hr hc h1 h2
  unfold sameB
  by_cases hk : ka = kb
  case neg =>
    rw [decide_eq_false hk]
    simp only [Bool.false_and]
    have HM := Lib.hid (Mem.start w0)
    have HB := HM.out.below
    go_enter Try.func54, Try.ntmps54
    go_wp2_with (first | refine m_rd ?_ | (refine m_wr ?_; clear HM HB; intro w b HM HB; try clear b) | fail)
    go_ret
    exact ⟨rfl, HB⟩
  subst hk
  rw [decide_eq_true (rfl : ka = ka)]
  simp only [Bool.true_and]
  cases ei
  case false =>
    simp only [Bool.false_and]
    have HM := Lib.hid (Mem.start w0)
    have HB := HM.out.below
    go_enter Try.func54, Try.ntmps54
    go_wp2_with (first | refine m_rd ?_ | (refine m_wr ?_; clear HM HB; intro w b HM HB; try clear b) | fail)
    go_ret
    exact ⟨rfl, HB⟩
  simp only [Bool.true_and]
  cases er
  case false =>
    simp only [Bool.false_and]
    have HM := Lib.hid (Mem.start w0)
    have HB := HM.out.below
    go_enter Try.func54, Try.ntmps54
    go_wp2_with (first | refine m_rd ?_ | (refine m_wr ?_; clear HM HB; intro w b HM HB; try clear b) | fail)
    go_ret
    exact ⟨rfl, HB⟩
  simp only [Bool.true_and]
  cases ec
  case false =>
    simp only [Bool.false_and]
    have HM := Lib.hid (Mem.start w0)
    have HB := HM.out.below
    go_enter Try.func54, Try.ntmps54
    go_wp2_with (first | refine m_rd ?_ | (refine m_wr ?_; clear HM HB; intro w b HM HB; try clear b) | fail)
    go_ret
    exact ⟨rfl, HB⟩
  simp only [Bool.true_and]
  generalize hdd : decide (x1 = x2 ∧ y1 = y2 ∧ l1 = l2) = dd
  have HDD := Lib.hid hdd
  clear hdd
  have HM := Lib.hid (Mem.start w0)
  have HB := HM.out.below
  go_enter Try.func54, Try.ntmps54
  go_wp2_with (first | refine m_rd ?_ | (refine m_wr ?_; clear HM HB; intro w b HM HB; try clear b) | fail)
  refine (Da.refSame_any x1 x2 y1 y2 A1 A2 k1 k2 l1 l2 _ (HR1.out.below HB) (HR2.out.below HB)).mono ?_
  rintro e w ⟨rfl, hb⟩
  replace HM := Lib.hid (HM.out.call hb)
  replace HB := HM.out.below
  clear hb
  rw [HDD.out]
  go_wp2_with (first | refine m_rd ?_ | (refine m_wr ?_; clear HM HB; intro w b HM HB; try clear b) | fail)
  go_ret
  exact ⟨rfl, HB⟩

/-- Whom a message is for. -/
def recvN (kd : Int) (m2 n3 x : Nat) : Nat := if kd = 2 then m2 else if kd = 3 then n3 else if kd = 4 then x else 0
def recvB (kd : Int) : Bool := decide (2 ≤ kd ∧ kd ≤ 4)
def nameB (kd : Int) : ByteArray := if kd = 1 then ⟨#[105, 110, 105, 116, 105, 97, 116, 105, 111, 110]⟩ else if kd = 2 then ⟨#[114, 101, 115, 112, 111, 110, 115, 101]⟩ else if kd = 3 then ⟨#[99, 111, 111, 107, 105, 101]⟩ else if kd = 4 then ⟨#[100, 97, 116, 97]⟩ else ⟨#[]⟩
theorem name_any (kd : Int) (w : World) : Calls Try.prog 56 #[.int .i64 kd] w fun e w' => e = .returned (.string (nameB kd)) ∧ w = w' := by
  unfold nameB
  by_cases h1 : kd = 1
  · subst h1
    rw [if_pos rfl]
    go_enter Try.func56, Try.ntmps56
    go_wp2
    go_ret
    exact ⟨rfl, rfl⟩
  by_cases h2 : kd = 2
  · subst h2
    rw [if_neg (by decide), if_pos rfl]
    clear h1
    go_enter Try.func56, Try.ntmps56
    go_wp2
    go_ret
    exact ⟨rfl, rfl⟩
  by_cases h3 : kd = 3
  · subst h3
    rw [if_neg (by decide), if_neg (by decide), if_pos rfl]
    clear h1 h2
    go_enter Try.func56, Try.ntmps56
    go_wp2
    go_ret
    exact ⟨rfl, rfl⟩
  by_cases h4 : kd = 4
  · subst h4
    rw [if_neg (by decide), if_neg (by decide), if_neg (by decide), if_pos rfl]
    clear h1 h2 h3
    go_enter Try.func56, Try.ntmps56
    go_wp2
    go_ret
    exact ⟨rfl, rfl⟩
  rw [if_neg h1, if_neg h2, if_neg h3, if_neg h4]
  go_enter Try.func56, Try.ntmps56
  go_wp2
  go_ret
  exact ⟨rfl, rfl⟩
/-- The cells of a message that tell whom it is for. -/
structure Recvs (M : Array Value) (kd : Int) (m2 n3 x : Nat) : Prop where
  kd : M[0]? = some (.int .i64 kd)
  m2 : M[143]? = some (.int .u32 (m2 : Int))
  n3 : M[224]? = some (.int .u32 (n3 : Int))
  x : M[281]? = some (.int .u32 (x : Int))
  cells : Cells 87 M
theorem Parts.recvs {M : Array Value} {kd : Int} {i : Array Value} {n2 m2 : Nat} {L2 : List UInt8} {n3 : Nat} {L3 : List UInt8} {x y : Nat} {v : Value} (h : Parts M kd i (MV [n2, m2] L2) (MV [n3] L3) #[.int .u32 (x : Int), .int .u64 (y : Int), v]) : Recvs M kd m2 n3 x :=
  ⟨h.kd, h.r.1 1 _ (by rw [Array.getElem?_toList]; exact MV_num1 _ _ _ _), h.c.1 0 _ (by rw [Array.getElem?_toList]; exact MV_num _ _ _), h.t.1 0 _ rfl, h.cells⟩
theorem recv_any (M : Array Value) (kd : Int) (m2 n3 x : Nat) (w0 : World) (h : Recvs M kd m2 n3 x) :
    Calls Try.prog 55 #[.agg M] w0 fun e w' => e = .returned (.tuple #[.int .u32 (recvN kd m2 n3 x : Int), .bool (recvB kd)]) ∧ Below w0.heap.size w0 w' := by
  have CV1 := Lib.hid h.kd
  have CV2 := Lib.hid h.m2
  have CV3 := Lib.hid h.n3
  have CV4 := Lib.hid h.x
  have HC := Lib.hid h.cells
  clear h
  unfold recvN recvB
  by_cases h2 : kd = 2
  · subst h2
    rw [if_pos rfl, decide_eq_true (by decide)]
    have HM := Lib.hid (Mem.start w0)
    have HB := HM.out.below
    go_enter Try.func55, Try.ntmps55
    go_wp2_with (first | refine m_rd ?_ | (refine m_wr ?_; clear HM HB; intro w b HM HB; try clear b) | fail)
    go_ret2
    exact ⟨rfl, HB⟩
  by_cases h3 : kd = 3
  · subst h3
    rw [if_neg (by decide), if_pos rfl, decide_eq_true (by decide)]
    clear h2
    have HM := Lib.hid (Mem.start w0)
    have HB := HM.out.below
    go_enter Try.func55, Try.ntmps55
    go_wp2_with (first | refine m_rd ?_ | (refine m_wr ?_; clear HM HB; intro w b HM HB; try clear b) | fail)
    go_ret2
    exact ⟨rfl, HB⟩
  by_cases h4 : kd = 4
  · subst h4
    rw [if_neg (by decide), if_neg (by decide), if_pos rfl, decide_eq_true (by decide)]
    clear h2 h3
    have HM := Lib.hid (Mem.start w0)
    have HB := HM.out.below
    go_enter Try.func55, Try.ntmps55
    go_wp2_with (first | refine m_rd ?_ | (refine m_wr ?_; clear HM HB; intro w b HM HB; try clear b) | fail)
    go_ret2
    exact ⟨rfl, HB⟩
  rw [if_neg h2, if_neg h3, if_neg h4, decide_eq_false (by omega)]
  have HM := Lib.hid (Mem.start w0)
  have HB := HM.out.below
  go_enter Try.func55, Try.ntmps55
  go_wp2_with (first | refine m_rd ?_ | (refine m_wr ?_; clear HM HB; intro w b HM HB; try clear b) | fail)
  go_ret2
  exact ⟨rfl, HB⟩
end Go.Proofs.Ytnehbhhjdjiieaa.Wm
