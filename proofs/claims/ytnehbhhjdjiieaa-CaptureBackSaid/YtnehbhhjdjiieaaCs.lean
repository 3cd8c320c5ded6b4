/- The document's layer 55: numbers, the front of a file, the bytes of records. -/
import Derived.Test.YtnehbhhjdjiieaaCr
set_option linter.unusedSimpArgs false
set_option linter.unusedVariables false
set_option maxRecDepth 100000
namespace Go.Proofs.Ytnehbhhjdjiieaa.Cp
open Go.RowKit Go.Proofs.YtnehbhhjdjiieaaW.PrintWords Go.Proofs.Ytnehbhhjdjiieaa.Bs Go.Proofs.Ytnehbhhjdjiieaa.Gm Go.Proofs.Ytnehbhhjdjiieaa.Le Go.Proofs.Ytnehbhhjdjiieaa.En
open Go.Proofs.Ytnehbhhjdjiieaa.Mv (flat flat_snoc flat_length)

theorem refPut_any (n s : Nat) (big : Bool) (w0 : World) (hn : n < 18446744073709551616) (h1 : 1 ≤ s) (h8 : s ≤ 8) (h : s < 8 → n < pw s) :
    Calls Try.prog 74 #[.int .u64 n, .int .i64 s, .bool big] w0 (Row w0 (num big s n)) := by
  have HC := Lib.hid (fun w : World => put_any n s w hn h1 h8 h)
  have HR : Hid (∀ w v, RB w v (leB s n) → Calls Try.prog 84 #[v] w (Row w (leB s n).reverse)) := Lib.hid (fun w v hr => reversed_any v (leB s n) w hr (by rw [leB_length]; omega))
  clear hn h1 h8 h
  have HM := Lib.hid (Mem.start w0)
  have HB := HM.out.below
  cases big
  · go_enter Try.func74, Try.ntmps74
    go_wp2_with fail
    refine (HC.out _).mono ?_
    rintro e w ⟨u, rfl, ho, hb⟩
    replace HM := Lib.hid (HM.out.row8 hb ho)
    replace HB := HM.out.below
    clear ho hb
    go_wp2_with fail
    go_ret
    exact ⟨_, rfl, HM.out.ob (List.Mem.head _), HB⟩
  · go_enter Try.func74, Try.ntmps74
    go_wp2_with fail
    refine (HC.out _).mono ?_
    rintro e w ⟨u, rfl, ho, hb⟩
    replace HM := Lib.hid (HM.out.row8 hb ho)
    replace HB := HM.out.below
    clear ho hb
    go_wp2_with fail
    refine (HR.out _ _ (HM.out.rb (List.Mem.head _))).mono ?_
    rintro e w ⟨u2, rfl, ho, hb⟩
    replace HM := Lib.hid (HM.out.row8 hb ho)
    replace HB := HM.out.below
    clear ho hb
    go_wp2_with fail
    go_ret
    exact ⟨_, rfl, HM.out.ob (List.Mem.head _), HB⟩
theorem refHead_any (big : Bool) (w0 : World) : Calls Try.prog 73 #[.bool big] w0 (Row w0 (headB big)) := by
  have HP : Hid (∀ (n s : Nat) (w : World), n < 18446744073709551616 → 1 ≤ s → s ≤ 8 → (s < 8 → n < pw s) → Calls Try.prog 74 #[.int .u64 n, .int .i64 s, .bool big] w (Row w (num big s n))) := Lib.hid (fun n s w a b c d => refPut_any n s big w a b c d)
  have HM := Lib.hid (Mem.start w0)
  have HB := HM.out.below
  go_enter Try.func73, Try.ntmps73
  go_wp2_with fail
  refine (HP.out 2712847316 4 _ (by decide) (by decide) (by decide) (fun _ => by unfold pw; decide)).mono ?_
  rintro e w ⟨u, rfl, ho, hb⟩
  replace HM := Lib.hid (HM.out.row8 hb ho)
  replace HB := HM.out.below
  clear ho hb
  go_wp2_with fail
  refine (HP.out 2 2 _ (by decide) (by decide) (by decide) (fun _ => by unfold pw; decide)).mono ?_
  rintro e w ⟨u6, rfl, ho, hb⟩
  replace HM := Lib.hid (HM.out.row8 hb ho)
  replace HB := HM.out.below
  clear ho hb
  have HN1 : Hid (((num big 4 2712847316)).length + (num big 2 2).length = 6) := Lib.hid (by simp only [List.length_append, num_length])
  have HL1 : Hid (6 * R8.bytes ≤ 140737488355328) := Lib.hid (by decide)
  go_wp2_with (first | (refine m_wx ?_ HM (Wx.app law8 rfl (by first | (go_simp; with_reducible rfl) | rfl) (by first | (go_simp; with_reducible rfl) | rfl) (by (first | ((repeat (first | with_reducible exact Del.head _ | with_reducible apply Del.tail)); done) | ((repeat (first | exact Del.head _ | apply Del.tail)); done))) (by intro w hm; first | with_reducible exact HR1.out.below hm.below | with_reducible exact HR2.out.below hm.below | exact hm.rw_ law8 (by (first | ((repeat (first | with_reducible exact List.Mem.head _ | with_reducible apply List.Mem.tail)); done) | ((repeat (first | exact List.Mem.head _ | apply List.Mem.tail)); done))) | exact HR1.out.below hm.below | exact HR2.out.below hm.below) (by first | exact HN1.out | exact HN2.out | exact HN3.out | exact HN4.out) (by first | exact HL1.out | exact HL2.out)) (wanted_none rfl); clear HM HB; rintro w ⟨Aq, cq⟩ HM HB) | refine m_rd ?_ | (refine m_wr ?_; clear HM HB; intro w b HM HB; try clear b) | fail)
  clear HN1 HL1
  replace HM := Lib.hid (HM.out.sub (show List.Sublist [_] _ by exact List.Sublist.cons_cons _ (List.nil_sublist _)))
  go_wp2_with fail
  refine (HP.out 4 2 _ (by decide) (by decide) (by decide) (fun _ => by unfold pw; decide)).mono ?_
  rintro e w ⟨u8, rfl, ho, hb⟩
  replace HM := Lib.hid (HM.out.row8 hb ho)
  replace HB := HM.out.below
  clear ho hb
  have HN1 : Hid (((num big 4 2712847316 ++ num big 2 2)).length + (num big 2 4).length = 8) := Lib.hid (by simp only [List.length_append, num_length])
  have HL1 : Hid (8 * R8.bytes ≤ 140737488355328) := Lib.hid (by decide)
  go_wp2_with (first | (refine m_wx ?_ HM (Wx.app law8 rfl (by first | (go_simp; with_reducible rfl) | rfl) (by first | (go_simp; with_reducible rfl) | rfl) (by (first | ((repeat (first | with_reducible exact Del.head _ | with_reducible apply Del.tail)); done) | ((repeat (first | exact Del.head _ | apply Del.tail)); done))) (by intro w hm; first | with_reducible exact HR1.out.below hm.below | with_reducible exact HR2.out.below hm.below | exact hm.rw_ law8 (by (first | ((repeat (first | with_reducible exact List.Mem.head _ | with_reducible apply List.Mem.tail)); done) | ((repeat (first | exact List.Mem.head _ | apply List.Mem.tail)); done))) | exact HR1.out.below hm.below | exact HR2.out.below hm.below) (by first | exact HN1.out | exact HN2.out | exact HN3.out | exact HN4.out) (by first | exact HL1.out | exact HL2.out)) (wanted_none rfl); clear HM HB; rintro w ⟨Aq, cq⟩ HM HB) | refine m_rd ?_ | (refine m_wr ?_; clear HM HB; intro w b HM HB; try clear b) | fail)
  clear HN1 HL1
  replace HM := Lib.hid (HM.out.sub (show List.Sublist [_] _ by exact List.Sublist.cons_cons _ (List.nil_sublist _)))
  go_wp2_with fail
  refine (HP.out 0 4 _ (by decide) (by decide) (by decide) (fun _ => by unfold pw; decide)).mono ?_
  rintro e w ⟨u12, rfl, ho, hb⟩
  replace HM := Lib.hid (HM.out.row8 hb ho)
  replace HB := HM.out.below
  clear ho hb
  have HN1 : Hid (((num big 4 2712847316 ++ num big 2 2 ++ num big 2 4)).length + (num big 4 0).length = 12) := Lib.hid (by simp only [List.length_append, num_length])
  have HL1 : Hid (12 * R8.bytes ≤ 140737488355328) := Lib.hid (by decide)
  go_wp2_with (first | (refine m_wx ?_ HM (Wx.app law8 rfl (by first | (go_simp; with_reducible rfl) | rfl) (by first | (go_simp; with_reducible rfl) | rfl) (by (first | ((repeat (first | with_reducible exact Del.head _ | with_reducible apply Del.tail)); done) | ((repeat (first | exact Del.head _ | apply Del.tail)); done))) (by intro w hm; first | with_reducible exact HR1.out.below hm.below | with_reducible exact HR2.out.below hm.below | exact hm.rw_ law8 (by (first | ((repeat (first | with_reducible exact List.Mem.head _ | with_reducible apply List.Mem.tail)); done) | ((repeat (first | exact List.Mem.head _ | apply List.Mem.tail)); done))) | exact HR1.out.below hm.below | exact HR2.out.below hm.below) (by first | exact HN1.out | exact HN2.out | exact HN3.out | exact HN4.out) (by first | exact HL1.out | exact HL2.out)) (wanted_none rfl); clear HM HB; rintro w ⟨Aq, cq⟩ HM HB) | refine m_rd ?_ | (refine m_wr ?_; clear HM HB; intro w b HM HB; try clear b) | fail)
  clear HN1 HL1
  replace HM := Lib.hid (HM.out.sub (show List.Sublist [_] _ by exact List.Sublist.cons_cons _ (List.nil_sublist _)))
  go_wp2_with fail
  refine (HP.out 0 4 _ (by decide) (by decide) (by decide) (fun _ => by unfold pw; decide)).mono ?_
  rintro e w ⟨u16, rfl, ho, hb⟩
  replace HM := Lib.hid (HM.out.row8 hb ho)
  replace HB := HM.out.below
  clear ho hb
  have HN1 : Hid (((num big 4 2712847316 ++ num big 2 2 ++ num big 2 4 ++ num big 4 0)).length + (num big 4 0).length = 16) := Lib.hid (by simp only [List.length_append, num_length])
  have HL1 : Hid (16 * R8.bytes ≤ 140737488355328) := Lib.hid (by decide)
  go_wp2_with (first | (refine m_wx ?_ HM (Wx.app law8 rfl (by first | (go_simp; with_reducible rfl) | rfl) (by first | (go_simp; with_reducible rfl) | rfl) (by (first | ((repeat (first | with_reducible exact Del.head _ | with_reducible apply Del.tail)); done) | ((repeat (first | exact Del.head _ | apply Del.tail)); done))) (by intro w hm; first | with_reducible exact HR1.out.below hm.below | with_reducible exact HR2.out.below hm.below | exact hm.rw_ law8 (by (first | ((repeat (first | with_reducible exact List.Mem.head _ | with_reducible apply List.Mem.tail)); done) | ((repeat (first | exact List.Mem.head _ | apply List.Mem.tail)); done))) | exact HR1.out.below hm.below | exact HR2.out.below hm.below) (by first | exact HN1.out | exact HN2.out | exact HN3.out | exact HN4.out) (by first | exact HL1.out | exact HL2.out)) (wanted_none rfl); clear HM HB; rintro w ⟨Aq, cq⟩ HM HB) | refine m_rd ?_ | (refine m_wr ?_; clear HM HB; intro w b HM HB; try clear b) | fail)
  clear HN1 HL1
  replace HM := Lib.hid (HM.out.sub (show List.Sublist [_] _ by exact List.Sublist.cons_cons _ (List.nil_sublist _)))
  go_wp2_with fail
  refine (HP.out 65535 4 _ (by decide) (by decide) (by decide) (fun _ => by unfold pw; decide)).mono ?_
  rintro e w ⟨u20, rfl, ho, hb⟩
  replace HM := Lib.hid (HM.out.row8 hb ho)
  replace HB := HM.out.below
  clear ho hb
  have HN1 : Hid (((num big 4 2712847316 ++ num big 2 2 ++ num big 2 4 ++ num big 4 0 ++ num big 4 0)).length + (num big 4 65535).length = 20) := Lib.hid (by simp only [List.length_append, num_length])
  have HL1 : Hid (20 * R8.bytes ≤ 140737488355328) := Lib.hid (by decide)
  go_wp2_with (first | (refine m_wx ?_ HM (Wx.app law8 rfl (by first | (go_simp; with_reducible rfl) | rfl) (by first | (go_simp; with_reducible rfl) | rfl) (by (first | ((repeat (first | with_reducible exact Del.head _ | with_reducible apply Del.tail)); done) | ((repeat (first | exact Del.head _ | apply Del.tail)); done))) (by intro w hm; first | with_reducible exact HR1.out.below hm.below | with_reducible exact HR2.out.below hm.below | exact hm.rw_ law8 (by (first | ((repeat (first | with_reducible exact List.Mem.head _ | with_reducible apply List.Mem.tail)); done) | ((repeat (first | exact List.Mem.head _ | apply List.Mem.tail)); done))) | exact HR1.out.below hm.below | exact HR2.out.below hm.below) (by first | exact HN1.out | exact HN2.out | exact HN3.out | exact HN4.out) (by first | exact HL1.out | exact HL2.out)) (wanted_none rfl); clear HM HB; rintro w ⟨Aq, cq⟩ HM HB) | refine m_rd ?_ | (refine m_wr ?_; clear HM HB; intro w b HM HB; try clear b) | fail)
  clear HN1 HL1
  replace HM := Lib.hid (HM.out.sub (show List.Sublist [_] _ by exact List.Sublist.cons_cons _ (List.nil_sublist _)))
  go_wp2_with fail
  refine (HP.out 101 4 _ (by decide) (by decide) (by decide) (fun _ => by unfold pw; decide)).mono ?_
  rintro e w ⟨u24, rfl, ho, hb⟩
  replace HM := Lib.hid (HM.out.row8 hb ho)
  replace HB := HM.out.below
  clear ho hb
  have HN1 : Hid (((num big 4 2712847316 ++ num big 2 2 ++ num big 2 4 ++ num big 4 0 ++ num big 4 0 ++ num big 4 65535)).length + (num big 4 101).length = 24) := Lib.hid (by simp only [List.length_append, num_length])
  have HL1 : Hid (24 * R8.bytes ≤ 140737488355328) := Lib.hid (by decide)
  go_wp2_with (first | (refine m_wx ?_ HM (Wx.app law8 rfl (by first | (go_simp; with_reducible rfl) | rfl) (by first | (go_simp; with_reducible rfl) | rfl) (by (first | ((repeat (first | with_reducible exact Del.head _ | with_reducible apply Del.tail)); done) | ((repeat (first | exact Del.head _ | apply Del.tail)); done))) (by intro w hm; first | with_reducible exact HR1.out.below hm.below | with_reducible exact HR2.out.below hm.below | exact hm.rw_ law8 (by (first | ((repeat (first | with_reducible exact List.Mem.head _ | with_reducible apply List.Mem.tail)); done) | ((repeat (first | exact List.Mem.head _ | apply List.Mem.tail)); done))) | exact HR1.out.below hm.below | exact HR2.out.below hm.below) (by first | exact HN1.out | exact HN2.out | exact HN3.out | exact HN4.out) (by first | exact HL1.out | exact HL2.out)) (wanted_none rfl); clear HM HB; rintro w ⟨Aq, cq⟩ HM HB) | refine m_rd ?_ | (refine m_wr ?_; clear HM HB; intro w b HM HB; try clear b) | fail)
  clear HN1 HL1
  replace HM := Lib.hid (HM.out.sub (show List.Sublist [_] _ by exact List.Sublist.cons_cons _ (List.nil_sublist _)))
  go_ret
  exact ⟨_, rfl, HM.out.ob (List.Mem.head _), HB⟩
def contB (big : Bool) (l : List RV) (i : Nat) : List UInt8 := headB big ++ recsB big ((l.take i).map (·.r))
theorem contB_step (big : Bool) (l : List RV) (i : Nat) (p : RV) (h : l[i]? = some p) : contB big l i ++ num big 4 p.r.s ++ num big 4 p.r.u ++ num big 4 p.r.d.length ++ num big 4 p.r.z ++ p.r.d = contB big l (i + 1) := by
  unfold contB
  rw [List.take_add_one, h]
  simp [recsB, recB]
theorem contB_len (big : Bool) (l : List RV) (h : ∀ p ∈ l, rightR p.r = true) : ∀ i, (contB big l i).length ≤ 24 + 65551 * i
  | 0 => by
    show (headB big ++ []).length ≤ _
    rw [List.append_nil, headB_length]; omega
  | i + 1 => by
    have ih := contB_len big l h i
    by_cases hi : i < l.length
    · have hp : l[i]? = some l[i] := by simp [hi]
      have hd := right_le (h l[i] (by simp))
      rw [← contB_step big l i _ hp]
      simp only [List.length_append, num_length]
      omega
    · unfold contB at ih ⊢
      rw [List.take_of_length_le (by omega)] at ih ⊢
      omega
theorem zeroD : ZeroOf 75 #[.int .u32 0, .int .u32 0, .int .u32 0, .slice none 0 0] := ⟨fun W => zero_of (by kernel_rfl) W, by kernel_rfl, by simp [Value.oneCell']⟩
theorem cellsD (p : RV) : Cells 75 (encV p) := ⟨by kernel_rfl, oneV p⟩
set_option maxHeartbeats 1000000 in
theorem refBytes_any (big : Bool) (A : Option Addr) (c : Nat) (l : List RV) (w0 : World) (hr : RW RD w0 (.slice A l.length c) l) (hd : ∀ p ∈ l, p.r.fits ∧ rightR p.r = true ∧ RB w0 (.slice p.A p.r.d.length p.c) p.r.d) (hl : l.length ≤ 1000) :
    Calls Try.prog 46 #[.slice A l.length c, .bool big] w0 (Row w0 (headB big ++ recsB big (l.map (·.r)))) := by
  have HR := Lib.hid hr
  have HD := Lib.hid hd
  have HP : Hid (∀ (n s : Nat) (w : World), n < 18446744073709551616 → 1 ≤ s → s ≤ 8 → (s < 8 → n < pw s) → Calls Try.prog 74 #[.int .u64 n, .int .i64 s, .bool big] w (Row w (num big s n))) := Lib.hid (fun n s w a b c d => refPut_any n s big w a b c d)
  have HH : Hid (∀ w, Calls Try.prog 73 #[.bool big] w (Row w (headB big))) := Lib.hid (fun w => refHead_any big w)
  clear hr hd
  have HM := Lib.hid (Mem.start w0)
  have HB := HM.out.below
  go_enter Try.func46, Try.ntmps46
  go_wp2_with fail
  refine (HH.out _).mono ?_
  rintro e w ⟨u, rfl, ho, hb⟩
  replace HM := Lib.hid (HM.out.row8 hb ho)
  replace HB := HM.out.below
  clear ho hb
  go_wp2_with fail
  go_loopw [5, 6] (fun v5 v6 wr => ∃ i A' c' m, i ≤ l.length ∧ v5 = .slice A' m c' ∧ v6 = .int .i64 (i : Nat) ∧ Hid ((contB big l i).length = m) ∧ HMem w0 wr (rowE R8 (.slice A' m c') (contB big l i) :: [])) (fun _ v6 _ => l.length - (intOf v6).toNat)
  case atStart =>
    obtain ⟨A1, c1, rfl, _⟩ := HM.out.rb (List.Mem.head _)
    have e : contB big l 0 = headB big := List.append_nil _
    exact ⟨0, A1, c1, _, Nat.zero_le _, rfl, rfl, Lib.hid (by rw [e]), by rw [e]; exact HM⟩
  case round =>
    clear HM HB
    obtain ⟨i, A', c', m, hi, rfl, rfl, HLM, HM⟩ := hrel
    have HB := HM.out.below
    by_cases hlt : i < l.length
    · obtain ⟨p, hp⟩ : ∃ p, l[i]? = some p := ⟨l[i], by simp [hlt]⟩
      obtain ⟨ad, rfl, hra⟩ := HR.out.elem lawD hp
      obtain ⟨hf, hrt, hrb⟩ := HD.out p (List.mem_of_getElem? hp)
      have HE0 : Hid (∀ W, Below w0.heap.size w0 W → W.cell? (ad.add (i * 4)) = some (.int .u32 (p.r.s : Int))) := Lib.hid (fun W hb => hra.below hb 0 _ rfl)
      have HE1 : Hid (∀ W, Below w0.heap.size w0 W → W.cell? ((ad.add (i * 4)).add 1) = some (.int .u32 (p.r.u : Int))) := Lib.hid (fun W hb => hra.below hb 1 _ rfl)
      have HE2 : Hid (∀ W, Below w0.heap.size w0 W → W.cell? ((ad.add (i * 4)).add 2) = some (.int .u32 (p.r.z : Int))) := Lib.hid (fun W hb => hra.below hb 2 _ rfl)
      have HE3 : Hid (∀ W, Below w0.heap.size w0 W → W.cell? ((ad.add (i * 4)).add 3) = some (.slice p.A p.r.d.length p.c)) := Lib.hid (fun W hb => hra.below hb 3 _ rfl)
      have q4 := right_le hrt
      have g1 : (p.r.s : Int) < 4294967296 := by have := hf.1; omega
      have g2 : (p.r.u : Int) < 4294967296 := by have := hf.2.1; omega
      have g3 : (p.r.z : Int) < 4294967296 := by have := hf.2.2; omega
      have g4 : (p.r.d.length : Int) < 4294967296 := by omega
      have HF1 : Hid (p.r.s < 4294967296) := Lib.hid hf.1
      have HF2 : Hid (p.r.u < 4294967296) := Lib.hid hf.2.1
      have HF3 : Hid (p.r.z < 4294967296) := Lib.hid hf.2.2
      have HF4 : Hid (p.r.d.length < 4294967296) := Lib.hid (by omega)
      have HSTP := Lib.hid (contB_step big l i p hp)
      have HB1 := Lib.hid (contB_len big l (fun p hp => (HD.out p hp).2.1) i)
      have HB2 := Lib.hid (contB_len big l (fun p hp => (HD.out p hp).2.1) (i + 1))
      have HR1 : Hid (RW R8 w0 (.slice p.A p.r.d.length p.c) p.r.d) := Lib.hid (rw8.1 hrb)
      clear hra hrb hf hp hrt q4
      go_wp2_with (first | (refine m_rd ?_ HM (Rd.fact rfl (by kernel_rfl) rfl (fun w hm => HE0.out w hm.below))) | (refine m_rd ?_ HM (Rd.fact rfl (by kernel_rfl) rfl (fun w hm => HE1.out w hm.below))) | (refine m_rd ?_ HM (Rd.fact rfl (by kernel_rfl) rfl (fun w hm => HE2.out w hm.below))) | (refine m_rd ?_ HM (Rd.fact rfl (by kernel_rfl) rfl (fun w hm => HE3.out w hm.below))) | refine m_rd ?_ | (refine m_wr ?_; clear HM HB; intro w b HM HB; try clear b) | fail)
      refine (HP.out p.r.s 4 _ (by have := HF1.out; omega) (by decide) (by decide) (fun _ => by unfold pw; have := HF1.out; omega)).mono ?_
      rintro e w ⟨u1, rfl, ho, hb⟩
      replace HM := Lib.hid (HM.out.row8 hb ho)
      replace HB := HM.out.below
      clear ho hb
      obtain ⟨m2, HLM2⟩ : ∃ m2, Hid (((contB big l i) ++ num big 4 p.r.s).length = m2) := ⟨_, Lib.hid rfl⟩
      have HN1 : Hid (((contB big l i)).length + (num big 4 p.r.s).length = m2) := Lib.hid (by rw [← HLM2.out]; simp only [List.length_append, num_length])
      have HL1 : Hid (m2 * R8.bytes ≤ 140737488355328) := Lib.hid (by have := HB1.out; rw [← HLM2.out]; simp only [List.length_append, num_length, R8]; omega)
      go_wp2_with (first | (refine m_rd ?_ HM (Rd.fact rfl (by kernel_rfl) rfl (fun w hm => HE0.out w hm.below))) | (refine m_rd ?_ HM (Rd.fact rfl (by kernel_rfl) rfl (fun w hm => HE1.out w hm.below))) | (refine m_rd ?_ HM (Rd.fact rfl (by kernel_rfl) rfl (fun w hm => HE2.out w hm.below))) | (refine m_rd ?_ HM (Rd.fact rfl (by kernel_rfl) rfl (fun w hm => HE3.out w hm.below))) | (refine m_wx ?_ HM (Wx.app law8 rfl (by first | (go_simp; with_reducible rfl) | rfl) (by first | (go_simp; with_reducible rfl) | rfl) (by (first | ((repeat (first | with_reducible exact Del.head _ | with_reducible apply Del.tail)); done) | ((repeat (first | exact Del.head _ | apply Del.tail)); done))) (by intro w hm; first | with_reducible exact HR1.out.below hm.below | with_reducible exact HR2.out.below hm.below | exact hm.rw_ law8 (by (first | ((repeat (first | with_reducible exact List.Mem.head _ | with_reducible apply List.Mem.tail)); done) | ((repeat (first | exact List.Mem.head _ | apply List.Mem.tail)); done))) | exact HR1.out.below hm.below | exact HR2.out.below hm.below) (by first | exact HN1.out | exact HN2.out | exact HN3.out | exact HN4.out) (by first | exact HL1.out | exact HL2.out)) (wanted_none rfl); clear HM HB; rintro w ⟨Aq, cq⟩ HM HB) | refine m_rd ?_ | (refine m_wr ?_; clear HM HB; intro w b HM HB; try clear b) | fail)
      clear HN1 HL1 HLM2
      replace HM := Lib.hid (HM.out.sub (show List.Sublist [_] _ by exact List.Sublist.cons_cons _ (List.nil_sublist _)))
      refine (HP.out p.r.u 4 _ (by have := HF2.out; omega) (by decide) (by decide) (fun _ => by unfold pw; have := HF2.out; omega)).mono ?_
      rintro e w ⟨u2, rfl, ho, hb⟩
      replace HM := Lib.hid (HM.out.row8 hb ho)
      replace HB := HM.out.below
      clear ho hb
      obtain ⟨m2, HLM2⟩ : ∃ m2, Hid (((contB big l i ++ num big 4 p.r.s) ++ num big 4 p.r.u).length = m2) := ⟨_, Lib.hid rfl⟩
      have HN1 : Hid (((contB big l i ++ num big 4 p.r.s)).length + (num big 4 p.r.u).length = m2) := Lib.hid (by rw [← HLM2.out]; simp only [List.length_append, num_length])
      have HL1 : Hid (m2 * R8.bytes ≤ 140737488355328) := Lib.hid (by have := HB1.out; rw [← HLM2.out]; simp only [List.length_append, num_length, R8]; omega)
      go_wp2_with (first | (refine m_rd ?_ HM (Rd.fact rfl (by kernel_rfl) rfl (fun w hm => HE0.out w hm.below))) | (refine m_rd ?_ HM (Rd.fact rfl (by kernel_rfl) rfl (fun w hm => HE1.out w hm.below))) | (refine m_rd ?_ HM (Rd.fact rfl (by kernel_rfl) rfl (fun w hm => HE2.out w hm.below))) | (refine m_rd ?_ HM (Rd.fact rfl (by kernel_rfl) rfl (fun w hm => HE3.out w hm.below))) | (refine m_wx ?_ HM (Wx.app law8 rfl (by first | (go_simp; with_reducible rfl) | rfl) (by first | (go_simp; with_reducible rfl) | rfl) (by (first | ((repeat (first | with_reducible exact Del.head _ | with_reducible apply Del.tail)); done) | ((repeat (first | exact Del.head _ | apply Del.tail)); done))) (by intro w hm; first | with_reducible exact HR1.out.below hm.below | with_reducible exact HR2.out.below hm.below | exact hm.rw_ law8 (by (first | ((repeat (first | with_reducible exact List.Mem.head _ | with_reducible apply List.Mem.tail)); done) | ((repeat (first | exact List.Mem.head _ | apply List.Mem.tail)); done))) | exact HR1.out.below hm.below | exact HR2.out.below hm.below) (by first | exact HN1.out | exact HN2.out | exact HN3.out | exact HN4.out) (by first | exact HL1.out | exact HL2.out)) (wanted_none rfl); clear HM HB; rintro w ⟨Aq, cq⟩ HM HB) | refine m_rd ?_ | (refine m_wr ?_; clear HM HB; intro w b HM HB; try clear b) | fail)
      clear HN1 HL1 HLM2
      replace HM := Lib.hid (HM.out.sub (show List.Sublist [_] _ by exact List.Sublist.cons_cons _ (List.nil_sublist _)))
      refine (HP.out p.r.d.length 4 _ (by have := HF4.out; omega) (by decide) (by decide) (fun _ => by unfold pw; have := HF4.out; omega)).mono ?_
      rintro e w ⟨u3, rfl, ho, hb⟩
      replace HM := Lib.hid (HM.out.row8 hb ho)
      replace HB := HM.out.below
      clear ho hb
      obtain ⟨m2, HLM2⟩ : ∃ m2, Hid (((contB big l i ++ num big 4 p.r.s ++ num big 4 p.r.u) ++ num big 4 p.r.d.length).length = m2) := ⟨_, Lib.hid rfl⟩
      have HN1 : Hid (((contB big l i ++ num big 4 p.r.s ++ num big 4 p.r.u)).length + (num big 4 p.r.d.length).length = m2) := Lib.hid (by rw [← HLM2.out]; simp only [List.length_append, num_length])
      have HL1 : Hid (m2 * R8.bytes ≤ 140737488355328) := Lib.hid (by have := HB1.out; rw [← HLM2.out]; simp only [List.length_append, num_length, R8]; omega)
      go_wp2_with (first | (refine m_rd ?_ HM (Rd.fact rfl (by kernel_rfl) rfl (fun w hm => HE0.out w hm.below))) | (refine m_rd ?_ HM (Rd.fact rfl (by kernel_rfl) rfl (fun w hm => HE1.out w hm.below))) | (refine m_rd ?_ HM (Rd.fact rfl (by kernel_rfl) rfl (fun w hm => HE2.out w hm.below))) | (refine m_rd ?_ HM (Rd.fact rfl (by kernel_rfl) rfl (fun w hm => HE3.out w hm.below))) | (refine m_wx ?_ HM (Wx.app law8 rfl (by first | (go_simp; with_reducible rfl) | rfl) (by first | (go_simp; with_reducible rfl) | rfl) (by (first | ((repeat (first | with_reducible exact Del.head _ | with_reducible apply Del.tail)); done) | ((repeat (first | exact Del.head _ | apply Del.tail)); done))) (by intro w hm; first | with_reducible exact HR1.out.below hm.below | with_reducible exact HR2.out.below hm.below | exact hm.rw_ law8 (by (first | ((repeat (first | with_reducible exact List.Mem.head _ | with_reducible apply List.Mem.tail)); done) | ((repeat (first | exact List.Mem.head _ | apply List.Mem.tail)); done))) | exact HR1.out.below hm.below | exact HR2.out.below hm.below) (by first | exact HN1.out | exact HN2.out | exact HN3.out | exact HN4.out) (by first | exact HL1.out | exact HL2.out)) (wanted_none rfl); clear HM HB; rintro w ⟨Aq, cq⟩ HM HB) | refine m_rd ?_ | (refine m_wr ?_; clear HM HB; intro w b HM HB; try clear b) | fail)
      clear HN1 HL1 HLM2
      replace HM := Lib.hid (HM.out.sub (show List.Sublist [_] _ by exact List.Sublist.cons_cons _ (List.nil_sublist _)))
      obtain ⟨mE, HLME⟩ : ∃ mE, Hid ((contB big l (i + 1)).length = mE) := ⟨_, Lib.hid rfl⟩
      have HN2 : Hid ((contB big l i ++ num big 4 p.r.s ++ num big 4 p.r.u ++ num big 4 p.r.d.length ++ num big 4 p.r.z).length + p.r.d.length = mE) := Lib.hid (by rw [← HLME.out, ← HSTP.out, List.length_append (bs := p.r.d)])
      have HL2 : Hid (mE * R8.bytes ≤ 140737488355328) := Lib.hid (by have := HB2.out; rw [HLME.out] at this; simp only [R8]; omega)
      refine (HP.out p.r.z 4 _ (by have := HF3.out; omega) (by decide) (by decide) (fun _ => by unfold pw; have := HF3.out; omega)).mono ?_
      rintro e w ⟨u4, rfl, ho, hb⟩
      replace HM := Lib.hid (HM.out.row8 hb ho)
      replace HB := HM.out.below
      clear ho hb
      obtain ⟨m2, HLM2⟩ : ∃ m2, Hid (((contB big l i ++ num big 4 p.r.s ++ num big 4 p.r.u ++ num big 4 p.r.d.length) ++ num big 4 p.r.z).length = m2) := ⟨_, Lib.hid rfl⟩
      have HN1 : Hid (((contB big l i ++ num big 4 p.r.s ++ num big 4 p.r.u ++ num big 4 p.r.d.length)).length + (num big 4 p.r.z).length = m2) := Lib.hid (by rw [← HLM2.out]; simp only [List.length_append, num_length])
      have HL1 : Hid (m2 * R8.bytes ≤ 140737488355328) := Lib.hid (by have := HB1.out; rw [← HLM2.out]; simp only [List.length_append, num_length, R8]; omega)
      go_wp2_with (first | (refine m_rd ?_ HM (Rd.fact rfl (by kernel_rfl) rfl (fun w hm => HE0.out w hm.below))) | (refine m_rd ?_ HM (Rd.fact rfl (by kernel_rfl) rfl (fun w hm => HE1.out w hm.below))) | (refine m_rd ?_ HM (Rd.fact rfl (by kernel_rfl) rfl (fun w hm => HE2.out w hm.below))) | (refine m_rd ?_ HM (Rd.fact rfl (by kernel_rfl) rfl (fun w hm => HE3.out w hm.below))) | (refine m_wx ?_ HM (Wx.app law8 rfl (by first | (go_simp; with_reducible rfl) | rfl) (by first | (go_simp; with_reducible rfl) | rfl) (by (first | ((repeat (first | with_reducible exact Del.head _ | with_reducible apply Del.tail)); done) | ((repeat (first | exact Del.head _ | apply Del.tail)); done))) (by intro w hm; first | with_reducible exact HR1.out.below hm.below | with_reducible exact HR2.out.below hm.below | exact hm.rw_ law8 (by (first | ((repeat (first | with_reducible exact List.Mem.head _ | with_reducible apply List.Mem.tail)); done) | ((repeat (first | exact List.Mem.head _ | apply List.Mem.tail)); done))) | exact HR1.out.below hm.below | exact HR2.out.below hm.below) (by first | exact HN1.out | exact HN2.out | exact HN3.out | exact HN4.out) (by first | exact HL1.out | exact HL2.out)) (wanted_none rfl); clear HM HB; rintro w ⟨Aq, cq⟩ HM HB) | refine m_rd ?_ | (refine m_wr ?_; clear HM HB; intro w b HM HB; try clear b) | fail)
      clear HN1 HL1 HLM2
      replace HM := Lib.hid (HM.out.sub (show List.Sublist [_] _ by exact List.Sublist.cons_cons _ (List.nil_sublist _)))
      rw [HSTP.out] at HM
      go_roundw
      case rel => exact ⟨i + 1, Aq, cq, _, by omega, rfl, by go_num, HLME, HM⟩
      case measure => (simp [intOf]) <;> omega
    · obtain rfl : i = l.length := by omega
      go_wp2_with fail
      go_ret
      refine ⟨_, rfl, ?_, HB⟩
      rw [show headB big ++ recsB big (l.map (·.r)) = contB big l l.length from (by unfold contB; rw [List.take_length])]
      exact HM.out.ob (List.Mem.head _)
end Go.Proofs.Ytnehbhhjdjiieaa.Cp
