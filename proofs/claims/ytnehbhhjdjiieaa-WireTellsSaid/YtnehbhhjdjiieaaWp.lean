/- Package wire and its reference: the message of bytes, of any kind. -/
import Derived.Test.YtnehbhhjdjiieaaWb
import Derived.Test.YtnehbhhjdjiieaaQc
import Derived.Test.YtnehbhhjdjiieaaQa
import Derived.Test.YtnehbhhjdjiieaaQi
import Derived.Test.YtnehbhhjdjiieaaDl
set_option linter.unusedSimpArgs false
set_option linter.unusedVariables false
set_option maxRecDepth 100000
namespace Go.Proofs.Ytnehbhhjdjiieaa.Wm
open Go.RowKit Go.Proofs.YtnehbhhjdjiieaaW.PrintWords Go.Proofs.Ytnehbhhjdjiieaa.Bs Go.Proofs.Ytnehbhhjdjiieaa.Mv Go.Proofs.Ytnehbhhjdjiieaa.Da

/-- The zero message's last part; the zero message. -/
def ZT : Array Value := #[.int .u32 0, .int .u64 0, .slice none 0 0]
def ZW : Array Value := WV 0 Mi.ZM Ma.ZM Mc.ZM ZT
theorem zeroW (W : World) : (zeroValue 87).run Try.prog W = .ok (.agg ZW) W := zero_of (by kernel_rfl) W
theorem buildW0 (W : World) : (Instr.build 87 #[]).run Try.prog W = .ok (.agg ZW) W := by kernel_rfl
theorem buildW1 (x : Int) (W : World) : (Instr.build 87 #[(0, .int .i64 x)]).run Try.prog W = .ok (.agg (WV x Mi.ZM Ma.ZM Mc.ZM ZT)) W := by kernel_rfl
theorem infoW : (Try.prog.info? 87).map (·.size) = some 284 := by kernel_rfl
theorem step_build1 {ops : Array Oper} {rest : List Oper} {op : Oper} {a : Act} {w : World} {Q : Exit → Act → World → Prop} (hgd : op.guard = none) (t : TypeId) (x : Operand) (ho : op.op = .build t #[(0, x)]) (v : Value) (hx : a.eval x = v) (cs : Array Value)
    (hz : ∀ W : World, (Instr.build t #[(0, v)]).run Try.prog W = .ok (.agg cs) W)
    (h : wpList Try.prog ops Q rest (a.put op.dst (.agg cs)) w) : wpList Try.prog ops Q (op :: rest) a w := by
  refine wpList_plain hgd fun K hK => ?_
  unfold Oper.wp
  simp [execOp, ho, hz, hx, Result.andThen]
  exact hK _ _ h
theorem ZI_size : Mi.ZM.size = 141 := Mi.ZM_size
theorem ZW_size : ZW.size = 284 := WV_size _ _ _ _ _ Mi.ZM_size Ma.ZM_size Mc.ZM_size rfl
theorem T3_one (r cc : Nat) (A : Option Addr) (n k : Nat) : (#[Value.int .u32 (r : Int), .int .u64 (cc : Int), .slice A n k]).all (·.oneCell') = true := by simp [Value.oneCell']
theorem ZT_one : ZT.all (·.oneCell') = true := by simp [ZT, Value.oneCell']
theorem ZW_one : ZW.all (·.oneCell') = true := WV_one _ _ _ _ _ Mi.ZM_one Ma.ZM_one Mc.ZM_one ZT_one

/-- Why bytes are no message, or 0; what they are. -/
def errW (b : List UInt8) : Int := if b = [] then 3 else if b.getD 0 0 = 1 then badM 1 148 b else if b.getD 0 0 = 2 then badM 2 92 b else if b.getD 0 0 = 3 then badM 3 64 b else if b.getD 0 0 = 4 then badD b else 9
def kdW (b : List UInt8) : Int := if errW b = 0 then ((b.getD 0 0).toNat : Int) else 0
def iW (b : List UInt8) : Array Value := if b.getD 0 0 = 1 then msg1 1 140 b else Mi.ZM
def rW (b : List UInt8) : Array Value := if b.getD 0 0 = 2 then msg2 2 80 b else Ma.ZM
def cW (b : List UInt8) : Array Value := if b.getD 0 0 = 3 then msg1 3 56 b else Mc.ZM
def tW (b : List UInt8) : Nat × Nat × List UInt8 := if b.getD 0 0 = 4 then msgD b else (0, 0, [])
def ParsedW (w : World) (b : List UInt8) (e : Ending) (w' : World) : Prop := ∃ v, e = .returned (.tuple #[.agg (WV (kdW b) (iW b) (rW b) (cW b) #[.int .u32 ((tW b).1 : Int), .int .u64 ((tW b).2.1 : Int), v]), .int .i64 (errW b)]) ∧ RB w' v (tW b).2.2 ∧ Below w.heap.size w w'
theorem not_nil {b : List UInt8} {x : UInt8} (h : b.getD 0 0 = x) (hx : x ≠ 0) : b ≠ [] := by rintro rfl; exact hx (by simpa using h.symm)

theorem kindW1 (b : List UInt8) (h : b.getD 0 0 = 1) : errW b = badM 1 148 b ∧ iW b = msg1 1 140 b ∧ rW b = Ma.ZM ∧ cW b = Mc.ZM ∧ tW b = (0, 0, []) := by
  have hn := not_nil h (by decide)
  unfold errW iW rW cW tW
  rw [h, if_neg hn]
  exact ⟨rfl, rfl, rfl, rfl, rfl⟩
theorem kindW2 (b : List UInt8) (h : b.getD 0 0 = 2) : errW b = badM 2 92 b ∧ iW b = Mi.ZM ∧ rW b = msg2 2 80 b ∧ cW b = Mc.ZM ∧ tW b = (0, 0, []) := by
  have hn := not_nil h (by decide)
  unfold errW iW rW cW tW
  rw [h, if_neg hn]
  exact ⟨rfl, rfl, rfl, rfl, rfl⟩
theorem kindW3 (b : List UInt8) (h : b.getD 0 0 = 3) : errW b = badM 3 64 b ∧ iW b = Mi.ZM ∧ rW b = Ma.ZM ∧ cW b = msg1 3 56 b ∧ tW b = (0, 0, []) := by
  have hn := not_nil h (by decide)
  unfold errW iW rW cW tW
  rw [h, if_neg hn]
  exact ⟨rfl, rfl, rfl, rfl, rfl⟩
theorem kindW4 (b : List UInt8) (h : b.getD 0 0 = 4) : errW b = badD b ∧ iW b = Mi.ZM ∧ rW b = Ma.ZM ∧ cW b = Mc.ZM ∧ tW b = msgD b := by
  have hn := not_nil h (by decide)
  unfold errW iW rW cW tW
  rw [h, if_neg hn]
  exact ⟨rfl, rfl, rfl, rfl, rfl⟩
theorem kindW0 (b : List UInt8) (h1 : b.getD 0 0 ≠ 1) (h2 : b.getD 0 0 ≠ 2) (h3 : b.getD 0 0 ≠ 3) (h4 : b.getD 0 0 ≠ 4) : errW b = (if b = [] then 3 else 9) ∧ iW b = Mi.ZM ∧ rW b = Ma.ZM ∧ cW b = Mc.ZM ∧ tW b = (0, 0, []) := by
  unfold errW iW rW cW tW
  rw [if_neg h1, if_neg h2, if_neg h3, if_neg h4, if_neg h1, if_neg h2, if_neg h3, if_neg h4]
  exact ⟨rfl, rfl, rfl, rfl, rfl⟩

set_option maxHeartbeats 4000000 in
theorem parse_any (A : Option Addr) (c : Nat) (b : List UInt8) (w : World) (hc : b.length ≤ c) (hr : ReadsOf B 0 w A b.length b) (hl : b.length ≤ 1099511627776) :
    Calls Try.prog 52 #[.slice A b.length c] w (ParsedW w b) := by
  by_cases hb : b = []
  · subst hb
    obtain ⟨hE, hi, hrr, hcc, htt⟩ := kindW0 [] (by decide) (by decide) (by decide) (by decide)
    rw [if_pos rfl] at hE
    have hkd : kdW [] = 0 := by unfold kdW; rw [hE]; rfl
    suffices hS : Calls Try.prog 52 #[.slice A ([] : List UInt8).length c] w (fun e w' => e = .returned (.tuple #[.agg ZW, .int .i64 (3)]) ∧ Below w.heap.size w w') from hS.mono (fun e w' h => ⟨.slice none 0 0, h.1.trans (by rw [hkd, hi, hrr, hcc, htt, hE]; rfl), by rw [htt]; exact RB.nil _, h.2⟩)
    clear hkd hi hrr hcc htt hE
    have F1 : Hid ((w.alloc (.cells ZW 87)).heap[w.heap.size]? = some (.cells ZW 87 (0, 0))) := Lib.hid (blk_new w _)
    have ST2 : ∀ {ops : Array Oper} {rest : List Oper} {op : Oper} {a : Act} {Q : Exit → Act → World → Prop}, op.guard = none → op.op = .store 87 (.tmp 2) (.tmp 9) → a.eval (.tmp 2) = .pointer (some ⟨w.heap.size, 0, none⟩) → a.eval (.tmp 9) = .agg (ZW) → wpList Try.prog ops Q rest (a.put op.dst undef) ((w.alloc (.cells ZW 87)).setCells (w.heap.size) 0 (ZW).toList) → wpList Try.prog ops Q (op :: rest) a (w.alloc (.cells ZW 87)) := fun hg ho hx hy h => step_store hg 87 (.tmp 2) (.tmp 9) ho hx hy F1.out (rfl) (by rw [ZW_size]; exact infoW) (ZW_one) h
    rw [show ([] : List UInt8).length = 0 from rfl]
    go_enter Try.func52, Try.ntmps52
    go_wp2_with (first | ((with_reducible refine step_alloc rfl 87 rfl ZW zeroW ?_)) | ((with_reducible refine step_build rfl 87 rfl ZW buildW0 ?_)) | ((with_reducible refine ST2 rfl rfl rfl rfl ?_)))
    have hload := load_block (setCells_block F1.out (rfl)) 87 _ Try.underlying87 rfl (by rw [ZW_size]; exact infoW)
    refine bodyPost_ret (results_c1 rfl _ _ _ _ _ rfl hload) rfl ⟨rfl, setCells_below _ (Nat.le_refl _) _ _ _ (below_alloc (Below.refl _ _) _)⟩
  have hpos : 0 < b.length := List.length_pos_iff.2 hb
  have hl0 : ((b.length : Int) == 0) = false := beq_false_of_ne (by omega)
  by_cases h1 : b.getD 0 0 = 1
  · obtain ⟨hE, hi, hrr, hcc, htt⟩ := kindW1 b h1
    have hx0 : ((b.getD 0 0).toNat : Int) = 1 := by rw [h1]; rfl
    obtain ⟨ad, rfl, hc0⟩ := reads_cell hr 0 (by omega)
    rw [show ad.add 0 = ad by simp [Addr.add]] at hc0
    have hd0 := fun o1 => pw_cell_below (below_alloc (Below.refl w.heap.size w) o1) hc0
    have hy0 := byte_lt (b.getD 0 0)
    by_cases hbad : badM 1 148 b = 0
    · obtain ⟨n, L, hmsg, hn, hL, hraw⟩ := Mi.msg_full b
      have HL := Lib.hid hL
      have HMSG := Lib.hid hmsg
      have hkd : kdW b = 1 := by unfold kdW; rw [hE, if_pos hbad, hx0]
      suffices hS : Calls Try.prog 52 #[.slice (some ad) b.length c] w (fun e w' => e = .returned (.tuple #[.agg (WV 1 (MV [n] L) Ma.ZM Mc.ZM ZT), .int .i64 0]) ∧ Below w.heap.size w w') from hS.mono (fun e w' h => ⟨.slice none 0 0, h.1.trans (by rw [hkd, hi, hrr, hcc, htt, hE, hbad, hmsg]; rfl), by rw [htt]; exact RB.nil _, h.2⟩)
      have HBAD := Lib.hid hbad
      clear hkd hi hrr hcc htt hE hbad hmsg hraw hL
      have F2 : Hid (((w.alloc (.cells ZW 87)).alloc (.cells ZW 87)).heap[w.heap.size + 1]? = some (.cells ZW 87 (0, 0))) := Lib.hid (blk_new1 w _ _)
      have hsx : (WV 1 Mi.ZM Ma.ZM Mc.ZM ZT).size = ZW.size := by rw [ZW_size]; exact WV_size _ _ _ _ _ Mi.ZM_size Ma.ZM_size Mc.ZM_size rfl
      have AL2 : ∀ {ops : Array Oper} {rest : List Oper} {op : Oper} {a : Act} {Q : Exit → Act → World → Prop}, op.guard = none → op.op = .alloc 87 → wpList Try.prog ops Q rest (a.put op.dst (.pointer (some ⟨w.heap.size + 1, 0, none⟩))) ((w.alloc (.cells ZW 87)).alloc (.cells ZW 87)) → wpList Try.prog ops Q (op :: rest) a (w.alloc (.cells ZW 87)) := fun hg ho h => step_alloc hg 87 ho ZW zeroW (by rw [size_push]; exact h)
      have ST4 : ∀ {ops : Array Oper} {rest : List Oper} {op : Oper} {a : Act} {Q : Exit → Act → World → Prop}, op.guard = none → op.op = .store 87 (.tmp 4) (.tmp 14) → a.eval (.tmp 4) = .pointer (some ⟨w.heap.size + 1, 0, none⟩) → a.eval (.tmp 14) = .agg ((WV 1 Mi.ZM Ma.ZM Mc.ZM ZT)) → wpList Try.prog ops Q rest (a.put op.dst undef) (((w.alloc (.cells ZW 87)).alloc (.cells ZW 87)).setCells (w.heap.size + 1) 0 ((WV 1 Mi.ZM Ma.ZM Mc.ZM ZT)).toList) → wpList Try.prog ops Q (op :: rest) a ((w.alloc (.cells ZW 87)).alloc (.cells ZW 87)) := fun hg ho hx hy h => step_store hg 87 (.tmp 4) (.tmp 14) ho hx hy F2.out (hsx) (by rw [ZW_size]; exact infoW) (WV_one _ _ _ _ _ Mi.ZM_one Ma.ZM_one Mc.ZM_one ZT_one) h
      have hm := setCells_block F2.out hsx
      have hbw : Below w.heap.size w (((w.alloc (.cells ZW 87)).alloc (.cells ZW 87)).setCells (w.heap.size + 1) 0 (WV 1 Mi.ZM Ma.ZM Mc.ZM ZT).toList) := setCells_below _ (Nat.le_succ _) _ _ _ (below_alloc (below_alloc (Below.refl _ _) _) _)
      have hz : (((w.alloc (.cells ZW 87)).alloc (.cells ZW 87)).setCells (w.heap.size + 1) 0 (WV 1 Mi.ZM Ma.ZM Mc.ZM ZT).toList).heap[w.heap.size]? = some (.cells ZW 87 (0, 0)) := ((setCells_below (B := w.heap.size + 1) _ (Nat.le_refl _) _ _ ((w.alloc (.cells ZW 87)).alloc (.cells ZW 87)) (Below.refl _ _)).block _ (Nat.lt_succ_self _)).trans (blk_old (blk_new w _) _)
      have c0 : (((w.alloc (.cells ZW 87)).alloc (.cells ZW 87)).setCells (w.heap.size + 1) 0 (WV 1 Mi.ZM Ma.ZM Mc.ZM ZT).toList).cell? ⟨w.heap.size + 1, 0, none⟩ = some (.int .i64 (1)) := (blk_cell hm 0).trans (WV_0 _ _ _ _ _)
      have HM := Lib.hid hm
      have HZ := Lib.hid hz
      have HB := Lib.hid hbw
      have HR1 := Lib.hid (hr.below hbw)
      clear hm hz hbw hsx hc0
      generalize (b.getD 0 0).toNat = x0 at hd0 hx0 hy0
      clear h1
      go_enter Try.func52, Try.ntmps52
      go_wp2_with (first | ((with_reducible refine AL2 rfl rfl ?_)) | ((with_reducible refine step_alloc rfl 87 rfl ZW zeroW ?_)) | ((with_reducible refine step_build1 rfl 87 (.tmp 13) rfl (.int .i64 (1)) rfl (WV 1 Mi.ZM Ma.ZM Mc.ZM ZT) (buildW1 (1)) ?_)) | ((with_reducible refine ST4 rfl rfl rfl rfl ?_)))
      refine (Mi.parse_any (some ad) c b _ hc HR1.out hl).mono ?_
      rintro e w2 ⟨rfl, hb2⟩
      rw [HMSG.out, HBAD.out]
      have HM2 := Lib.hid (blk_below HM.out hb2)
      have HZ2 := Lib.hid (blk_below HZ.out hb2)
      have HB2 := Lib.hid (below_comp HB.out hb2)
      clear hb2 HM HZ HB c0 ST4 AL2 F2
      have STM : ∀ {ops : Array Oper} {rest : List Oper} {op : Oper} {a : Act} {Q : Exit → Act → World → Prop}, op.guard = none → op.op = .store 50 (.tmp 24) (.tmp 22) → a.eval (.tmp 24) = .pointer (some ⟨w.heap.size + 1, 1, none⟩) → a.eval (.tmp 22) = .agg (MV [n] L) → wpList Try.prog ops Q rest (a.put op.dst undef) (w2.setCells (w.heap.size + 1) 1 (MV [n] L).toList) → wpList Try.prog ops Q (op :: rest) a w2 := fun hg ho hx hy h => step_store_at hg 50 (.tmp 24) (.tmp 22) ho hx hy (rfl) (show w2.heap[w.heap.size + 1]? = some (.cells (#[.int .i64 (1)] ++ Mi.ZM ++ (Ma.ZM ++ Mc.ZM ++ ZT)) 87 (0, 0)) from by rw [← WV_i]; exact HM2.out) (by rw [MV1s, HL.out, Mi.ZM_size]) (by rw [Mi.ZM_size]; exact Mi.infoM) (MV_one _ _) h
      have hz3 : (w2.setCells (w.heap.size + 1) 1 (MV [n] L).toList).heap[w.heap.size]? = some (.cells ZW 87 (0, 0)) := ((setCells_below (B := w.heap.size + 1) _ (Nat.le_refl _) _ _ w2 (Below.refl _ _)).block _ (Nat.lt_succ_self _)).trans HZ2.out
      have HZ3 := Lib.hid hz3
      have HB3 := Lib.hid (setCells_below (w.heap.size + 1) (Nat.le_succ _) (MV [n] L).toList 1 _ HB2.out)
      have hm3 : (w2.setCells (w.heap.size + 1) 1 (MV [n] L).toList).heap[w.heap.size + 1]? = some (.cells (WV 1 (MV [n] L) Ma.ZM Mc.ZM ZT) 87 (0, 0)) := by
        have h := setCells_mid (M' := MV [n] L) (show w2.heap[w.heap.size + 1]? = some (.cells (#[.int .i64 (1)] ++ Mi.ZM ++ (Ma.ZM ++ Mc.ZM ++ ZT)) 87 (0, 0)) from by rw [← WV_i]; exact HM2.out) (by rw [MV1s, HL.out, Mi.ZM_size])
        rw [show (#[.int .i64 (1)] : Array Value).size = 1 from (rfl)] at h
        rw [WV_i]; exact h
      have HM3 := Lib.hid hm3
      have HSW : Hid ((WV 1 (MV [n] L) Ma.ZM Mc.ZM ZT).size = ZW.size) := Lib.hid (by rw [ZW_size]; exact WV_size _ _ _ _ _ (by rw [MV1s, HL.out]) (Ma.ZM_size) (Mc.ZM_size) rfl)
      have LDW : ∀ {ops : Array Oper} {rest : List Oper} {op : Oper} {a : Act} {Q : Exit → Act → World → Prop}, op.guard = none → op.op = .load 87 (.tmp 4) → a.eval (.tmp 4) = .pointer (some ⟨w.heap.size + 1, 0, none⟩) → wpList Try.prog ops Q rest (a.put op.dst (.agg (WV 1 (MV [n] L) Ma.ZM Mc.ZM ZT))) (w2.setCells (w.heap.size + 1) 1 (MV [n] L).toList) → wpList Try.prog ops Q (op :: rest) a (w2.setCells (w.heap.size + 1) 1 (MV [n] L).toList) := fun hg ho hx h => step_load hg 87 (.tmp 4) ho hx HM3.out _ Try.underlying87 rfl (by rw [HSW.out, ZW_size]; exact infoW) h
      have ST2 : ∀ {ops : Array Oper} {rest : List Oper} {op : Oper} {a : Act} {Q : Exit → Act → World → Prop}, op.guard = none → op.op = .store 87 (.tmp 2) (.tmp 53) → a.eval (.tmp 2) = .pointer (some ⟨w.heap.size, 0, none⟩) → a.eval (.tmp 53) = .agg (WV 1 (MV [n] L) Ma.ZM Mc.ZM ZT) → wpList Try.prog ops Q rest (a.put op.dst undef) ((w2.setCells (w.heap.size + 1) 1 (MV [n] L).toList).setCells (w.heap.size) 0 (WV 1 (MV [n] L) Ma.ZM Mc.ZM ZT).toList) → wpList Try.prog ops Q (op :: rest) a (w2.setCells (w.heap.size + 1) 1 (MV [n] L).toList) := fun hg ho hx hy h => step_store hg 87 (.tmp 2) (.tmp 53) ho hx hy HZ3.out (HSW.out) (by rw [ZW_size]; exact infoW) (WV_one _ _ _ _ _ (MV_one _ _) Ma.ZM_one Mc.ZM_one ZT_one) h
      clear hz3 hm3
      go_wp2_with (first | ((with_reducible refine STM rfl rfl rfl rfl ?_)) | ((with_reducible refine LDW rfl rfl rfl ?_)) | ((with_reducible refine ST2 rfl rfl rfl rfl ?_)))
      have hload := load_block (setCells_block HZ3.out (HSW.out)) 87 _ Try.underlying87 rfl (by rw [HSW.out, ZW_size]; exact infoW)
      refine bodyPost_ret (results_c1 rfl _ _ _ _ _ rfl hload) rfl ⟨rfl, setCells_below _ (Nat.le_refl _) _ _ _ HB3.out⟩
    · obtain ⟨n, L, hmsg, hn, hL, hraw⟩ := Mi.msg_full b
      have HL := Lib.hid hL
      have HMSG := Lib.hid hmsg
      have hkd : kdW b = 0 := by unfold kdW; rw [hE, if_neg hbad]
      rw [Mi.ZM_msg b hbad] at hi
      obtain ⟨E, hEE⟩ : ∃ E, badM 1 148 b = E := ⟨_, rfl⟩
      rw [hEE] at hE hbad
      have HBAD := Lib.hid hEE
      suffices hS : Calls Try.prog 52 #[.slice (some ad) b.length c] w (fun e w' => e = .returned (.tuple #[.agg ZW, .int .i64 (E)]) ∧ Below w.heap.size w w') from hS.mono (fun e w' h => ⟨.slice none 0 0, h.1.trans (by rw [hkd, hi, hrr, hcc, htt, hE]; rfl), by rw [htt]; exact RB.nil _, h.2⟩)
      clear hkd hi hrr hcc htt hE
      have hE2 : (E != 0) = true := bne_iff_ne.2 hbad
      clear hEE hmsg hraw hL
      have F2 : Hid (((w.alloc (.cells ZW 87)).alloc (.cells ZW 87)).heap[w.heap.size + 1]? = some (.cells ZW 87 (0, 0))) := Lib.hid (blk_new1 w _ _)
      have hsx : (WV 1 Mi.ZM Ma.ZM Mc.ZM ZT).size = ZW.size := by rw [ZW_size]; exact WV_size _ _ _ _ _ Mi.ZM_size Ma.ZM_size Mc.ZM_size rfl
      have AL2 : ∀ {ops : Array Oper} {rest : List Oper} {op : Oper} {a : Act} {Q : Exit → Act → World → Prop}, op.guard = none → op.op = .alloc 87 → wpList Try.prog ops Q rest (a.put op.dst (.pointer (some ⟨w.heap.size + 1, 0, none⟩))) ((w.alloc (.cells ZW 87)).alloc (.cells ZW 87)) → wpList Try.prog ops Q (op :: rest) a (w.alloc (.cells ZW 87)) := fun hg ho h => step_alloc hg 87 ho ZW zeroW (by rw [size_push]; exact h)
      have ST4 : ∀ {ops : Array Oper} {rest : List Oper} {op : Oper} {a : Act} {Q : Exit → Act → World → Prop}, op.guard = none → op.op = .store 87 (.tmp 4) (.tmp 14) → a.eval (.tmp 4) = .pointer (some ⟨w.heap.size + 1, 0, none⟩) → a.eval (.tmp 14) = .agg ((WV 1 Mi.ZM Ma.ZM Mc.ZM ZT)) → wpList Try.prog ops Q rest (a.put op.dst undef) (((w.alloc (.cells ZW 87)).alloc (.cells ZW 87)).setCells (w.heap.size + 1) 0 ((WV 1 Mi.ZM Ma.ZM Mc.ZM ZT)).toList) → wpList Try.prog ops Q (op :: rest) a ((w.alloc (.cells ZW 87)).alloc (.cells ZW 87)) := fun hg ho hx hy h => step_store hg 87 (.tmp 4) (.tmp 14) ho hx hy F2.out (hsx) (by rw [ZW_size]; exact infoW) (WV_one _ _ _ _ _ Mi.ZM_one Ma.ZM_one Mc.ZM_one ZT_one) h
      have hm := setCells_block F2.out hsx
      have hbw : Below w.heap.size w (((w.alloc (.cells ZW 87)).alloc (.cells ZW 87)).setCells (w.heap.size + 1) 0 (WV 1 Mi.ZM Ma.ZM Mc.ZM ZT).toList) := setCells_below _ (Nat.le_succ _) _ _ _ (below_alloc (below_alloc (Below.refl _ _) _) _)
      have hz : (((w.alloc (.cells ZW 87)).alloc (.cells ZW 87)).setCells (w.heap.size + 1) 0 (WV 1 Mi.ZM Ma.ZM Mc.ZM ZT).toList).heap[w.heap.size]? = some (.cells ZW 87 (0, 0)) := ((setCells_below (B := w.heap.size + 1) _ (Nat.le_refl _) _ _ ((w.alloc (.cells ZW 87)).alloc (.cells ZW 87)) (Below.refl _ _)).block _ (Nat.lt_succ_self _)).trans (blk_old (blk_new w _) _)
      have c0 : (((w.alloc (.cells ZW 87)).alloc (.cells ZW 87)).setCells (w.heap.size + 1) 0 (WV 1 Mi.ZM Ma.ZM Mc.ZM ZT).toList).cell? ⟨w.heap.size + 1, 0, none⟩ = some (.int .i64 (1)) := (blk_cell hm 0).trans (WV_0 _ _ _ _ _)
      have HM := Lib.hid hm
      have HZ := Lib.hid hz
      have HB := Lib.hid hbw
      have HR1 := Lib.hid (hr.below hbw)
      clear hm hz hbw hsx hc0
      generalize (b.getD 0 0).toNat = x0 at hd0 hx0 hy0
      clear h1
      go_enter Try.func52, Try.ntmps52
      go_wp2_with (first | ((with_reducible refine AL2 rfl rfl ?_)) | ((with_reducible refine step_alloc rfl 87 rfl ZW zeroW ?_)) | ((with_reducible refine step_build1 rfl 87 (.tmp 13) rfl (.int .i64 (1)) rfl (WV 1 Mi.ZM Ma.ZM Mc.ZM ZT) (buildW1 (1)) ?_)) | ((with_reducible refine ST4 rfl rfl rfl rfl ?_)))
      refine (Mi.parse_any (some ad) c b _ hc HR1.out hl).mono ?_
      rintro e w2 ⟨rfl, hb2⟩
      rw [HMSG.out, HBAD.out]
      have HM2 := Lib.hid (blk_below HM.out hb2)
      have HZ2 := Lib.hid (blk_below HZ.out hb2)
      have HB2 := Lib.hid (below_comp HB.out hb2)
      clear hb2 HM HZ HB c0 ST4 AL2 F2
      have STM : ∀ {ops : Array Oper} {rest : List Oper} {op : Oper} {a : Act} {Q : Exit → Act → World → Prop}, op.guard = none → op.op = .store 50 (.tmp 24) (.tmp 22) → a.eval (.tmp 24) = .pointer (some ⟨w.heap.size + 1, 1, none⟩) → a.eval (.tmp 22) = .agg (MV [n] L) → wpList Try.prog ops Q rest (a.put op.dst undef) (w2.setCells (w.heap.size + 1) 1 (MV [n] L).toList) → wpList Try.prog ops Q (op :: rest) a w2 := fun hg ho hx hy h => step_store_at hg 50 (.tmp 24) (.tmp 22) ho hx hy (rfl) (show w2.heap[w.heap.size + 1]? = some (.cells (#[.int .i64 (1)] ++ Mi.ZM ++ (Ma.ZM ++ Mc.ZM ++ ZT)) 87 (0, 0)) from by rw [← WV_i]; exact HM2.out) (by rw [MV1s, HL.out, Mi.ZM_size]) (by rw [Mi.ZM_size]; exact Mi.infoM) (MV_one _ _) h
      have hz3 : (w2.setCells (w.heap.size + 1) 1 (MV [n] L).toList).heap[w.heap.size]? = some (.cells ZW 87 (0, 0)) := ((setCells_below (B := w.heap.size + 1) _ (Nat.le_refl _) _ _ w2 (Below.refl _ _)).block _ (Nat.lt_succ_self _)).trans HZ2.out
      have HZ3 := Lib.hid hz3
      have HB3 := Lib.hid (setCells_below (w.heap.size + 1) (Nat.le_succ _) (MV [n] L).toList 1 _ HB2.out)
      have ST2 : ∀ {ops : Array Oper} {rest : List Oper} {op : Oper} {a : Act} {Q : Exit → Act → World → Prop}, op.guard = none → op.op = .store 87 (.tmp 2) (.tmp 51) → a.eval (.tmp 2) = .pointer (some ⟨w.heap.size, 0, none⟩) → a.eval (.tmp 51) = .agg (ZW) → wpList Try.prog ops Q rest (a.put op.dst undef) ((w2.setCells (w.heap.size + 1) 1 (MV [n] L).toList).setCells (w.heap.size) 0 (ZW).toList) → wpList Try.prog ops Q (op :: rest) a (w2.setCells (w.heap.size + 1) 1 (MV [n] L).toList) := fun hg ho hx hy h => step_store hg 87 (.tmp 2) (.tmp 51) ho hx hy HZ3.out (rfl) (by rw [ZW_size]; exact infoW) (ZW_one) h
      clear hz3
      go_wp2_with (first | ((with_reducible refine STM rfl rfl rfl rfl ?_)) | ((with_reducible refine step_build rfl 87 rfl ZW buildW0 ?_)) | ((with_reducible refine ST2 rfl rfl rfl rfl ?_)))
      have hload := load_block (setCells_block HZ3.out (rfl)) 87 _ Try.underlying87 rfl (by rw [ZW_size]; exact infoW)
      refine bodyPost_ret (results_c1 rfl _ _ _ _ _ rfl hload) rfl ⟨rfl, setCells_below _ (Nat.le_refl _) _ _ _ HB3.out⟩
  by_cases h2 : b.getD 0 0 = 2
  · obtain ⟨hE, hi, hrr, hcc, htt⟩ := kindW2 b h2
    have hx0 : ((b.getD 0 0).toNat : Int) = 2 := by rw [h2]; rfl
    obtain ⟨ad, rfl, hc0⟩ := reads_cell hr 0 (by omega)
    rw [show ad.add 0 = ad by simp [Addr.add]] at hc0
    have hd0 := fun o1 => pw_cell_below (below_alloc (Below.refl w.heap.size w) o1) hc0
    have hy0 := byte_lt (b.getD 0 0)
    by_cases hbad : badM 2 92 b = 0
    · obtain ⟨n, m, L, hmsg, hn, hmm, hL, hraw⟩ := Ma.msg_full b
      have HL := Lib.hid hL
      have HMSG := Lib.hid hmsg
      have hkd : kdW b = 2 := by unfold kdW; rw [hE, if_pos hbad, hx0]
      suffices hS : Calls Try.prog 52 #[.slice (some ad) b.length c] w (fun e w' => e = .returned (.tuple #[.agg (WV 2 Mi.ZM (MV [n, m] L) Mc.ZM ZT), .int .i64 0]) ∧ Below w.heap.size w w') from hS.mono (fun e w' h => ⟨.slice none 0 0, h.1.trans (by rw [hkd, hi, hrr, hcc, htt, hE, hbad, hmsg]; rfl), by rw [htt]; exact RB.nil _, h.2⟩)
      have HBAD := Lib.hid hbad
      clear hkd hi hrr hcc htt hE hbad hmsg hraw hL
      have F2 : Hid (((w.alloc (.cells ZW 87)).alloc (.cells ZW 87)).heap[w.heap.size + 1]? = some (.cells ZW 87 (0, 0))) := Lib.hid (blk_new1 w _ _)
      have hsx : (WV 2 Mi.ZM Ma.ZM Mc.ZM ZT).size = ZW.size := by rw [ZW_size]; exact WV_size _ _ _ _ _ Mi.ZM_size Ma.ZM_size Mc.ZM_size rfl
      have AL2 : ∀ {ops : Array Oper} {rest : List Oper} {op : Oper} {a : Act} {Q : Exit → Act → World → Prop}, op.guard = none → op.op = .alloc 87 → wpList Try.prog ops Q rest (a.put op.dst (.pointer (some ⟨w.heap.size + 1, 0, none⟩))) ((w.alloc (.cells ZW 87)).alloc (.cells ZW 87)) → wpList Try.prog ops Q (op :: rest) a (w.alloc (.cells ZW 87)) := fun hg ho h => step_alloc hg 87 ho ZW zeroW (by rw [size_push]; exact h)
      have ST4 : ∀ {ops : Array Oper} {rest : List Oper} {op : Oper} {a : Act} {Q : Exit → Act → World → Prop}, op.guard = none → op.op = .store 87 (.tmp 4) (.tmp 14) → a.eval (.tmp 4) = .pointer (some ⟨w.heap.size + 1, 0, none⟩) → a.eval (.tmp 14) = .agg ((WV 2 Mi.ZM Ma.ZM Mc.ZM ZT)) → wpList Try.prog ops Q rest (a.put op.dst undef) (((w.alloc (.cells ZW 87)).alloc (.cells ZW 87)).setCells (w.heap.size + 1) 0 ((WV 2 Mi.ZM Ma.ZM Mc.ZM ZT)).toList) → wpList Try.prog ops Q (op :: rest) a ((w.alloc (.cells ZW 87)).alloc (.cells ZW 87)) := fun hg ho hx hy h => step_store hg 87 (.tmp 4) (.tmp 14) ho hx hy F2.out (hsx) (by rw [ZW_size]; exact infoW) (WV_one _ _ _ _ _ Mi.ZM_one Ma.ZM_one Mc.ZM_one ZT_one) h
      have hm := setCells_block F2.out hsx
      have hbw : Below w.heap.size w (((w.alloc (.cells ZW 87)).alloc (.cells ZW 87)).setCells (w.heap.size + 1) 0 (WV 2 Mi.ZM Ma.ZM Mc.ZM ZT).toList) := setCells_below _ (Nat.le_succ _) _ _ _ (below_alloc (below_alloc (Below.refl _ _) _) _)
      have hz : (((w.alloc (.cells ZW 87)).alloc (.cells ZW 87)).setCells (w.heap.size + 1) 0 (WV 2 Mi.ZM Ma.ZM Mc.ZM ZT).toList).heap[w.heap.size]? = some (.cells ZW 87 (0, 0)) := ((setCells_below (B := w.heap.size + 1) _ (Nat.le_refl _) _ _ ((w.alloc (.cells ZW 87)).alloc (.cells ZW 87)) (Below.refl _ _)).block _ (Nat.lt_succ_self _)).trans (blk_old (blk_new w _) _)
      have c0 : (((w.alloc (.cells ZW 87)).alloc (.cells ZW 87)).setCells (w.heap.size + 1) 0 (WV 2 Mi.ZM Ma.ZM Mc.ZM ZT).toList).cell? ⟨w.heap.size + 1, 0, none⟩ = some (.int .i64 (2)) := (blk_cell hm 0).trans (WV_0 _ _ _ _ _)
      have HM := Lib.hid hm
      have HZ := Lib.hid hz
      have HB := Lib.hid hbw
      have HR1 := Lib.hid (hr.below hbw)
      clear hm hz hbw hsx hc0
      generalize (b.getD 0 0).toNat = x0 at hd0 hx0 hy0
      clear h2
      go_enter Try.func52, Try.ntmps52
      go_wp2_with (first | ((with_reducible refine AL2 rfl rfl ?_)) | ((with_reducible refine step_alloc rfl 87 rfl ZW zeroW ?_)) | ((with_reducible refine step_build1 rfl 87 (.tmp 13) rfl (.int .i64 (2)) rfl (WV 2 Mi.ZM Ma.ZM Mc.ZM ZT) (buildW1 (2)) ?_)) | ((with_reducible refine ST4 rfl rfl rfl rfl ?_)))
      refine (Ma.parse_any (some ad) c b _ hc HR1.out hl).mono ?_
      rintro e w2 ⟨rfl, hb2⟩
      rw [HMSG.out, HBAD.out]
      have HM2 := Lib.hid (blk_below HM.out hb2)
      have HZ2 := Lib.hid (blk_below HZ.out hb2)
      have HB2 := Lib.hid (below_comp HB.out hb2)
      clear hb2 HM HZ HB c0 ST4 AL2 F2
      have STM : ∀ {ops : Array Oper} {rest : List Oper} {op : Oper} {a : Act} {Q : Exit → Act → World → Prop}, op.guard = none → op.op = .store 40 (.tmp 32) (.tmp 30) → a.eval (.tmp 32) = .pointer (some ⟨w.heap.size + 1, 142, none⟩) → a.eval (.tmp 30) = .agg (MV [n, m] L) → wpList Try.prog ops Q rest (a.put op.dst undef) (w2.setCells (w.heap.size + 1) 142 (MV [n, m] L).toList) → wpList Try.prog ops Q (op :: rest) a w2 := fun hg ho hx hy h => step_store_at hg 40 (.tmp 32) (.tmp 30) ho hx hy (by rw [Array.size_append, Mi.ZM_size]; rfl) (show w2.heap[w.heap.size + 1]? = some (.cells ((#[.int .i64 (2)] ++ Mi.ZM) ++ Ma.ZM ++ (Mc.ZM ++ ZT)) 87 (0, 0)) from by rw [← WV_r]; exact HM2.out) (by rw [MV2s, HL.out, Ma.ZM_size]) (by rw [Ma.ZM_size]; exact Ma.infoM) (MV_one _ _) h
      have hz3 : (w2.setCells (w.heap.size + 1) 142 (MV [n, m] L).toList).heap[w.heap.size]? = some (.cells ZW 87 (0, 0)) := ((setCells_below (B := w.heap.size + 1) _ (Nat.le_refl _) _ _ w2 (Below.refl _ _)).block _ (Nat.lt_succ_self _)).trans HZ2.out
      have HZ3 := Lib.hid hz3
      have HB3 := Lib.hid (setCells_below (w.heap.size + 1) (Nat.le_succ _) (MV [n, m] L).toList 142 _ HB2.out)
      have hm3 : (w2.setCells (w.heap.size + 1) 142 (MV [n, m] L).toList).heap[w.heap.size + 1]? = some (.cells (WV 2 Mi.ZM (MV [n, m] L) Mc.ZM ZT) 87 (0, 0)) := by
        have h := setCells_mid (M' := MV [n, m] L) (show w2.heap[w.heap.size + 1]? = some (.cells ((#[.int .i64 (2)] ++ Mi.ZM) ++ Ma.ZM ++ (Mc.ZM ++ ZT)) 87 (0, 0)) from by rw [← WV_r]; exact HM2.out) (by rw [MV2s, HL.out, Ma.ZM_size])
        rw [show ((#[.int .i64 (2)] ++ Mi.ZM) : Array Value).size = 142 from (by rw [Array.size_append, Mi.ZM_size]; rfl)] at h
        rw [WV_r]; exact h
      have HM3 := Lib.hid hm3
      have HSW : Hid ((WV 2 Mi.ZM (MV [n, m] L) Mc.ZM ZT).size = ZW.size) := Lib.hid (by rw [ZW_size]; exact WV_size _ _ _ _ _ (Mi.ZM_size) (by rw [MV2s, HL.out]) (Mc.ZM_size) rfl)
      have LDW : ∀ {ops : Array Oper} {rest : List Oper} {op : Oper} {a : Act} {Q : Exit → Act → World → Prop}, op.guard = none → op.op = .load 87 (.tmp 4) → a.eval (.tmp 4) = .pointer (some ⟨w.heap.size + 1, 0, none⟩) → wpList Try.prog ops Q rest (a.put op.dst (.agg (WV 2 Mi.ZM (MV [n, m] L) Mc.ZM ZT))) (w2.setCells (w.heap.size + 1) 142 (MV [n, m] L).toList) → wpList Try.prog ops Q (op :: rest) a (w2.setCells (w.heap.size + 1) 142 (MV [n, m] L).toList) := fun hg ho hx h => step_load hg 87 (.tmp 4) ho hx HM3.out _ Try.underlying87 rfl (by rw [HSW.out, ZW_size]; exact infoW) h
      have ST2 : ∀ {ops : Array Oper} {rest : List Oper} {op : Oper} {a : Act} {Q : Exit → Act → World → Prop}, op.guard = none → op.op = .store 87 (.tmp 2) (.tmp 53) → a.eval (.tmp 2) = .pointer (some ⟨w.heap.size, 0, none⟩) → a.eval (.tmp 53) = .agg (WV 2 Mi.ZM (MV [n, m] L) Mc.ZM ZT) → wpList Try.prog ops Q rest (a.put op.dst undef) ((w2.setCells (w.heap.size + 1) 142 (MV [n, m] L).toList).setCells (w.heap.size) 0 (WV 2 Mi.ZM (MV [n, m] L) Mc.ZM ZT).toList) → wpList Try.prog ops Q (op :: rest) a (w2.setCells (w.heap.size + 1) 142 (MV [n, m] L).toList) := fun hg ho hx hy h => step_store hg 87 (.tmp 2) (.tmp 53) ho hx hy HZ3.out (HSW.out) (by rw [ZW_size]; exact infoW) (WV_one _ _ _ _ _ Mi.ZM_one (MV_one _ _) Mc.ZM_one ZT_one) h
      clear hz3 hm3
      go_wp2_with (first | ((with_reducible refine STM rfl rfl rfl rfl ?_)) | ((with_reducible refine LDW rfl rfl rfl ?_)) | ((with_reducible refine ST2 rfl rfl rfl rfl ?_)))
      have hload := load_block (setCells_block HZ3.out (HSW.out)) 87 _ Try.underlying87 rfl (by rw [HSW.out, ZW_size]; exact infoW)
      refine bodyPost_ret (results_c1 rfl _ _ _ _ _ rfl hload) rfl ⟨rfl, setCells_below _ (Nat.le_refl _) _ _ _ HB3.out⟩
    · obtain ⟨n, m, L, hmsg, hn, hmm, hL, hraw⟩ := Ma.msg_full b
      have HL := Lib.hid hL
      have HMSG := Lib.hid hmsg
      have hkd : kdW b = 0 := by unfold kdW; rw [hE, if_neg hbad]
      rw [Ma.ZM_msg b hbad] at hrr
      obtain ⟨E, hEE⟩ : ∃ E, badM 2 92 b = E := ⟨_, rfl⟩
      rw [hEE] at hE hbad
      have HBAD := Lib.hid hEE
      suffices hS : Calls Try.prog 52 #[.slice (some ad) b.length c] w (fun e w' => e = .returned (.tuple #[.agg ZW, .int .i64 (E)]) ∧ Below w.heap.size w w') from hS.mono (fun e w' h => ⟨.slice none 0 0, h.1.trans (by rw [hkd, hi, hrr, hcc, htt, hE]; rfl), by rw [htt]; exact RB.nil _, h.2⟩)
      clear hkd hi hrr hcc htt hE
      have hE2 : (E != 0) = true := bne_iff_ne.2 hbad
      clear hEE hmsg hraw hL
      have F2 : Hid (((w.alloc (.cells ZW 87)).alloc (.cells ZW 87)).heap[w.heap.size + 1]? = some (.cells ZW 87 (0, 0))) := Lib.hid (blk_new1 w _ _)
      have hsx : (WV 2 Mi.ZM Ma.ZM Mc.ZM ZT).size = ZW.size := by rw [ZW_size]; exact WV_size _ _ _ _ _ Mi.ZM_size Ma.ZM_size Mc.ZM_size rfl
      have AL2 : ∀ {ops : Array Oper} {rest : List Oper} {op : Oper} {a : Act} {Q : Exit → Act → World → Prop}, op.guard = none → op.op = .alloc 87 → wpList Try.prog ops Q rest (a.put op.dst (.pointer (some ⟨w.heap.size + 1, 0, none⟩))) ((w.alloc (.cells ZW 87)).alloc (.cells ZW 87)) → wpList Try.prog ops Q (op :: rest) a (w.alloc (.cells ZW 87)) := fun hg ho h => step_alloc hg 87 ho ZW zeroW (by rw [size_push]; exact h)
      have ST4 : ∀ {ops : Array Oper} {rest : List Oper} {op : Oper} {a : Act} {Q : Exit → Act → World → Prop}, op.guard = none → op.op = .store 87 (.tmp 4) (.tmp 14) → a.eval (.tmp 4) = .pointer (some ⟨w.heap.size + 1, 0, none⟩) → a.eval (.tmp 14) = .agg ((WV 2 Mi.ZM Ma.ZM Mc.ZM ZT)) → wpList Try.prog ops Q rest (a.put op.dst undef) (((w.alloc (.cells ZW 87)).alloc (.cells ZW 87)).setCells (w.heap.size + 1) 0 ((WV 2 Mi.ZM Ma.ZM Mc.ZM ZT)).toList) → wpList Try.prog ops Q (op :: rest) a ((w.alloc (.cells ZW 87)).alloc (.cells ZW 87)) := fun hg ho hx hy h => step_store hg 87 (.tmp 4) (.tmp 14) ho hx hy F2.out (hsx) (by rw [ZW_size]; exact infoW) (WV_one _ _ _ _ _ Mi.ZM_one Ma.ZM_one Mc.ZM_one ZT_one) h
      have hm := setCells_block F2.out hsx
      have hbw : Below w.heap.size w (((w.alloc (.cells ZW 87)).alloc (.cells ZW 87)).setCells (w.heap.size + 1) 0 (WV 2 Mi.ZM Ma.ZM Mc.ZM ZT).toList) := setCells_below _ (Nat.le_succ _) _ _ _ (below_alloc (below_alloc (Below.refl _ _) _) _)
      have hz : (((w.alloc (.cells ZW 87)).alloc (.cells ZW 87)).setCells (w.heap.size + 1) 0 (WV 2 Mi.ZM Ma.ZM Mc.ZM ZT).toList).heap[w.heap.size]? = some (.cells ZW 87 (0, 0)) := ((setCells_below (B := w.heap.size + 1) _ (Nat.le_refl _) _ _ ((w.alloc (.cells ZW 87)).alloc (.cells ZW 87)) (Below.refl _ _)).block _ (Nat.lt_succ_self _)).trans (blk_old (blk_new w _) _)
      have c0 : (((w.alloc (.cells ZW 87)).alloc (.cells ZW 87)).setCells (w.heap.size + 1) 0 (WV 2 Mi.ZM Ma.ZM Mc.ZM ZT).toList).cell? ⟨w.heap.size + 1, 0, none⟩ = some (.int .i64 (2)) := (blk_cell hm 0).trans (WV_0 _ _ _ _ _)
      have HM := Lib.hid hm
      have HZ := Lib.hid hz
      have HB := Lib.hid hbw
      have HR1 := Lib.hid (hr.below hbw)
      clear hm hz hbw hsx hc0
      generalize (b.getD 0 0).toNat = x0 at hd0 hx0 hy0
      clear h2
      go_enter Try.func52, Try.ntmps52
      go_wp2_with (first | ((with_reducible refine AL2 rfl rfl ?_)) | ((with_reducible refine step_alloc rfl 87 rfl ZW zeroW ?_)) | ((with_reducible refine step_build1 rfl 87 (.tmp 13) rfl (.int .i64 (2)) rfl (WV 2 Mi.ZM Ma.ZM Mc.ZM ZT) (buildW1 (2)) ?_)) | ((with_reducible refine ST4 rfl rfl rfl rfl ?_)))
      refine (Ma.parse_any (some ad) c b _ hc HR1.out hl).mono ?_
      rintro e w2 ⟨rfl, hb2⟩
      rw [HMSG.out, HBAD.out]
      have HM2 := Lib.hid (blk_below HM.out hb2)
      have HZ2 := Lib.hid (blk_below HZ.out hb2)
      have HB2 := Lib.hid (below_comp HB.out hb2)
      clear hb2 HM HZ HB c0 ST4 AL2 F2
      have STM : ∀ {ops : Array Oper} {rest : List Oper} {op : Oper} {a : Act} {Q : Exit → Act → World → Prop}, op.guard = none → op.op = .store 40 (.tmp 32) (.tmp 30) → a.eval (.tmp 32) = .pointer (some ⟨w.heap.size + 1, 142, none⟩) → a.eval (.tmp 30) = .agg (MV [n, m] L) → wpList Try.prog ops Q rest (a.put op.dst undef) (w2.setCells (w.heap.size + 1) 142 (MV [n, m] L).toList) → wpList Try.prog ops Q (op :: rest) a w2 := fun hg ho hx hy h => step_store_at hg 40 (.tmp 32) (.tmp 30) ho hx hy (by rw [Array.size_append, Mi.ZM_size]; rfl) (show w2.heap[w.heap.size + 1]? = some (.cells ((#[.int .i64 (2)] ++ Mi.ZM) ++ Ma.ZM ++ (Mc.ZM ++ ZT)) 87 (0, 0)) from by rw [← WV_r]; exact HM2.out) (by rw [MV2s, HL.out, Ma.ZM_size]) (by rw [Ma.ZM_size]; exact Ma.infoM) (MV_one _ _) h
      have hz3 : (w2.setCells (w.heap.size + 1) 142 (MV [n, m] L).toList).heap[w.heap.size]? = some (.cells ZW 87 (0, 0)) := ((setCells_below (B := w.heap.size + 1) _ (Nat.le_refl _) _ _ w2 (Below.refl _ _)).block _ (Nat.lt_succ_self _)).trans HZ2.out
      have HZ3 := Lib.hid hz3
      have HB3 := Lib.hid (setCells_below (w.heap.size + 1) (Nat.le_succ _) (MV [n, m] L).toList 142 _ HB2.out)
      have ST2 : ∀ {ops : Array Oper} {rest : List Oper} {op : Oper} {a : Act} {Q : Exit → Act → World → Prop}, op.guard = none → op.op = .store 87 (.tmp 2) (.tmp 51) → a.eval (.tmp 2) = .pointer (some ⟨w.heap.size, 0, none⟩) → a.eval (.tmp 51) = .agg (ZW) → wpList Try.prog ops Q rest (a.put op.dst undef) ((w2.setCells (w.heap.size + 1) 142 (MV [n, m] L).toList).setCells (w.heap.size) 0 (ZW).toList) → wpList Try.prog ops Q (op :: rest) a (w2.setCells (w.heap.size + 1) 142 (MV [n, m] L).toList) := fun hg ho hx hy h => step_store hg 87 (.tmp 2) (.tmp 51) ho hx hy HZ3.out (rfl) (by rw [ZW_size]; exact infoW) (ZW_one) h
      clear hz3
      go_wp2_with (first | ((with_reducible refine STM rfl rfl rfl rfl ?_)) | ((with_reducible refine step_build rfl 87 rfl ZW buildW0 ?_)) | ((with_reducible refine ST2 rfl rfl rfl rfl ?_)))
      have hload := load_block (setCells_block HZ3.out (rfl)) 87 _ Try.underlying87 rfl (by rw [ZW_size]; exact infoW)
      refine bodyPost_ret (results_c1 rfl _ _ _ _ _ rfl hload) rfl ⟨rfl, setCells_below _ (Nat.le_refl _) _ _ _ HB3.out⟩
  by_cases h3 : b.getD 0 0 = 3
  · obtain ⟨hE, hi, hrr, hcc, htt⟩ := kindW3 b h3
    have hx0 : ((b.getD 0 0).toNat : Int) = 3 := by rw [h3]; rfl
    obtain ⟨ad, rfl, hc0⟩ := reads_cell hr 0 (by omega)
    rw [show ad.add 0 = ad by simp [Addr.add]] at hc0
    have hd0 := fun o1 => pw_cell_below (below_alloc (Below.refl w.heap.size w) o1) hc0
    have hy0 := byte_lt (b.getD 0 0)
    by_cases hbad : badM 3 64 b = 0
    · obtain ⟨n, L, hmsg, hn, hL, hraw⟩ := Mc.msg_full b
      have HL := Lib.hid hL
      have HMSG := Lib.hid hmsg
      have hkd : kdW b = 3 := by unfold kdW; rw [hE, if_pos hbad, hx0]
      suffices hS : Calls Try.prog 52 #[.slice (some ad) b.length c] w (fun e w' => e = .returned (.tuple #[.agg (WV 3 Mi.ZM Ma.ZM (MV [n] L) ZT), .int .i64 0]) ∧ Below w.heap.size w w') from hS.mono (fun e w' h => ⟨.slice none 0 0, h.1.trans (by rw [hkd, hi, hrr, hcc, htt, hE, hbad, hmsg]; rfl), by rw [htt]; exact RB.nil _, h.2⟩)
      have HBAD := Lib.hid hbad
      clear hkd hi hrr hcc htt hE hbad hmsg hraw hL
      have F2 : Hid (((w.alloc (.cells ZW 87)).alloc (.cells ZW 87)).heap[w.heap.size + 1]? = some (.cells ZW 87 (0, 0))) := Lib.hid (blk_new1 w _ _)
      have hsx : (WV 3 Mi.ZM Ma.ZM Mc.ZM ZT).size = ZW.size := by rw [ZW_size]; exact WV_size _ _ _ _ _ Mi.ZM_size Ma.ZM_size Mc.ZM_size rfl
      have AL2 : ∀ {ops : Array Oper} {rest : List Oper} {op : Oper} {a : Act} {Q : Exit → Act → World → Prop}, op.guard = none → op.op = .alloc 87 → wpList Try.prog ops Q rest (a.put op.dst (.pointer (some ⟨w.heap.size + 1, 0, none⟩))) ((w.alloc (.cells ZW 87)).alloc (.cells ZW 87)) → wpList Try.prog ops Q (op :: rest) a (w.alloc (.cells ZW 87)) := fun hg ho h => step_alloc hg 87 ho ZW zeroW (by rw [size_push]; exact h)
      have ST4 : ∀ {ops : Array Oper} {rest : List Oper} {op : Oper} {a : Act} {Q : Exit → Act → World → Prop}, op.guard = none → op.op = .store 87 (.tmp 4) (.tmp 14) → a.eval (.tmp 4) = .pointer (some ⟨w.heap.size + 1, 0, none⟩) → a.eval (.tmp 14) = .agg ((WV 3 Mi.ZM Ma.ZM Mc.ZM ZT)) → wpList Try.prog ops Q rest (a.put op.dst undef) (((w.alloc (.cells ZW 87)).alloc (.cells ZW 87)).setCells (w.heap.size + 1) 0 ((WV 3 Mi.ZM Ma.ZM Mc.ZM ZT)).toList) → wpList Try.prog ops Q (op :: rest) a ((w.alloc (.cells ZW 87)).alloc (.cells ZW 87)) := fun hg ho hx hy h => step_store hg 87 (.tmp 4) (.tmp 14) ho hx hy F2.out (hsx) (by rw [ZW_size]; exact infoW) (WV_one _ _ _ _ _ Mi.ZM_one Ma.ZM_one Mc.ZM_one ZT_one) h
      have hm := setCells_block F2.out hsx
      have hbw : Below w.heap.size w (((w.alloc (.cells ZW 87)).alloc (.cells ZW 87)).setCells (w.heap.size + 1) 0 (WV 3 Mi.ZM Ma.ZM Mc.ZM ZT).toList) := setCells_below _ (Nat.le_succ _) _ _ _ (below_alloc (below_alloc (Below.refl _ _) _) _)
      have hz : (((w.alloc (.cells ZW 87)).alloc (.cells ZW 87)).setCells (w.heap.size + 1) 0 (WV 3 Mi.ZM Ma.ZM Mc.ZM ZT).toList).heap[w.heap.size]? = some (.cells ZW 87 (0, 0)) := ((setCells_below (B := w.heap.size + 1) _ (Nat.le_refl _) _ _ ((w.alloc (.cells ZW 87)).alloc (.cells ZW 87)) (Below.refl _ _)).block _ (Nat.lt_succ_self _)).trans (blk_old (blk_new w _) _)
      have c0 : (((w.alloc (.cells ZW 87)).alloc (.cells ZW 87)).setCells (w.heap.size + 1) 0 (WV 3 Mi.ZM Ma.ZM Mc.ZM ZT).toList).cell? ⟨w.heap.size + 1, 0, none⟩ = some (.int .i64 (3)) := (blk_cell hm 0).trans (WV_0 _ _ _ _ _)
      have HM := Lib.hid hm
      have HZ := Lib.hid hz
      have HB := Lib.hid hbw
      have HR1 := Lib.hid (hr.below hbw)
      clear hm hz hbw hsx hc0
      generalize (b.getD 0 0).toNat = x0 at hd0 hx0 hy0
      clear h3
      go_enter Try.func52, Try.ntmps52
      go_wp2_with (first | ((with_reducible refine AL2 rfl rfl ?_)) | ((with_reducible refine step_alloc rfl 87 rfl ZW zeroW ?_)) | ((with_reducible refine step_build1 rfl 87 (.tmp 13) rfl (.int .i64 (3)) rfl (WV 3 Mi.ZM Ma.ZM Mc.ZM ZT) (buildW1 (3)) ?_)) | ((with_reducible refine ST4 rfl rfl rfl rfl ?_)))
      refine (Mc.parse_any (some ad) c b _ hc HR1.out hl).mono ?_
      rintro e w2 ⟨rfl, hb2⟩
      rw [HMSG.out, HBAD.out]
      have HM2 := Lib.hid (blk_below HM.out hb2)
      have HZ2 := Lib.hid (blk_below HZ.out hb2)
      have HB2 := Lib.hid (below_comp HB.out hb2)
      clear hb2 HM HZ HB c0 ST4 AL2 F2
      have STM : ∀ {ops : Array Oper} {rest : List Oper} {op : Oper} {a : Act} {Q : Exit → Act → World → Prop}, op.guard = none → op.op = .store 26 (.tmp 40) (.tmp 38) → a.eval (.tmp 40) = .pointer (some ⟨w.heap.size + 1, 224, none⟩) → a.eval (.tmp 38) = .agg (MV [n] L) → wpList Try.prog ops Q rest (a.put op.dst undef) (w2.setCells (w.heap.size + 1) 224 (MV [n] L).toList) → wpList Try.prog ops Q (op :: rest) a w2 := fun hg ho hx hy h => step_store_at hg 26 (.tmp 40) (.tmp 38) ho hx hy (by rw [Array.size_append, Array.size_append, Mi.ZM_size, Ma.ZM_size]; rfl) (show w2.heap[w.heap.size + 1]? = some (.cells ((#[.int .i64 (3)] ++ Mi.ZM ++ Ma.ZM) ++ Mc.ZM ++ ZT) 87 (0, 0)) from by rw [← WV_c]; exact HM2.out) (by rw [MV1s, HL.out, Mc.ZM_size]) (by rw [Mc.ZM_size]; exact Mc.infoM) (MV_one _ _) h
      have hz3 : (w2.setCells (w.heap.size + 1) 224 (MV [n] L).toList).heap[w.heap.size]? = some (.cells ZW 87 (0, 0)) := ((setCells_below (B := w.heap.size + 1) _ (Nat.le_refl _) _ _ w2 (Below.refl _ _)).block _ (Nat.lt_succ_self _)).trans HZ2.out
      have HZ3 := Lib.hid hz3
      have HB3 := Lib.hid (setCells_below (w.heap.size + 1) (Nat.le_succ _) (MV [n] L).toList 224 _ HB2.out)
      have hm3 : (w2.setCells (w.heap.size + 1) 224 (MV [n] L).toList).heap[w.heap.size + 1]? = some (.cells (WV 3 Mi.ZM Ma.ZM (MV [n] L) ZT) 87 (0, 0)) := by
        have h := setCells_mid (M' := MV [n] L) (show w2.heap[w.heap.size + 1]? = some (.cells ((#[.int .i64 (3)] ++ Mi.ZM ++ Ma.ZM) ++ Mc.ZM ++ ZT) 87 (0, 0)) from by rw [← WV_c]; exact HM2.out) (by rw [MV1s, HL.out, Mc.ZM_size])
        rw [show ((#[.int .i64 (3)] ++ Mi.ZM ++ Ma.ZM) : Array Value).size = 224 from (by rw [Array.size_append, Array.size_append, Mi.ZM_size, Ma.ZM_size]; rfl)] at h
        rw [WV_c]; exact h
      have HM3 := Lib.hid hm3
      have HSW : Hid ((WV 3 Mi.ZM Ma.ZM (MV [n] L) ZT).size = ZW.size) := Lib.hid (by rw [ZW_size]; exact WV_size _ _ _ _ _ (Mi.ZM_size) (Ma.ZM_size) (by rw [MV1s, HL.out]) rfl)
      have LDW : ∀ {ops : Array Oper} {rest : List Oper} {op : Oper} {a : Act} {Q : Exit → Act → World → Prop}, op.guard = none → op.op = .load 87 (.tmp 4) → a.eval (.tmp 4) = .pointer (some ⟨w.heap.size + 1, 0, none⟩) → wpList Try.prog ops Q rest (a.put op.dst (.agg (WV 3 Mi.ZM Ma.ZM (MV [n] L) ZT))) (w2.setCells (w.heap.size + 1) 224 (MV [n] L).toList) → wpList Try.prog ops Q (op :: rest) a (w2.setCells (w.heap.size + 1) 224 (MV [n] L).toList) := fun hg ho hx h => step_load hg 87 (.tmp 4) ho hx HM3.out _ Try.underlying87 rfl (by rw [HSW.out, ZW_size]; exact infoW) h
      have ST2 : ∀ {ops : Array Oper} {rest : List Oper} {op : Oper} {a : Act} {Q : Exit → Act → World → Prop}, op.guard = none → op.op = .store 87 (.tmp 2) (.tmp 53) → a.eval (.tmp 2) = .pointer (some ⟨w.heap.size, 0, none⟩) → a.eval (.tmp 53) = .agg (WV 3 Mi.ZM Ma.ZM (MV [n] L) ZT) → wpList Try.prog ops Q rest (a.put op.dst undef) ((w2.setCells (w.heap.size + 1) 224 (MV [n] L).toList).setCells (w.heap.size) 0 (WV 3 Mi.ZM Ma.ZM (MV [n] L) ZT).toList) → wpList Try.prog ops Q (op :: rest) a (w2.setCells (w.heap.size + 1) 224 (MV [n] L).toList) := fun hg ho hx hy h => step_store hg 87 (.tmp 2) (.tmp 53) ho hx hy HZ3.out (HSW.out) (by rw [ZW_size]; exact infoW) (WV_one _ _ _ _ _ Mi.ZM_one Ma.ZM_one (MV_one _ _) ZT_one) h
      clear hz3 hm3
      go_wp2_with (first | ((with_reducible refine STM rfl rfl rfl rfl ?_)) | ((with_reducible refine LDW rfl rfl rfl ?_)) | ((with_reducible refine ST2 rfl rfl rfl rfl ?_)))
      have hload := load_block (setCells_block HZ3.out (HSW.out)) 87 _ Try.underlying87 rfl (by rw [HSW.out, ZW_size]; exact infoW)
      refine bodyPost_ret (results_c1 rfl _ _ _ _ _ rfl hload) rfl ⟨rfl, setCells_below _ (Nat.le_refl _) _ _ _ HB3.out⟩
    · obtain ⟨n, L, hmsg, hn, hL, hraw⟩ := Mc.msg_full b
      have HL := Lib.hid hL
      have HMSG := Lib.hid hmsg
      have hkd : kdW b = 0 := by unfold kdW; rw [hE, if_neg hbad]
      rw [Mc.ZM_msg b hbad] at hcc
      obtain ⟨E, hEE⟩ : ∃ E, badM 3 64 b = E := ⟨_, rfl⟩
      rw [hEE] at hE hbad
      have HBAD := Lib.hid hEE
      suffices hS : Calls Try.prog 52 #[.slice (some ad) b.length c] w (fun e w' => e = .returned (.tuple #[.agg ZW, .int .i64 (E)]) ∧ Below w.heap.size w w') from hS.mono (fun e w' h => ⟨.slice none 0 0, h.1.trans (by rw [hkd, hi, hrr, hcc, htt, hE]; rfl), by rw [htt]; exact RB.nil _, h.2⟩)
      clear hkd hi hrr hcc htt hE
      have hE2 : (E != 0) = true := bne_iff_ne.2 hbad
      clear hEE hmsg hraw hL
      have F2 : Hid (((w.alloc (.cells ZW 87)).alloc (.cells ZW 87)).heap[w.heap.size + 1]? = some (.cells ZW 87 (0, 0))) := Lib.hid (blk_new1 w _ _)
      have hsx : (WV 3 Mi.ZM Ma.ZM Mc.ZM ZT).size = ZW.size := by rw [ZW_size]; exact WV_size _ _ _ _ _ Mi.ZM_size Ma.ZM_size Mc.ZM_size rfl
      have AL2 : ∀ {ops : Array Oper} {rest : List Oper} {op : Oper} {a : Act} {Q : Exit → Act → World → Prop}, op.guard = none → op.op = .alloc 87 → wpList Try.prog ops Q rest (a.put op.dst (.pointer (some ⟨w.heap.size + 1, 0, none⟩))) ((w.alloc (.cells ZW 87)).alloc (.cells ZW 87)) → wpList Try.prog ops Q (op :: rest) a (w.alloc (.cells ZW 87)) := fun hg ho h => step_alloc hg 87 ho ZW zeroW (by rw [size_push]; exact h)
      have ST4 : ∀ {ops : Array Oper} {rest : List Oper} {op : Oper} {a : Act} {Q : Exit → Act → World → Prop}, op.guard = none → op.op = .store 87 (.tmp 4) (.tmp 14) → a.eval (.tmp 4) = .pointer (some ⟨w.heap.size + 1, 0, none⟩) → a.eval (.tmp 14) = .agg ((WV 3 Mi.ZM Ma.ZM Mc.ZM ZT)) → wpList Try.prog ops Q rest (a.put op.dst undef) (((w.alloc (.cells ZW 87)).alloc (.cells ZW 87)).setCells (w.heap.size + 1) 0 ((WV 3 Mi.ZM Ma.ZM Mc.ZM ZT)).toList) → wpList Try.prog ops Q (op :: rest) a ((w.alloc (.cells ZW 87)).alloc (.cells ZW 87)) := fun hg ho hx hy h => step_store hg 87 (.tmp 4) (.tmp 14) ho hx hy F2.out (hsx) (by rw [ZW_size]; exact infoW) (WV_one _ _ _ _ _ Mi.ZM_one Ma.ZM_one Mc.ZM_one ZT_one) h
      have hm := setCells_block F2.out hsx
      have hbw : Below w.heap.size w (((w.alloc (.cells ZW 87)).alloc (.cells ZW 87)).setCells (w.heap.size + 1) 0 (WV 3 Mi.ZM Ma.ZM Mc.ZM ZT).toList) := setCells_below _ (Nat.le_succ _) _ _ _ (below_alloc (below_alloc (Below.refl _ _) _) _)
      have hz : (((w.alloc (.cells ZW 87)).alloc (.cells ZW 87)).setCells (w.heap.size + 1) 0 (WV 3 Mi.ZM Ma.ZM Mc.ZM ZT).toList).heap[w.heap.size]? = some (.cells ZW 87 (0, 0)) := ((setCells_below (B := w.heap.size + 1) _ (Nat.le_refl _) _ _ ((w.alloc (.cells ZW 87)).alloc (.cells ZW 87)) (Below.refl _ _)).block _ (Nat.lt_succ_self _)).trans (blk_old (blk_new w _) _)
      have c0 : (((w.alloc (.cells ZW 87)).alloc (.cells ZW 87)).setCells (w.heap.size + 1) 0 (WV 3 Mi.ZM Ma.ZM Mc.ZM ZT).toList).cell? ⟨w.heap.size + 1, 0, none⟩ = some (.int .i64 (3)) := (blk_cell hm 0).trans (WV_0 _ _ _ _ _)
      have HM := Lib.hid hm
      have HZ := Lib.hid hz
      have HB := Lib.hid hbw
      have HR1 := Lib.hid (hr.below hbw)
      clear hm hz hbw hsx hc0
      generalize (b.getD 0 0).toNat = x0 at hd0 hx0 hy0
      clear h3
      go_enter Try.func52, Try.ntmps52
      go_wp2_with (first | ((with_reducible refine AL2 rfl rfl ?_)) | ((with_reducible refine step_alloc rfl 87 rfl ZW zeroW ?_)) | ((with_reducible refine step_build1 rfl 87 (.tmp 13) rfl (.int .i64 (3)) rfl (WV 3 Mi.ZM Ma.ZM Mc.ZM ZT) (buildW1 (3)) ?_)) | ((with_reducible refine ST4 rfl rfl rfl rfl ?_)))
      refine (Mc.parse_any (some ad) c b _ hc HR1.out hl).mono ?_
      rintro e w2 ⟨rfl, hb2⟩
      rw [HMSG.out, HBAD.out]
      have HM2 := Lib.hid (blk_below HM.out hb2)
      have HZ2 := Lib.hid (blk_below HZ.out hb2)
      have HB2 := Lib.hid (below_comp HB.out hb2)
      clear hb2 HM HZ HB c0 ST4 AL2 F2
      have STM : ∀ {ops : Array Oper} {rest : List Oper} {op : Oper} {a : Act} {Q : Exit → Act → World → Prop}, op.guard = none → op.op = .store 26 (.tmp 40) (.tmp 38) → a.eval (.tmp 40) = .pointer (some ⟨w.heap.size + 1, 224, none⟩) → a.eval (.tmp 38) = .agg (MV [n] L) → wpList Try.prog ops Q rest (a.put op.dst undef) (w2.setCells (w.heap.size + 1) 224 (MV [n] L).toList) → wpList Try.prog ops Q (op :: rest) a w2 := fun hg ho hx hy h => step_store_at hg 26 (.tmp 40) (.tmp 38) ho hx hy (by rw [Array.size_append, Array.size_append, Mi.ZM_size, Ma.ZM_size]; rfl) (show w2.heap[w.heap.size + 1]? = some (.cells ((#[.int .i64 (3)] ++ Mi.ZM ++ Ma.ZM) ++ Mc.ZM ++ ZT) 87 (0, 0)) from by rw [← WV_c]; exact HM2.out) (by rw [MV1s, HL.out, Mc.ZM_size]) (by rw [Mc.ZM_size]; exact Mc.infoM) (MV_one _ _) h
      have hz3 : (w2.setCells (w.heap.size + 1) 224 (MV [n] L).toList).heap[w.heap.size]? = some (.cells ZW 87 (0, 0)) := ((setCells_below (B := w.heap.size + 1) _ (Nat.le_refl _) _ _ w2 (Below.refl _ _)).block _ (Nat.lt_succ_self _)).trans HZ2.out
      have HZ3 := Lib.hid hz3
      have HB3 := Lib.hid (setCells_below (w.heap.size + 1) (Nat.le_succ _) (MV [n] L).toList 224 _ HB2.out)
      have ST2 : ∀ {ops : Array Oper} {rest : List Oper} {op : Oper} {a : Act} {Q : Exit → Act → World → Prop}, op.guard = none → op.op = .store 87 (.tmp 2) (.tmp 51) → a.eval (.tmp 2) = .pointer (some ⟨w.heap.size, 0, none⟩) → a.eval (.tmp 51) = .agg (ZW) → wpList Try.prog ops Q rest (a.put op.dst undef) ((w2.setCells (w.heap.size + 1) 224 (MV [n] L).toList).setCells (w.heap.size) 0 (ZW).toList) → wpList Try.prog ops Q (op :: rest) a (w2.setCells (w.heap.size + 1) 224 (MV [n] L).toList) := fun hg ho hx hy h => step_store hg 87 (.tmp 2) (.tmp 51) ho hx hy HZ3.out (rfl) (by rw [ZW_size]; exact infoW) (ZW_one) h
      clear hz3
      go_wp2_with (first | ((with_reducible refine STM rfl rfl rfl rfl ?_)) | ((with_reducible refine step_build rfl 87 rfl ZW buildW0 ?_)) | ((with_reducible refine ST2 rfl rfl rfl rfl ?_)))
      have hload := load_block (setCells_block HZ3.out (rfl)) 87 _ Try.underlying87 rfl (by rw [ZW_size]; exact infoW)
      refine bodyPost_ret (results_c1 rfl _ _ _ _ _ rfl hload) rfl ⟨rfl, setCells_below _ (Nat.le_refl _) _ _ _ HB3.out⟩
  by_cases h4 : b.getD 0 0 = 4
  · obtain ⟨hE, hi, hrr, hcc, htt⟩ := kindW4 b h4
    have hx0 : ((b.getD 0 0).toNat : Int) = 4 := by rw [h4]; rfl
    obtain ⟨ad, rfl, hc0⟩ := reads_cell hr 0 (by omega)
    rw [show ad.add 0 = ad by simp [Addr.add]] at hc0
    have hd0 := fun o1 => pw_cell_below (below_alloc (Below.refl w.heap.size w) o1) hc0
    have hy0 := byte_lt (b.getD 0 0)
    by_cases hbad : badD b = 0
    · obtain ⟨M4, hM4⟩ : ∃ M4, msgD b = M4 := ⟨_, rfl⟩
      obtain ⟨r, cc, body⟩ := M4
      have HMSG := Lib.hid hM4
      have hkd : kdW b = 4 := by unfold kdW; rw [hE, if_pos hbad, hx0]
      suffices hS : Calls Try.prog 52 #[.slice (some ad) b.length c] w (fun e w' => ∃ A4 k4, e = .returned (.tuple #[.agg (WV 4 Mi.ZM Ma.ZM Mc.ZM #[.int .u32 (r : Int), .int .u64 (cc : Int), .slice A4 body.length k4]), .int .i64 0]) ∧ RB w' (.slice A4 body.length k4) body ∧ Below w.heap.size w w') from hS.mono (fun e w' h => by
        obtain ⟨A4, k4, h1, h2, h3⟩ := h
        exact ⟨.slice A4 body.length k4, h1.trans (by rw [hkd, hi, hrr, hcc, htt, hE, hbad, hM4]), by rw [htt, hM4]; exact h2, h3⟩)
      have HBAD := Lib.hid hbad
      clear hkd hi hrr hcc htt hE hbad hM4
      have F2 : Hid (((w.alloc (.cells ZW 87)).alloc (.cells ZW 87)).heap[w.heap.size + 1]? = some (.cells ZW 87 (0, 0))) := Lib.hid (blk_new1 w _ _)
      have hsx : (WV 4 Mi.ZM Ma.ZM Mc.ZM ZT).size = ZW.size := by rw [ZW_size]; exact WV_size _ _ _ _ _ Mi.ZM_size Ma.ZM_size Mc.ZM_size rfl
      have AL2 : ∀ {ops : Array Oper} {rest : List Oper} {op : Oper} {a : Act} {Q : Exit → Act → World → Prop}, op.guard = none → op.op = .alloc 87 → wpList Try.prog ops Q rest (a.put op.dst (.pointer (some ⟨w.heap.size + 1, 0, none⟩))) ((w.alloc (.cells ZW 87)).alloc (.cells ZW 87)) → wpList Try.prog ops Q (op :: rest) a (w.alloc (.cells ZW 87)) := fun hg ho h => step_alloc hg 87 ho ZW zeroW (by rw [size_push]; exact h)
      have ST4 : ∀ {ops : Array Oper} {rest : List Oper} {op : Oper} {a : Act} {Q : Exit → Act → World → Prop}, op.guard = none → op.op = .store 87 (.tmp 4) (.tmp 14) → a.eval (.tmp 4) = .pointer (some ⟨w.heap.size + 1, 0, none⟩) → a.eval (.tmp 14) = .agg ((WV 4 Mi.ZM Ma.ZM Mc.ZM ZT)) → wpList Try.prog ops Q rest (a.put op.dst undef) (((w.alloc (.cells ZW 87)).alloc (.cells ZW 87)).setCells (w.heap.size + 1) 0 ((WV 4 Mi.ZM Ma.ZM Mc.ZM ZT)).toList) → wpList Try.prog ops Q (op :: rest) a ((w.alloc (.cells ZW 87)).alloc (.cells ZW 87)) := fun hg ho hx hy h => step_store hg 87 (.tmp 4) (.tmp 14) ho hx hy F2.out (hsx) (by rw [ZW_size]; exact infoW) (WV_one _ _ _ _ _ Mi.ZM_one Ma.ZM_one Mc.ZM_one ZT_one) h
      have hm := setCells_block F2.out hsx
      have hbw : Below w.heap.size w (((w.alloc (.cells ZW 87)).alloc (.cells ZW 87)).setCells (w.heap.size + 1) 0 (WV 4 Mi.ZM Ma.ZM Mc.ZM ZT).toList) := setCells_below _ (Nat.le_succ _) _ _ _ (below_alloc (below_alloc (Below.refl _ _) _) _)
      have hz : (((w.alloc (.cells ZW 87)).alloc (.cells ZW 87)).setCells (w.heap.size + 1) 0 (WV 4 Mi.ZM Ma.ZM Mc.ZM ZT).toList).heap[w.heap.size]? = some (.cells ZW 87 (0, 0)) := ((setCells_below (B := w.heap.size + 1) _ (Nat.le_refl _) _ _ ((w.alloc (.cells ZW 87)).alloc (.cells ZW 87)) (Below.refl _ _)).block _ (Nat.lt_succ_self _)).trans (blk_old (blk_new w _) _)
      have c0 : (((w.alloc (.cells ZW 87)).alloc (.cells ZW 87)).setCells (w.heap.size + 1) 0 (WV 4 Mi.ZM Ma.ZM Mc.ZM ZT).toList).cell? ⟨w.heap.size + 1, 0, none⟩ = some (.int .i64 (4)) := (blk_cell hm 0).trans (WV_0 _ _ _ _ _)
      have HM := Lib.hid hm
      have HZ := Lib.hid hz
      have HB := Lib.hid hbw
      have HR1 := Lib.hid (hr.below hbw)
      clear hm hz hbw hsx hc0
      generalize (b.getD 0 0).toNat = x0 at hd0 hx0 hy0
      clear h4
      go_enter Try.func52, Try.ntmps52
      go_wp2_with (first | ((with_reducible refine AL2 rfl rfl ?_)) | ((with_reducible refine step_alloc rfl 87 rfl ZW zeroW ?_)) | ((with_reducible refine step_build1 rfl 87 (.tmp 13) rfl (.int .i64 (4)) rfl (WV 4 Mi.ZM Ma.ZM Mc.ZM ZT) (buildW1 (4)) ?_)) | ((with_reducible refine ST4 rfl rfl rfl rfl ?_)))
      refine (Da.parse_any (some ad) c b _ hc HR1.out).mono ?_
      rintro e w2 ⟨v, rfl, hv, hb2, hv2⟩
      rw [HMSG.out, HBAD.out]
      rw [HMSG.out] at hv
      obtain ⟨A4, k4, rfl, hk4, hr4⟩ := hv
      have HV2 : Hid (RB w2 (.slice A4 body.length k4) body) := Lib.hid ⟨A4, k4, rfl, hk4, hr4⟩
      have HAW : Hid (∀ g, g < w.heap.size + 2 → (Value.slice A4 body.length k4).ownBlock ≠ some g) := Lib.hid (fun g hg => hv2 g (Nat.lt_of_lt_of_le (by rw [size_push, size_push]; omega) (setCells_grown (w.heap.size + 1) ((WV 4 Mi.ZM Ma.ZM Mc.ZM ZT)).toList 0 ((w.alloc (.cells ZW 87)).alloc (.cells ZW 87))).size))
      have HM2 := Lib.hid (blk_below HM.out hb2)
      have HZ2 := Lib.hid (blk_below HZ.out hb2)
      have HB2 := Lib.hid (below_comp HB.out hb2)
      clear hb2 HM HZ HB c0 ST4 AL2 F2 hr4 hv2
      have STM : ∀ {ops : Array Oper} {rest : List Oper} {op : Oper} {a : Act} {Q : Exit → Act → World → Prop}, op.guard = none → op.op = .store 59 (.tmp 48) (.tmp 46) → a.eval (.tmp 48) = .pointer (some ⟨w.heap.size + 1, 281, none⟩) → a.eval (.tmp 46) = .agg (#[.int .u32 (r : Int), .int .u64 (cc : Int), .slice A4 body.length k4]) → wpList Try.prog ops Q rest (a.put op.dst undef) (w2.setCells (w.heap.size + 1) 281 (#[.int .u32 (r : Int), .int .u64 (cc : Int), .slice A4 body.length k4]).toList) → wpList Try.prog ops Q (op :: rest) a w2 := fun hg ho hx hy h => step_store_at hg 59 (.tmp 48) (.tmp 46) ho hx hy (by rw [Array.size_append, Array.size_append, Array.size_append, Mi.ZM_size, Ma.ZM_size, Mc.ZM_size]; rfl) (show w2.heap[w.heap.size + 1]? = some (.cells ((#[.int .i64 (4)] ++ Mi.ZM ++ Ma.ZM ++ Mc.ZM) ++ ZT ++ #[]) 87 (0, 0)) from by rw [← WV_t]; exact HM2.out) (rfl) (infoT) (T3_one _ _ _ _ _) h
      have hz3 : (w2.setCells (w.heap.size + 1) 281 (#[.int .u32 (r : Int), .int .u64 (cc : Int), .slice A4 body.length k4] : Array Value).toList).heap[w.heap.size]? = some (.cells ZW 87 (0, 0)) := ((setCells_below (B := w.heap.size + 1) _ (Nat.le_refl _) _ _ w2 (Below.refl _ _)).block _ (Nat.lt_succ_self _)).trans HZ2.out
      have HZ3 := Lib.hid hz3
      have HB3 := Lib.hid (setCells_below (w.heap.size + 1) (Nat.le_succ _) (#[.int .u32 (r : Int), .int .u64 (cc : Int), .slice A4 body.length k4] : Array Value).toList 281 _ HB2.out)
      have HV3 := Lib.hid (RB.grown HV2.out (setCells_grown (w.heap.size + 1) (#[.int .u32 (r : Int), .int .u64 (cc : Int), .slice A4 body.length k4] : Array Value).toList 281 w2) (.inr (HAW.out _ (by omega))))
      have hm3 : (w2.setCells (w.heap.size + 1) 281 (#[.int .u32 (r : Int), .int .u64 (cc : Int), .slice A4 body.length k4] : Array Value).toList).heap[w.heap.size + 1]? = some (.cells (WV 4 Mi.ZM Ma.ZM Mc.ZM #[.int .u32 (r : Int), .int .u64 (cc : Int), .slice A4 body.length k4]) 87 (0, 0)) := by
        have h := setCells_mid (M' := #[.int .u32 (r : Int), .int .u64 (cc : Int), .slice A4 body.length k4]) (show w2.heap[w.heap.size + 1]? = some (.cells ((#[.int .i64 (4)] ++ Mi.ZM ++ Ma.ZM ++ Mc.ZM) ++ ZT ++ #[]) 87 (0, 0)) from by rw [← WV_t]; exact HM2.out) rfl
        rw [show ((#[.int .i64 (4)] ++ Mi.ZM ++ Ma.ZM ++ Mc.ZM) : Array Value).size = 281 from (by rw [Array.size_append, Array.size_append, Array.size_append, Mi.ZM_size, Ma.ZM_size, Mc.ZM_size]; rfl)] at h
        rw [WV_t]; exact h
      have HM3 := Lib.hid hm3
      have HSW : Hid ((WV 4 Mi.ZM Ma.ZM Mc.ZM #[.int .u32 (r : Int), .int .u64 (cc : Int), .slice A4 body.length k4]).size = ZW.size) := Lib.hid (by rw [ZW_size]; exact WV_size _ _ _ _ _ Mi.ZM_size Ma.ZM_size Mc.ZM_size rfl)
      have LDW : ∀ {ops : Array Oper} {rest : List Oper} {op : Oper} {a : Act} {Q : Exit → Act → World → Prop}, op.guard = none → op.op = .load 87 (.tmp 4) → a.eval (.tmp 4) = .pointer (some ⟨w.heap.size + 1, 0, none⟩) → wpList Try.prog ops Q rest (a.put op.dst (.agg (WV 4 Mi.ZM Ma.ZM Mc.ZM #[.int .u32 (r : Int), .int .u64 (cc : Int), .slice A4 body.length k4]))) (w2.setCells (w.heap.size + 1) 281 (#[.int .u32 (r : Int), .int .u64 (cc : Int), .slice A4 body.length k4] : Array Value).toList) → wpList Try.prog ops Q (op :: rest) a (w2.setCells (w.heap.size + 1) 281 (#[.int .u32 (r : Int), .int .u64 (cc : Int), .slice A4 body.length k4] : Array Value).toList) := fun hg ho hx h => step_load hg 87 (.tmp 4) ho hx HM3.out _ Try.underlying87 rfl (by rw [HSW.out, ZW_size]; exact infoW) h
      have ST2 : ∀ {ops : Array Oper} {rest : List Oper} {op : Oper} {a : Act} {Q : Exit → Act → World → Prop}, op.guard = none → op.op = .store 87 (.tmp 2) (.tmp 53) → a.eval (.tmp 2) = .pointer (some ⟨w.heap.size, 0, none⟩) → a.eval (.tmp 53) = .agg (WV 4 Mi.ZM Ma.ZM Mc.ZM #[.int .u32 (r : Int), .int .u64 (cc : Int), .slice A4 body.length k4]) → wpList Try.prog ops Q rest (a.put op.dst undef) ((w2.setCells (w.heap.size + 1) 281 (#[.int .u32 (r : Int), .int .u64 (cc : Int), .slice A4 body.length k4] : Array Value).toList).setCells (w.heap.size) 0 (WV 4 Mi.ZM Ma.ZM Mc.ZM #[.int .u32 (r : Int), .int .u64 (cc : Int), .slice A4 body.length k4]).toList) → wpList Try.prog ops Q (op :: rest) a (w2.setCells (w.heap.size + 1) 281 (#[.int .u32 (r : Int), .int .u64 (cc : Int), .slice A4 body.length k4] : Array Value).toList) := fun hg ho hx hy h => step_store hg 87 (.tmp 2) (.tmp 53) ho hx hy HZ3.out (HSW.out) (by rw [ZW_size]; exact infoW) (WV_one _ _ _ _ _ Mi.ZM_one Ma.ZM_one Mc.ZM_one (T3_one _ _ _ _ _)) h
      clear hz3 hm3
      go_wp2_with (first | ((with_reducible refine STM rfl rfl rfl rfl ?_)) | ((with_reducible refine LDW rfl rfl rfl ?_)) | ((with_reducible refine ST2 rfl rfl rfl rfl ?_)))
      have hload := load_block (setCells_block HZ3.out (HSW.out)) 87 _ Try.underlying87 rfl (by rw [HSW.out, ZW_size]; exact infoW)
      refine bodyPost_ret (results_c1 rfl _ _ _ _ _ rfl hload) rfl ⟨A4, k4, rfl, RB.grown HV3.out (setCells_grown w.heap.size _ 0 _) (.inr (HAW.out _ (by omega))), setCells_below _ (Nat.le_refl _) _ _ _ HB3.out⟩
    · obtain ⟨M4, hM4⟩ : ∃ M4, msgD b = M4 := ⟨_, rfl⟩
      obtain ⟨r, cc, body⟩ := M4
      have HMSG := Lib.hid hM4
      have hkd : kdW b = 0 := by unfold kdW; rw [hE, if_neg hbad]
      rw [msgD_bad b hbad] at htt
      obtain ⟨E, hEE⟩ : ∃ E, badD b = E := ⟨_, rfl⟩
      rw [hEE] at hE hbad
      have HBAD := Lib.hid hEE
      suffices hS : Calls Try.prog 52 #[.slice (some ad) b.length c] w (fun e w' => e = .returned (.tuple #[.agg ZW, .int .i64 (E)]) ∧ Below w.heap.size w w') from hS.mono (fun e w' h => ⟨.slice none 0 0, h.1.trans (by rw [hkd, hi, hrr, hcc, htt, hE]; rfl), by rw [htt]; exact RB.nil _, h.2⟩)
      clear hkd hi hrr hcc htt hE
      have hE2 : (E != 0) = true := bne_iff_ne.2 hbad
      clear hEE hM4
      have F2 : Hid (((w.alloc (.cells ZW 87)).alloc (.cells ZW 87)).heap[w.heap.size + 1]? = some (.cells ZW 87 (0, 0))) := Lib.hid (blk_new1 w _ _)
      have hsx : (WV 4 Mi.ZM Ma.ZM Mc.ZM ZT).size = ZW.size := by rw [ZW_size]; exact WV_size _ _ _ _ _ Mi.ZM_size Ma.ZM_size Mc.ZM_size rfl
      have AL2 : ∀ {ops : Array Oper} {rest : List Oper} {op : Oper} {a : Act} {Q : Exit → Act → World → Prop}, op.guard = none → op.op = .alloc 87 → wpList Try.prog ops Q rest (a.put op.dst (.pointer (some ⟨w.heap.size + 1, 0, none⟩))) ((w.alloc (.cells ZW 87)).alloc (.cells ZW 87)) → wpList Try.prog ops Q (op :: rest) a (w.alloc (.cells ZW 87)) := fun hg ho h => step_alloc hg 87 ho ZW zeroW (by rw [size_push]; exact h)
      have ST4 : ∀ {ops : Array Oper} {rest : List Oper} {op : Oper} {a : Act} {Q : Exit → Act → World → Prop}, op.guard = none → op.op = .store 87 (.tmp 4) (.tmp 14) → a.eval (.tmp 4) = .pointer (some ⟨w.heap.size + 1, 0, none⟩) → a.eval (.tmp 14) = .agg ((WV 4 Mi.ZM Ma.ZM Mc.ZM ZT)) → wpList Try.prog ops Q rest (a.put op.dst undef) (((w.alloc (.cells ZW 87)).alloc (.cells ZW 87)).setCells (w.heap.size + 1) 0 ((WV 4 Mi.ZM Ma.ZM Mc.ZM ZT)).toList) → wpList Try.prog ops Q (op :: rest) a ((w.alloc (.cells ZW 87)).alloc (.cells ZW 87)) := fun hg ho hx hy h => step_store hg 87 (.tmp 4) (.tmp 14) ho hx hy F2.out (hsx) (by rw [ZW_size]; exact infoW) (WV_one _ _ _ _ _ Mi.ZM_one Ma.ZM_one Mc.ZM_one ZT_one) h
      have hm := setCells_block F2.out hsx
      have hbw : Below w.heap.size w (((w.alloc (.cells ZW 87)).alloc (.cells ZW 87)).setCells (w.heap.size + 1) 0 (WV 4 Mi.ZM Ma.ZM Mc.ZM ZT).toList) := setCells_below _ (Nat.le_succ _) _ _ _ (below_alloc (below_alloc (Below.refl _ _) _) _)
      have hz : (((w.alloc (.cells ZW 87)).alloc (.cells ZW 87)).setCells (w.heap.size + 1) 0 (WV 4 Mi.ZM Ma.ZM Mc.ZM ZT).toList).heap[w.heap.size]? = some (.cells ZW 87 (0, 0)) := ((setCells_below (B := w.heap.size + 1) _ (Nat.le_refl _) _ _ ((w.alloc (.cells ZW 87)).alloc (.cells ZW 87)) (Below.refl _ _)).block _ (Nat.lt_succ_self _)).trans (blk_old (blk_new w _) _)
      have c0 : (((w.alloc (.cells ZW 87)).alloc (.cells ZW 87)).setCells (w.heap.size + 1) 0 (WV 4 Mi.ZM Ma.ZM Mc.ZM ZT).toList).cell? ⟨w.heap.size + 1, 0, none⟩ = some (.int .i64 (4)) := (blk_cell hm 0).trans (WV_0 _ _ _ _ _)
      have HM := Lib.hid hm
      have HZ := Lib.hid hz
      have HB := Lib.hid hbw
      have HR1 := Lib.hid (hr.below hbw)
      clear hm hz hbw hsx hc0
      generalize (b.getD 0 0).toNat = x0 at hd0 hx0 hy0
      clear h4
      go_enter Try.func52, Try.ntmps52
      go_wp2_with (first | ((with_reducible refine AL2 rfl rfl ?_)) | ((with_reducible refine step_alloc rfl 87 rfl ZW zeroW ?_)) | ((with_reducible refine step_build1 rfl 87 (.tmp 13) rfl (.int .i64 (4)) rfl (WV 4 Mi.ZM Ma.ZM Mc.ZM ZT) (buildW1 (4)) ?_)) | ((with_reducible refine ST4 rfl rfl rfl rfl ?_)))
      refine (Da.parse_any (some ad) c b _ hc HR1.out).mono ?_
      rintro e w2 ⟨v, rfl, hv, hb2, hv2⟩
      rw [HMSG.out, HBAD.out]
      rw [HMSG.out] at hv
      obtain ⟨A4, k4, rfl, hk4, hr4⟩ := hv
      have HV2 : Hid (RB w2 (.slice A4 body.length k4) body) := Lib.hid ⟨A4, k4, rfl, hk4, hr4⟩
      have HAW : Hid (∀ g, g < w.heap.size + 2 → (Value.slice A4 body.length k4).ownBlock ≠ some g) := Lib.hid (fun g hg => hv2 g (Nat.lt_of_lt_of_le (by rw [size_push, size_push]; omega) (setCells_grown (w.heap.size + 1) ((WV 4 Mi.ZM Ma.ZM Mc.ZM ZT)).toList 0 ((w.alloc (.cells ZW 87)).alloc (.cells ZW 87))).size))
      have HM2 := Lib.hid (blk_below HM.out hb2)
      have HZ2 := Lib.hid (blk_below HZ.out hb2)
      have HB2 := Lib.hid (below_comp HB.out hb2)
      clear hb2 HM HZ HB c0 ST4 AL2 F2 hr4 hv2
      have STM : ∀ {ops : Array Oper} {rest : List Oper} {op : Oper} {a : Act} {Q : Exit → Act → World → Prop}, op.guard = none → op.op = .store 59 (.tmp 48) (.tmp 46) → a.eval (.tmp 48) = .pointer (some ⟨w.heap.size + 1, 281, none⟩) → a.eval (.tmp 46) = .agg (#[.int .u32 (r : Int), .int .u64 (cc : Int), .slice A4 body.length k4]) → wpList Try.prog ops Q rest (a.put op.dst undef) (w2.setCells (w.heap.size + 1) 281 (#[.int .u32 (r : Int), .int .u64 (cc : Int), .slice A4 body.length k4]).toList) → wpList Try.prog ops Q (op :: rest) a w2 := fun hg ho hx hy h => step_store_at hg 59 (.tmp 48) (.tmp 46) ho hx hy (by rw [Array.size_append, Array.size_append, Array.size_append, Mi.ZM_size, Ma.ZM_size, Mc.ZM_size]; rfl) (show w2.heap[w.heap.size + 1]? = some (.cells ((#[.int .i64 (4)] ++ Mi.ZM ++ Ma.ZM ++ Mc.ZM) ++ ZT ++ #[]) 87 (0, 0)) from by rw [← WV_t]; exact HM2.out) (rfl) (infoT) (T3_one _ _ _ _ _) h
      have hz3 : (w2.setCells (w.heap.size + 1) 281 (#[.int .u32 (r : Int), .int .u64 (cc : Int), .slice A4 body.length k4] : Array Value).toList).heap[w.heap.size]? = some (.cells ZW 87 (0, 0)) := ((setCells_below (B := w.heap.size + 1) _ (Nat.le_refl _) _ _ w2 (Below.refl _ _)).block _ (Nat.lt_succ_self _)).trans HZ2.out
      have HZ3 := Lib.hid hz3
      have HB3 := Lib.hid (setCells_below (w.heap.size + 1) (Nat.le_succ _) (#[.int .u32 (r : Int), .int .u64 (cc : Int), .slice A4 body.length k4] : Array Value).toList 281 _ HB2.out)
      have ST2 : ∀ {ops : Array Oper} {rest : List Oper} {op : Oper} {a : Act} {Q : Exit → Act → World → Prop}, op.guard = none → op.op = .store 87 (.tmp 2) (.tmp 51) → a.eval (.tmp 2) = .pointer (some ⟨w.heap.size, 0, none⟩) → a.eval (.tmp 51) = .agg (ZW) → wpList Try.prog ops Q rest (a.put op.dst undef) ((w2.setCells (w.heap.size + 1) 281 (#[.int .u32 (r : Int), .int .u64 (cc : Int), .slice A4 body.length k4] : Array Value).toList).setCells (w.heap.size) 0 (ZW).toList) → wpList Try.prog ops Q (op :: rest) a (w2.setCells (w.heap.size + 1) 281 (#[.int .u32 (r : Int), .int .u64 (cc : Int), .slice A4 body.length k4] : Array Value).toList) := fun hg ho hx hy h => step_store hg 87 (.tmp 2) (.tmp 51) ho hx hy HZ3.out (rfl) (by rw [ZW_size]; exact infoW) (ZW_one) h
      clear hz3
      go_wp2_with (first | ((with_reducible refine STM rfl rfl rfl rfl ?_)) | ((with_reducible refine step_build rfl 87 rfl ZW buildW0 ?_)) | ((with_reducible refine ST2 rfl rfl rfl rfl ?_)))
      have hload := load_block (setCells_block HZ3.out (rfl)) 87 _ Try.underlying87 rfl (by rw [ZW_size]; exact infoW)
      refine bodyPost_ret (results_c1 rfl _ _ _ _ _ rfl hload) rfl ⟨rfl, setCells_below _ (Nat.le_refl _) _ _ _ HB3.out⟩
  obtain ⟨hE, hi, hrr, hcc, htt⟩ := kindW0 b h1 h2 h3 h4
  rw [if_neg hb] at hE
  have hkd : kdW b = 0 := by unfold kdW; rw [hE]; rfl
  suffices hS : Calls Try.prog 52 #[.slice A b.length c] w (fun e w' => e = .returned (.tuple #[.agg ZW, .int .i64 (9)]) ∧ Below w.heap.size w w') from hS.mono (fun e w' h => ⟨.slice none 0 0, h.1.trans (by rw [hkd, hi, hrr, hcc, htt, hE]; rfl), by rw [htt]; exact RB.nil _, h.2⟩)
  clear hkd hi hrr hcc htt hE
  obtain ⟨ad, rfl, hc0⟩ := reads_cell hr 0 (by omega)
  rw [show ad.add 0 = ad by simp [Addr.add]] at hc0
  have hd0 := fun o1 => pw_cell_below (below_alloc (Below.refl w.heap.size w) o1) hc0
  have hy0 := byte_lt (b.getD 0 0)
  have ne : ∀ k : Nat, k < 256 → b.getD 0 0 ≠ UInt8.ofNat k → ¬ ((b.getD 0 0).toNat : Int) = k := fun k hk h e => h (UInt8.toNat_inj.1 (by rw [toNat_ofNat k hk]; omega))
  have n1 : (((b.getD 0 0).toNat : Int) == 1) = false := beq_false_of_ne (ne 1 (by decide) h1)
  have n2 : (((b.getD 0 0).toNat : Int) == 2) = false := beq_false_of_ne (ne 2 (by decide) h2)
  have n3 : (((b.getD 0 0).toNat : Int) == 3) = false := beq_false_of_ne (ne 3 (by decide) h3)
  have n4 : (((b.getD 0 0).toNat : Int) == 4) = false := beq_false_of_ne (ne 4 (by decide) h4)
  clear ne h1 h2 h3 h4
  generalize (b.getD 0 0).toNat = x0 at hc0 hd0 hy0 n1 n2 n3 n4
  have F2 : Hid (((w.alloc (.cells ZW 87)).alloc (.cells ZW 87)).heap[w.heap.size + 1]? = some (.cells ZW 87 (0, 0))) := Lib.hid (blk_new1 w _ _)
  have hsx : (WV (x0 : Int) Mi.ZM Ma.ZM Mc.ZM ZT).size = ZW.size := by rw [ZW_size]; exact WV_size _ _ _ _ _ Mi.ZM_size Ma.ZM_size Mc.ZM_size rfl
  have AL2 : ∀ {ops : Array Oper} {rest : List Oper} {op : Oper} {a : Act} {Q : Exit → Act → World → Prop}, op.guard = none → op.op = .alloc 87 → wpList Try.prog ops Q rest (a.put op.dst (.pointer (some ⟨w.heap.size + 1, 0, none⟩))) ((w.alloc (.cells ZW 87)).alloc (.cells ZW 87)) → wpList Try.prog ops Q (op :: rest) a (w.alloc (.cells ZW 87)) := fun hg ho h => step_alloc hg 87 ho ZW zeroW (by rw [size_push]; exact h)
  have ST4 : ∀ {ops : Array Oper} {rest : List Oper} {op : Oper} {a : Act} {Q : Exit → Act → World → Prop}, op.guard = none → op.op = .store 87 (.tmp 4) (.tmp 14) → a.eval (.tmp 4) = .pointer (some ⟨w.heap.size + 1, 0, none⟩) → a.eval (.tmp 14) = .agg ((WV (x0 : Int) Mi.ZM Ma.ZM Mc.ZM ZT)) → wpList Try.prog ops Q rest (a.put op.dst undef) (((w.alloc (.cells ZW 87)).alloc (.cells ZW 87)).setCells (w.heap.size + 1) 0 ((WV (x0 : Int) Mi.ZM Ma.ZM Mc.ZM ZT)).toList) → wpList Try.prog ops Q (op :: rest) a ((w.alloc (.cells ZW 87)).alloc (.cells ZW 87)) := fun hg ho hx hy h => step_store hg 87 (.tmp 4) (.tmp 14) ho hx hy F2.out (hsx) (by rw [ZW_size]; exact infoW) (WV_one _ _ _ _ _ Mi.ZM_one Ma.ZM_one Mc.ZM_one ZT_one) h
  have hm := setCells_block F2.out hsx
  have hbw : Below w.heap.size w (((w.alloc (.cells ZW 87)).alloc (.cells ZW 87)).setCells (w.heap.size + 1) 0 (WV (x0 : Int) Mi.ZM Ma.ZM Mc.ZM ZT).toList) := setCells_below _ (Nat.le_succ _) _ _ _ (below_alloc (below_alloc (Below.refl _ _) _) _)
  have hz : (((w.alloc (.cells ZW 87)).alloc (.cells ZW 87)).setCells (w.heap.size + 1) 0 (WV (x0 : Int) Mi.ZM Ma.ZM Mc.ZM ZT).toList).heap[w.heap.size]? = some (.cells ZW 87 (0, 0)) := ((setCells_below (B := w.heap.size + 1) _ (Nat.le_refl _) _ _ ((w.alloc (.cells ZW 87)).alloc (.cells ZW 87)) (Below.refl _ _)).block _ (Nat.lt_succ_self _)).trans (blk_old (blk_new w _) _)
  have c0 : (((w.alloc (.cells ZW 87)).alloc (.cells ZW 87)).setCells (w.heap.size + 1) 0 (WV (x0 : Int) Mi.ZM Ma.ZM Mc.ZM ZT).toList).cell? ⟨w.heap.size + 1, 0, none⟩ = some (.int .i64 ((x0 : Int))) := (blk_cell hm 0).trans (WV_0 _ _ _ _ _)
  have HM := Lib.hid hm
  have HZ := Lib.hid hz
  have HB := Lib.hid hbw
  have HR1 := Lib.hid (hr.below hbw)
  clear hm hz hbw hsx hc0
  clear HR1 HM
  have ST2 : ∀ {ops : Array Oper} {rest : List Oper} {op : Oper} {a : Act} {Q : Exit → Act → World → Prop}, op.guard = none → op.op = .store 87 (.tmp 2) (.tmp 51) → a.eval (.tmp 2) = .pointer (some ⟨w.heap.size, 0, none⟩) → a.eval (.tmp 51) = .agg (ZW) → wpList Try.prog ops Q rest (a.put op.dst undef) ((((w.alloc (.cells ZW 87)).alloc (.cells ZW 87)).setCells (w.heap.size + 1) 0 (WV (x0 : Int) Mi.ZM Ma.ZM Mc.ZM ZT).toList).setCells (w.heap.size) 0 (ZW).toList) → wpList Try.prog ops Q (op :: rest) a (((w.alloc (.cells ZW 87)).alloc (.cells ZW 87)).setCells (w.heap.size + 1) 0 (WV (x0 : Int) Mi.ZM Ma.ZM Mc.ZM ZT).toList) := fun hg ho hx hy h => step_store hg 87 (.tmp 2) (.tmp 51) ho hx hy HZ.out (rfl) (by rw [ZW_size]; exact infoW) (ZW_one) h
  go_enter Try.func52, Try.ntmps52
  go_wp2_with (first | ((with_reducible refine AL2 rfl rfl ?_)) | ((with_reducible refine step_alloc rfl 87 rfl ZW zeroW ?_)) | ((with_reducible refine step_build1 rfl 87 (.tmp 13) rfl (.int .i64 ((x0 : Int))) rfl (WV (x0 : Int) Mi.ZM Ma.ZM Mc.ZM ZT) (buildW1 ((x0 : Int))) ?_)) | ((with_reducible refine ST4 rfl rfl rfl rfl ?_)) | ((with_reducible refine step_build rfl 87 rfl ZW buildW0 ?_)) | ((with_reducible refine ST2 rfl rfl rfl rfl ?_)))
  have hload := load_block (setCells_block HZ.out (rfl)) 87 _ Try.underlying87 rfl (by rw [ZW_size]; exact infoW)
  refine bodyPost_ret (results_c1 rfl _ _ _ _ _ rfl hload) rfl ⟨rfl, setCells_below _ (Nat.le_refl _) _ _ _ HB.out⟩
end Go.Proofs.Ytnehbhhjdjiieaa.Wm
