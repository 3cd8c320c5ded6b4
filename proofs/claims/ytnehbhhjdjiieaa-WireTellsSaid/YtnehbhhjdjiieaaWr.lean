/- The reference of wire: the message of bytes, of any kind. -/
import Derived.Test.YtnehbhhjdjiieaaWp
set_option linter.unusedSimpArgs false
set_option linter.unusedVariables false
set_option maxRecDepth 100000
namespace Go.Proofs.Ytnehbhhjdjiieaa.Wm
open Go.RowKit Go.Proofs.YtnehbhhjdjiieaaW.PrintWords Go.Proofs.Ytnehbhhjdjiieaa.Bs Go.Proofs.Ytnehbhhjdjiieaa.Mv Go.Proofs.Ytnehbhhjdjiieaa.Da


set_option maxHeartbeats 4000000 in
theorem refParse_any (A : Option Addr) (c : Nat) (b : List UInt8) (w : World) (hc : b.length ≤ c) (hr : ReadsOf B 0 w A b.length b) (hl : b.length ≤ 1099511627776) :
    Calls Try.prog 53 #[.slice A b.length c] w (ParsedW w b) := by
  by_cases hb : b = []
  · subst hb
    obtain ⟨hE, hi, hrr, hcc, htt⟩ := kindW0 [] (by decide) (by decide) (by decide) (by decide)
    rw [if_pos rfl] at hE
    have hkd : kdW [] = 0 := by unfold kdW; rw [hE]; rfl
    suffices hS : Calls Try.prog 53 #[.slice A ([] : List UInt8).length c] w (fun e w' => e = .returned (.tuple #[.agg ZW, .int .i64 (3)]) ∧ Below w.heap.size w w') from hS.mono (fun e w' h => ⟨.slice none 0 0, h.1.trans (by rw [hkd, hi, hrr, hcc, htt, hE]; rfl), by rw [htt]; exact RB.nil _, h.2⟩)
    clear hkd hi hrr hcc htt hE
    have HZ : Hid (((w.alloc (.cells ZW 87)).alloc (.cells ZW 87)).heap[w.heap.size]? = some (.cells ZW 87 (0, 0))) := Lib.hid (blk_old (blk_new w _) _)
    have HM : Hid (((w.alloc (.cells ZW 87)).alloc (.cells ZW 87)).heap[w.heap.size + 1]? = some (.cells ZW 87 (0, 0))) := Lib.hid (blk_new1 w _ _)
    have HB : Hid (Below w.heap.size w ((w.alloc (.cells ZW 87)).alloc (.cells ZW 87))) := Lib.hid (below_alloc (below_alloc (Below.refl _ _) _) _)
    have AL2 : ∀ {ops : Array Oper} {rest : List Oper} {op : Oper} {a : Act} {Q : Exit → Act → World → Prop}, op.guard = none → op.op = .alloc 87 → wpList Try.prog ops Q rest (a.put op.dst (.pointer (some ⟨w.heap.size + 1, 0, none⟩))) ((w.alloc (.cells ZW 87)).alloc (.cells ZW 87)) → wpList Try.prog ops Q (op :: rest) a (w.alloc (.cells ZW 87)) := fun hg ho h => step_alloc hg 87 ho ZW zeroW (by rw [size_push]; exact h)
    have ST2 : ∀ {ops : Array Oper} {rest : List Oper} {op : Oper} {a : Act} {Q : Exit → Act → World → Prop}, op.guard = none → op.op = .store 87 (.tmp 2) (.tmp 17) → a.eval (.tmp 2) = .pointer (some ⟨w.heap.size, 0, none⟩) → a.eval (.tmp 17) = .agg (ZW) → wpList Try.prog ops Q rest (a.put op.dst undef) (((w.alloc (.cells ZW 87)).alloc (.cells ZW 87)).setCells (w.heap.size) 0 (ZW).toList) → wpList Try.prog ops Q (op :: rest) a ((w.alloc (.cells ZW 87)).alloc (.cells ZW 87)) := fun hg ho hx hy h => step_store hg 87 (.tmp 2) (.tmp 17) ho hx hy HZ.out (rfl) (by rw [ZW_size]; exact infoW) (ZW_one) h
    have LDW : ∀ {ops : Array Oper} {rest : List Oper} {op : Oper} {a : Act} {Q : Exit → Act → World → Prop}, op.guard = none → op.op = .load 87 (.tmp 4) → a.eval (.tmp 4) = .pointer (some ⟨w.heap.size + 1, 0, none⟩) → wpList Try.prog ops Q rest (a.put op.dst (.agg (ZW))) ((w.alloc (.cells ZW 87)).alloc (.cells ZW 87)) → wpList Try.prog ops Q (op :: rest) a ((w.alloc (.cells ZW 87)).alloc (.cells ZW 87)) := fun hg ho hx h => step_load hg 87 (.tmp 4) ho hx HM.out _ Try.underlying87 rfl (by rw [ZW_size]; exact infoW) h
    rw [show ([] : List UInt8).length = 0 from rfl]
    go_enter Try.func53, Try.ntmps53
    go_wp2_with (first | ((with_reducible refine AL2 rfl rfl ?_)) | ((with_reducible refine step_alloc rfl 87 rfl ZW zeroW ?_)) | ((with_reducible refine LDW rfl rfl rfl ?_)) | ((with_reducible refine ST2 rfl rfl rfl rfl ?_)))
    have hload := load_block (setCells_block HZ.out (rfl)) 87 _ Try.underlying87 rfl (by rw [ZW_size]; exact infoW)
    refine bodyPost_ret (results_c1 rfl _ _ _ _ _ rfl hload) rfl ⟨rfl, setCells_below _ (Nat.le_refl _) _ _ _ HB.out⟩
  have hpos : 0 < b.length := List.length_pos_iff.2 hb
  have hl0 : ((b.length : Int) == 0) = false := beq_false_of_ne (by omega)
  by_cases h1 : b.getD 0 0 = 1
  · obtain ⟨hE, hi, hrr, hcc, htt⟩ := kindW1 b h1
    have hx0 : ((b.getD 0 0).toNat : Int) = 1 := by rw [h1]; rfl
    obtain ⟨ad, rfl, hc0⟩ := reads_cell hr 0 (by omega)
    rw [show ad.add 0 = ad by simp [Addr.add]] at hc0
    have hd0 := fun o1 o2 => pw_cell_below (below_alloc (below_alloc (Below.refl w.heap.size w) o1) o2) hc0
    have hy0 := byte_lt (b.getD 0 0)
    by_cases hbad : badM 1 148 b = 0
    · obtain ⟨n, L, hmsg, hn, hL, hraw⟩ := Mi.msg_full b
      have HL := Lib.hid hL
      have HMSG := Lib.hid hmsg
      have hkd : kdW b = 1 := by unfold kdW; rw [hE, if_pos hbad, hx0]
      suffices hS : Calls Try.prog 53 #[.slice (some ad) b.length c] w (fun e w' => e = .returned (.tuple #[.agg (WV 1 (MV [n] L) Ma.ZM Mc.ZM ZT), .int .i64 0]) ∧ Below w.heap.size w w') from hS.mono (fun e w' h => ⟨.slice none 0 0, h.1.trans (by rw [hkd, hi, hrr, hcc, htt, hE, hbad, hmsg]; rfl), by rw [htt]; exact RB.nil _, h.2⟩)
      have HBAD := Lib.hid hbad
      clear hkd hi hrr hcc htt hE hbad hmsg hraw hL
      have HZ : Hid (((w.alloc (.cells ZW 87)).alloc (.cells ZW 87)).heap[w.heap.size]? = some (.cells ZW 87 (0, 0))) := Lib.hid (blk_old (blk_new w _) _)
      have HM : Hid (((w.alloc (.cells ZW 87)).alloc (.cells ZW 87)).heap[w.heap.size + 1]? = some (.cells ZW 87 (0, 0))) := Lib.hid (blk_new1 w _ _)
      have HB : Hid (Below w.heap.size w ((w.alloc (.cells ZW 87)).alloc (.cells ZW 87))) := Lib.hid (below_alloc (below_alloc (Below.refl _ _) _) _)
      have AL2 : ∀ {ops : Array Oper} {rest : List Oper} {op : Oper} {a : Act} {Q : Exit → Act → World → Prop}, op.guard = none → op.op = .alloc 87 → wpList Try.prog ops Q rest (a.put op.dst (.pointer (some ⟨w.heap.size + 1, 0, none⟩))) ((w.alloc (.cells ZW 87)).alloc (.cells ZW 87)) → wpList Try.prog ops Q (op :: rest) a (w.alloc (.cells ZW 87)) := fun hg ho h => step_alloc hg 87 ho ZW zeroW (by rw [size_push]; exact h)
      have HR1 := Lib.hid (hr.below HB.out)
      have HC0 := Lib.hid hc0
      generalize (b.getD 0 0).toNat = x0 at hc0 HC0 hd0 hx0 hy0
      clear h1 hc0
      go_enter Try.func53, Try.ntmps53
      go_wp2_with (first | ((with_reducible refine AL2 rfl rfl ?_)) | ((with_reducible refine step_alloc rfl 87 rfl ZW zeroW ?_)))
      refine (Mi.refParse_any (some ad) c b _ hc HR1.out hl).mono ?_
      rintro e w2 ⟨rfl, hb2⟩
      rw [HMSG.out, HBAD.out]
      have HM2 := Lib.hid (blk_below HM.out hb2)
      have HZ2 := Lib.hid (blk_below HZ.out hb2)
      have HB2 := Lib.hid (below_comp HB.out hb2)
      have HS2 : Hid (w.heap.size + 2 ≤ w2.heap.size) := Lib.hid (by have := hb2.size; rw [size_push, size_push] at this; exact this)
      clear hb2 HM HZ HB AL2 hd0
      have FA := Lib.hid (blk_new w2 (.cells Mi.ZM 50))
      have STS : ∀ {ops : Array Oper} {rest : List Oper} {op : Oper} {a : Act} {Q : Exit → Act → World → Prop}, op.guard = none → op.op = .store 50 (.tmp 6) (.tmp 26) → a.eval (.tmp 6) = .pointer (some ⟨w2.heap.size, 0, none⟩) → a.eval (.tmp 26) = .agg (MV [n] L) → wpList Try.prog ops Q rest (a.put op.dst undef) ((w2.alloc (.cells Mi.ZM 50)).setCells w2.heap.size 0 (MV [n] L).toList) → wpList Try.prog ops Q (op :: rest) a (w2.alloc (.cells Mi.ZM 50)) := fun hg ho hx hy h => step_store hg 50 (.tmp 6) (.tmp 26) ho hx hy FA.out (by rw [MV1s, HL.out, Mi.ZM_size]) Mi.info_ZM (MV_one _ _) h
      have hs3 : Below w2.heap.size w2 ((w2.alloc (.cells Mi.ZM 50)).setCells w2.heap.size 0 (MV [n] L).toList) := setCells_below _ (Nat.le_refl _) _ _ _ (below_alloc (Below.refl _ _) _)
      have FB : Hid (((w2.alloc (.cells Mi.ZM 50)).setCells w2.heap.size 0 (MV [n] L).toList).heap[w2.heap.size]? = some (.cells (MV [n] L) 50 (0, 0))) := Lib.hid (setCells_block FA.out (by rw [MV1s, HL.out, Mi.ZM_size]))
      have LDS : ∀ {ops : Array Oper} {rest : List Oper} {op : Oper} {a : Act} {Q : Exit → Act → World → Prop}, op.guard = none → op.op = .load 50 (.tmp 6) → a.eval (.tmp 6) = .pointer (some ⟨w2.heap.size, 0, none⟩) → wpList Try.prog ops Q rest (a.put op.dst (.agg (MV [n] L))) ((w2.alloc (.cells Mi.ZM 50)).setCells w2.heap.size 0 (MV [n] L).toList) → wpList Try.prog ops Q (op :: rest) a ((w2.alloc (.cells Mi.ZM 50)).setCells w2.heap.size 0 (MV [n] L).toList) := fun hg ho hx h => step_load hg 50 (.tmp 6) ho hx FB.out _ Try.underlying50 rfl (by rw [show (MV [n] L).size = Mi.ZM.size from (by rw [MV1s, HL.out, Mi.ZM_size])]; exact Mi.info_ZM) h
      have HM3 := Lib.hid (blk_below HM2.out hs3)
      have HZ3 := Lib.hid (blk_below HZ2.out hs3)
      have HB3 := Lib.hid (below_comp HB2.out hs3)
      clear hs3
      have STM : ∀ {ops : Array Oper} {rest : List Oper} {op : Oper} {a : Act} {Q : Exit → Act → World → Prop}, op.guard = none → op.op = .store 50 (.tmp 29) (.tmp 28) → a.eval (.tmp 29) = .pointer (some ⟨w.heap.size + 1, 1, none⟩) → a.eval (.tmp 28) = .agg ((MV [n] L)) → wpList Try.prog ops Q rest (a.put op.dst undef) (((w2.alloc (.cells Mi.ZM 50)).setCells w2.heap.size 0 (MV [n] L).toList).setCells (w.heap.size + 1) 1 ((MV [n] L)).toList) → wpList Try.prog ops Q (op :: rest) a ((w2.alloc (.cells Mi.ZM 50)).setCells w2.heap.size 0 (MV [n] L).toList) := fun hg ho hx hy h => step_store_at hg 50 (.tmp 29) (.tmp 28) ho hx hy (rfl) (show ((w2.alloc (.cells Mi.ZM 50)).setCells w2.heap.size 0 (MV [n] L).toList).heap[w.heap.size + 1]? = some (.cells (#[.int .i64 (0)] ++ Mi.ZM ++ (Ma.ZM ++ Mc.ZM ++ ZT)) 87 (0, 0)) from by rw [← WV_i]; exact HM3.out) (by rw [MV1s, HL.out, Mi.ZM_size]) (by rw [Mi.ZM_size]; exact Mi.infoM) (MV_one _ _) h
      have hz4 : (((w2.alloc (.cells Mi.ZM 50)).setCells w2.heap.size 0 (MV [n] L).toList).setCells (w.heap.size + 1) 1 ((MV [n] L) : Array Value).toList).heap[w.heap.size]? = some (.cells ZW 87 (0, 0)) := ((setCells_below (B := w.heap.size + 1) _ (Nat.le_refl _) _ _ ((w2.alloc (.cells Mi.ZM 50)).setCells w2.heap.size 0 (MV [n] L).toList) (Below.refl _ _)).block _ (Nat.lt_succ_self _)).trans HZ3.out
      have HZ4 := Lib.hid hz4
      have HB4 := Lib.hid (setCells_below (w.heap.size + 1) (Nat.le_succ _) ((MV [n] L) : Array Value).toList 1 _ HB3.out)
      have hm4 : (((w2.alloc (.cells Mi.ZM 50)).setCells w2.heap.size 0 (MV [n] L).toList).setCells (w.heap.size + 1) 1 ((MV [n] L) : Array Value).toList).heap[w.heap.size + 1]? = some (.cells (WV 0 (MV [n] L) Ma.ZM Mc.ZM ZT) 87 (0, 0)) := by
        have h := setCells_mid (M' := (MV [n] L)) (show ((w2.alloc (.cells Mi.ZM 50)).setCells w2.heap.size 0 (MV [n] L).toList).heap[w.heap.size + 1]? = some (.cells (#[.int .i64 (0)] ++ Mi.ZM ++ (Ma.ZM ++ Mc.ZM ++ ZT)) 87 (0, 0)) from by rw [← WV_i]; exact HM3.out) (by rw [MV1s, HL.out, Mi.ZM_size])
        rw [show (#[.int .i64 (0)] : Array Value).size = 1 from (rfl)] at h
        rw [WV_i]; exact h
      have c0 := (blk_cell hm4 0).trans (WV_0 _ _ _ _ _)
      have c1 := blk_frozen hm4 0
      have cd := pw_cell_below HB4.out HC0.out
      have HM5 : Hid (((((w2.alloc (.cells Mi.ZM 50)).setCells w2.heap.size 0 (MV [n] L).toList).setCells (w.heap.size + 1) 1 ((MV [n] L) : Array Value).toList).setCell ⟨w.heap.size + 1, 0, none⟩ (.int .i64 1)).heap[w.heap.size + 1]? = some (.cells (WV 1 (MV [n] L) Ma.ZM Mc.ZM ZT) 87 (0, 0))) := Lib.hid (by rw [blk_set hm4 0 _, WV_set])
      have HZ5 : Hid (((((w2.alloc (.cells Mi.ZM 50)).setCells w2.heap.size 0 (MV [n] L).toList).setCells (w.heap.size + 1) 1 ((MV [n] L) : Array Value).toList).setCell ⟨w.heap.size + 1, 0, none⟩ (.int .i64 1)).heap[w.heap.size]? = some (.cells ZW 87 (0, 0))) := Lib.hid (blk_far hz4 (by simp) _)
      have HB5 := Lib.hid (HB4.out.setCell (p := ⟨w.heap.size + 1, 0, none⟩) (Nat.le_succ _) (.int .i64 1))
      have HSW : Hid ((WV 1 (MV [n] L) Ma.ZM Mc.ZM ZT).size = ZW.size) := Lib.hid (by rw [ZW_size]; exact WV_size _ _ _ _ _ (by rw [MV1s, HL.out]) (Ma.ZM_size) (Mc.ZM_size) rfl)
      have LDW : ∀ {ops : Array Oper} {rest : List Oper} {op : Oper} {a : Act} {Q : Exit → Act → World → Prop}, op.guard = none → op.op = .load 87 (.tmp 4) → a.eval (.tmp 4) = .pointer (some ⟨w.heap.size + 1, 0, none⟩) → wpList Try.prog ops Q rest (a.put op.dst (.agg (WV 1 (MV [n] L) Ma.ZM Mc.ZM ZT))) ((((w2.alloc (.cells Mi.ZM 50)).setCells w2.heap.size 0 (MV [n] L).toList).setCells (w.heap.size + 1) 1 ((MV [n] L) : Array Value).toList).setCell ⟨w.heap.size + 1, 0, none⟩ (.int .i64 1)) → wpList Try.prog ops Q (op :: rest) a ((((w2.alloc (.cells Mi.ZM 50)).setCells w2.heap.size 0 (MV [n] L).toList).setCells (w.heap.size + 1) 1 ((MV [n] L) : Array Value).toList).setCell ⟨w.heap.size + 1, 0, none⟩ (.int .i64 1)) := fun hg ho hx h => step_load hg 87 (.tmp 4) ho hx HM5.out _ Try.underlying87 rfl (by rw [HSW.out, ZW_size]; exact infoW) h
      have ST2 : ∀ {ops : Array Oper} {rest : List Oper} {op : Oper} {a : Act} {Q : Exit → Act → World → Prop}, op.guard = none → op.op = .store 87 (.tmp 2) (.tmp 70) → a.eval (.tmp 2) = .pointer (some ⟨w.heap.size, 0, none⟩) → a.eval (.tmp 70) = .agg (WV 1 (MV [n] L) Ma.ZM Mc.ZM ZT) → wpList Try.prog ops Q rest (a.put op.dst undef) (((((w2.alloc (.cells Mi.ZM 50)).setCells w2.heap.size 0 (MV [n] L).toList).setCells (w.heap.size + 1) 1 ((MV [n] L) : Array Value).toList).setCell ⟨w.heap.size + 1, 0, none⟩ (.int .i64 1)).setCells (w.heap.size) 0 (WV 1 (MV [n] L) Ma.ZM Mc.ZM ZT).toList) → wpList Try.prog ops Q (op :: rest) a ((((w2.alloc (.cells Mi.ZM 50)).setCells w2.heap.size 0 (MV [n] L).toList).setCells (w.heap.size + 1) 1 ((MV [n] L) : Array Value).toList).setCell ⟨w.heap.size + 1, 0, none⟩ (.int .i64 1)) := fun hg ho hx hy h => step_store hg 87 (.tmp 2) (.tmp 70) ho hx hy HZ5.out (HSW.out) (by rw [ZW_size]; exact infoW) (WV_one _ _ _ _ _ (MV_one _ _) Ma.ZM_one Mc.ZM_one ZT_one) h
      clear hm4 hz4
      go_wp2_with (first | ((with_reducible refine step_alloc rfl 50 rfl Mi.ZM Mi.zeroM ?_)) | ((with_reducible refine STS rfl rfl rfl rfl ?_)) | ((with_reducible refine LDS rfl rfl rfl ?_)) | ((with_reducible refine STM rfl rfl rfl rfl ?_)) | ((with_reducible refine LDW rfl rfl rfl ?_)) | ((with_reducible refine ST2 rfl rfl rfl rfl ?_)))
      have hload := load_block (setCells_block HZ5.out (HSW.out)) 87 _ Try.underlying87 rfl (by rw [HSW.out, ZW_size]; exact infoW)
      refine bodyPost_ret (results_c1 rfl _ _ _ _ _ rfl hload) rfl ⟨rfl, setCells_below _ (Nat.le_refl _) _ _ _ HB5.out⟩
    · obtain ⟨n, L, hmsg, hn, hL, hraw⟩ := Mi.msg_full b
      have HL := Lib.hid hL
      have HMSG := Lib.hid hmsg
      have hkd : kdW b = 0 := by unfold kdW; rw [hE, if_neg hbad]
      rw [Mi.ZM_msg b hbad] at hi
      obtain ⟨E, hEE⟩ : ∃ E, badM 1 148 b = E := ⟨_, rfl⟩
      rw [hEE] at hE hbad
      have HBAD := Lib.hid hEE
      suffices hS : Calls Try.prog 53 #[.slice (some ad) b.length c] w (fun e w' => e = .returned (.tuple #[.agg ZW, .int .i64 (E)]) ∧ Below w.heap.size w w') from hS.mono (fun e w' h => ⟨.slice none 0 0, h.1.trans (by rw [hkd, hi, hrr, hcc, htt, hE]; rfl), by rw [htt]; exact RB.nil _, h.2⟩)
      clear hkd hi hrr hcc htt hE
      have hE2 : (E != 0) = true := bne_iff_ne.2 hbad
      clear hEE hmsg hraw hL
      have HZ : Hid (((w.alloc (.cells ZW 87)).alloc (.cells ZW 87)).heap[w.heap.size]? = some (.cells ZW 87 (0, 0))) := Lib.hid (blk_old (blk_new w _) _)
      have HM : Hid (((w.alloc (.cells ZW 87)).alloc (.cells ZW 87)).heap[w.heap.size + 1]? = some (.cells ZW 87 (0, 0))) := Lib.hid (blk_new1 w _ _)
      have HB : Hid (Below w.heap.size w ((w.alloc (.cells ZW 87)).alloc (.cells ZW 87))) := Lib.hid (below_alloc (below_alloc (Below.refl _ _) _) _)
      have AL2 : ∀ {ops : Array Oper} {rest : List Oper} {op : Oper} {a : Act} {Q : Exit → Act → World → Prop}, op.guard = none → op.op = .alloc 87 → wpList Try.prog ops Q rest (a.put op.dst (.pointer (some ⟨w.heap.size + 1, 0, none⟩))) ((w.alloc (.cells ZW 87)).alloc (.cells ZW 87)) → wpList Try.prog ops Q (op :: rest) a (w.alloc (.cells ZW 87)) := fun hg ho h => step_alloc hg 87 ho ZW zeroW (by rw [size_push]; exact h)
      have HR1 := Lib.hid (hr.below HB.out)
      have HC0 := Lib.hid hc0
      generalize (b.getD 0 0).toNat = x0 at hc0 HC0 hd0 hx0 hy0
      clear h1 hc0
      go_enter Try.func53, Try.ntmps53
      go_wp2_with (first | ((with_reducible refine AL2 rfl rfl ?_)) | ((with_reducible refine step_alloc rfl 87 rfl ZW zeroW ?_)))
      refine (Mi.refParse_any (some ad) c b _ hc HR1.out hl).mono ?_
      rintro e w2 ⟨rfl, hb2⟩
      rw [HMSG.out, HBAD.out]
      have HM2 := Lib.hid (blk_below HM.out hb2)
      have HZ2 := Lib.hid (blk_below HZ.out hb2)
      have HB2 := Lib.hid (below_comp HB.out hb2)
      have HS2 : Hid (w.heap.size + 2 ≤ w2.heap.size) := Lib.hid (by have := hb2.size; rw [size_push, size_push] at this; exact this)
      clear hb2 HM HZ HB AL2 hd0
      have FA := Lib.hid (blk_new w2 (.cells Mi.ZM 50))
      have STS : ∀ {ops : Array Oper} {rest : List Oper} {op : Oper} {a : Act} {Q : Exit → Act → World → Prop}, op.guard = none → op.op = .store 50 (.tmp 6) (.tmp 26) → a.eval (.tmp 6) = .pointer (some ⟨w2.heap.size, 0, none⟩) → a.eval (.tmp 26) = .agg (MV [n] L) → wpList Try.prog ops Q rest (a.put op.dst undef) ((w2.alloc (.cells Mi.ZM 50)).setCells w2.heap.size 0 (MV [n] L).toList) → wpList Try.prog ops Q (op :: rest) a (w2.alloc (.cells Mi.ZM 50)) := fun hg ho hx hy h => step_store hg 50 (.tmp 6) (.tmp 26) ho hx hy FA.out (by rw [MV1s, HL.out, Mi.ZM_size]) Mi.info_ZM (MV_one _ _) h
      have hs3 : Below w2.heap.size w2 ((w2.alloc (.cells Mi.ZM 50)).setCells w2.heap.size 0 (MV [n] L).toList) := setCells_below _ (Nat.le_refl _) _ _ _ (below_alloc (Below.refl _ _) _)
      have FB : Hid (((w2.alloc (.cells Mi.ZM 50)).setCells w2.heap.size 0 (MV [n] L).toList).heap[w2.heap.size]? = some (.cells (MV [n] L) 50 (0, 0))) := Lib.hid (setCells_block FA.out (by rw [MV1s, HL.out, Mi.ZM_size]))
      have LDS : ∀ {ops : Array Oper} {rest : List Oper} {op : Oper} {a : Act} {Q : Exit → Act → World → Prop}, op.guard = none → op.op = .load 50 (.tmp 6) → a.eval (.tmp 6) = .pointer (some ⟨w2.heap.size, 0, none⟩) → wpList Try.prog ops Q rest (a.put op.dst (.agg (MV [n] L))) ((w2.alloc (.cells Mi.ZM 50)).setCells w2.heap.size 0 (MV [n] L).toList) → wpList Try.prog ops Q (op :: rest) a ((w2.alloc (.cells Mi.ZM 50)).setCells w2.heap.size 0 (MV [n] L).toList) := fun hg ho hx h => step_load hg 50 (.tmp 6) ho hx FB.out _ Try.underlying50 rfl (by rw [show (MV [n] L).size = Mi.ZM.size from (by rw [MV1s, HL.out, Mi.ZM_size])]; exact Mi.info_ZM) h
      have HM3 := Lib.hid (blk_below HM2.out hs3)
      have HZ3 := Lib.hid (blk_below HZ2.out hs3)
      have HB3 := Lib.hid (below_comp HB2.out hs3)
      clear hs3
      have STM : ∀ {ops : Array Oper} {rest : List Oper} {op : Oper} {a : Act} {Q : Exit → Act → World → Prop}, op.guard = none → op.op = .store 50 (.tmp 29) (.tmp 28) → a.eval (.tmp 29) = .pointer (some ⟨w.heap.size + 1, 1, none⟩) → a.eval (.tmp 28) = .agg ((MV [n] L)) → wpList Try.prog ops Q rest (a.put op.dst undef) (((w2.alloc (.cells Mi.ZM 50)).setCells w2.heap.size 0 (MV [n] L).toList).setCells (w.heap.size + 1) 1 ((MV [n] L)).toList) → wpList Try.prog ops Q (op :: rest) a ((w2.alloc (.cells Mi.ZM 50)).setCells w2.heap.size 0 (MV [n] L).toList) := fun hg ho hx hy h => step_store_at hg 50 (.tmp 29) (.tmp 28) ho hx hy (rfl) (show ((w2.alloc (.cells Mi.ZM 50)).setCells w2.heap.size 0 (MV [n] L).toList).heap[w.heap.size + 1]? = some (.cells (#[.int .i64 (0)] ++ Mi.ZM ++ (Ma.ZM ++ Mc.ZM ++ ZT)) 87 (0, 0)) from by rw [← WV_i]; exact HM3.out) (by rw [MV1s, HL.out, Mi.ZM_size]) (by rw [Mi.ZM_size]; exact Mi.infoM) (MV_one _ _) h
      have hz4 : (((w2.alloc (.cells Mi.ZM 50)).setCells w2.heap.size 0 (MV [n] L).toList).setCells (w.heap.size + 1) 1 ((MV [n] L) : Array Value).toList).heap[w.heap.size]? = some (.cells ZW 87 (0, 0)) := ((setCells_below (B := w.heap.size + 1) _ (Nat.le_refl _) _ _ ((w2.alloc (.cells Mi.ZM 50)).setCells w2.heap.size 0 (MV [n] L).toList) (Below.refl _ _)).block _ (Nat.lt_succ_self _)).trans HZ3.out
      have HZ4 := Lib.hid hz4
      have HB4 := Lib.hid (setCells_below (w.heap.size + 1) (Nat.le_succ _) ((MV [n] L) : Array Value).toList 1 _ HB3.out)
      have ST2 : ∀ {ops : Array Oper} {rest : List Oper} {op : Oper} {a : Act} {Q : Exit → Act → World → Prop}, op.guard = none → op.op = .store 87 (.tmp 2) (.tmp 63) → a.eval (.tmp 2) = .pointer (some ⟨w.heap.size, 0, none⟩) → a.eval (.tmp 63) = .agg (ZW) → wpList Try.prog ops Q rest (a.put op.dst undef) ((((w2.alloc (.cells Mi.ZM 50)).setCells w2.heap.size 0 (MV [n] L).toList).setCells (w.heap.size + 1) 1 ((MV [n] L) : Array Value).toList).setCells (w.heap.size) 0 (ZW).toList) → wpList Try.prog ops Q (op :: rest) a (((w2.alloc (.cells Mi.ZM 50)).setCells w2.heap.size 0 (MV [n] L).toList).setCells (w.heap.size + 1) 1 ((MV [n] L) : Array Value).toList) := fun hg ho hx hy h => step_store hg 87 (.tmp 2) (.tmp 63) ho hx hy HZ4.out (rfl) (by rw [ZW_size]; exact infoW) (ZW_one) h
      clear hz4
      go_wp2_with (first | ((with_reducible refine step_alloc rfl 50 rfl Mi.ZM Mi.zeroM ?_)) | ((with_reducible refine STS rfl rfl rfl rfl ?_)) | ((with_reducible refine LDS rfl rfl rfl ?_)) | ((with_reducible refine STM rfl rfl rfl rfl ?_)) | ((with_reducible refine step_build rfl 87 rfl ZW buildW0 ?_)) | ((with_reducible refine ST2 rfl rfl rfl rfl ?_)))
      have hload := load_block (setCells_block HZ4.out (rfl)) 87 _ Try.underlying87 rfl (by rw [ZW_size]; exact infoW)
      refine bodyPost_ret (results_c1 rfl _ _ _ _ _ rfl hload) rfl ⟨rfl, setCells_below _ (Nat.le_refl _) _ _ _ HB4.out⟩
  by_cases h2 : b.getD 0 0 = 2
  · obtain ⟨hE, hi, hrr, hcc, htt⟩ := kindW2 b h2
    have hx0 : ((b.getD 0 0).toNat : Int) = 2 := by rw [h2]; rfl
    obtain ⟨ad, rfl, hc0⟩ := reads_cell hr 0 (by omega)
    rw [show ad.add 0 = ad by simp [Addr.add]] at hc0
    have hd0 := fun o1 o2 => pw_cell_below (below_alloc (below_alloc (Below.refl w.heap.size w) o1) o2) hc0
    have hy0 := byte_lt (b.getD 0 0)
    by_cases hbad : badM 2 92 b = 0
    · obtain ⟨n, m, L, hmsg, hn, hmm, hL, hraw⟩ := Ma.msg_full b
      have HL := Lib.hid hL
      have HMSG := Lib.hid hmsg
      have hkd : kdW b = 2 := by unfold kdW; rw [hE, if_pos hbad, hx0]
      suffices hS : Calls Try.prog 53 #[.slice (some ad) b.length c] w (fun e w' => e = .returned (.tuple #[.agg (WV 2 Mi.ZM (MV [n, m] L) Mc.ZM ZT), .int .i64 0]) ∧ Below w.heap.size w w') from hS.mono (fun e w' h => ⟨.slice none 0 0, h.1.trans (by rw [hkd, hi, hrr, hcc, htt, hE, hbad, hmsg]; rfl), by rw [htt]; exact RB.nil _, h.2⟩)
      have HBAD := Lib.hid hbad
      clear hkd hi hrr hcc htt hE hbad hmsg hraw hL
      have HZ : Hid (((w.alloc (.cells ZW 87)).alloc (.cells ZW 87)).heap[w.heap.size]? = some (.cells ZW 87 (0, 0))) := Lib.hid (blk_old (blk_new w _) _)
      have HM : Hid (((w.alloc (.cells ZW 87)).alloc (.cells ZW 87)).heap[w.heap.size + 1]? = some (.cells ZW 87 (0, 0))) := Lib.hid (blk_new1 w _ _)
      have HB : Hid (Below w.heap.size w ((w.alloc (.cells ZW 87)).alloc (.cells ZW 87))) := Lib.hid (below_alloc (below_alloc (Below.refl _ _) _) _)
      have AL2 : ∀ {ops : Array Oper} {rest : List Oper} {op : Oper} {a : Act} {Q : Exit → Act → World → Prop}, op.guard = none → op.op = .alloc 87 → wpList Try.prog ops Q rest (a.put op.dst (.pointer (some ⟨w.heap.size + 1, 0, none⟩))) ((w.alloc (.cells ZW 87)).alloc (.cells ZW 87)) → wpList Try.prog ops Q (op :: rest) a (w.alloc (.cells ZW 87)) := fun hg ho h => step_alloc hg 87 ho ZW zeroW (by rw [size_push]; exact h)
      have HR1 := Lib.hid (hr.below HB.out)
      have HC0 := Lib.hid hc0
      generalize (b.getD 0 0).toNat = x0 at hc0 HC0 hd0 hx0 hy0
      clear h2 hc0
      go_enter Try.func53, Try.ntmps53
      go_wp2_with (first | ((with_reducible refine AL2 rfl rfl ?_)) | ((with_reducible refine step_alloc rfl 87 rfl ZW zeroW ?_)))
      refine (Ma.refParse_any (some ad) c b _ hc HR1.out hl).mono ?_
      rintro e w2 ⟨rfl, hb2⟩
      rw [HMSG.out, HBAD.out]
      have HM2 := Lib.hid (blk_below HM.out hb2)
      have HZ2 := Lib.hid (blk_below HZ.out hb2)
      have HB2 := Lib.hid (below_comp HB.out hb2)
      have HS2 : Hid (w.heap.size + 2 ≤ w2.heap.size) := Lib.hid (by have := hb2.size; rw [size_push, size_push] at this; exact this)
      clear hb2 HM HZ HB AL2 hd0
      have FA := Lib.hid (blk_new w2 (.cells Ma.ZM 40))
      have STS : ∀ {ops : Array Oper} {rest : List Oper} {op : Oper} {a : Act} {Q : Exit → Act → World → Prop}, op.guard = none → op.op = .store 40 (.tmp 8) (.tmp 36) → a.eval (.tmp 8) = .pointer (some ⟨w2.heap.size, 0, none⟩) → a.eval (.tmp 36) = .agg (MV [n, m] L) → wpList Try.prog ops Q rest (a.put op.dst undef) ((w2.alloc (.cells Ma.ZM 40)).setCells w2.heap.size 0 (MV [n, m] L).toList) → wpList Try.prog ops Q (op :: rest) a (w2.alloc (.cells Ma.ZM 40)) := fun hg ho hx hy h => step_store hg 40 (.tmp 8) (.tmp 36) ho hx hy FA.out (by rw [MV2s, HL.out, Ma.ZM_size]) Ma.info_ZM (MV_one _ _) h
      have hs3 : Below w2.heap.size w2 ((w2.alloc (.cells Ma.ZM 40)).setCells w2.heap.size 0 (MV [n, m] L).toList) := setCells_below _ (Nat.le_refl _) _ _ _ (below_alloc (Below.refl _ _) _)
      have FB : Hid (((w2.alloc (.cells Ma.ZM 40)).setCells w2.heap.size 0 (MV [n, m] L).toList).heap[w2.heap.size]? = some (.cells (MV [n, m] L) 40 (0, 0))) := Lib.hid (setCells_block FA.out (by rw [MV2s, HL.out, Ma.ZM_size]))
      have LDS : ∀ {ops : Array Oper} {rest : List Oper} {op : Oper} {a : Act} {Q : Exit → Act → World → Prop}, op.guard = none → op.op = .load 40 (.tmp 8) → a.eval (.tmp 8) = .pointer (some ⟨w2.heap.size, 0, none⟩) → wpList Try.prog ops Q rest (a.put op.dst (.agg (MV [n, m] L))) ((w2.alloc (.cells Ma.ZM 40)).setCells w2.heap.size 0 (MV [n, m] L).toList) → wpList Try.prog ops Q (op :: rest) a ((w2.alloc (.cells Ma.ZM 40)).setCells w2.heap.size 0 (MV [n, m] L).toList) := fun hg ho hx h => step_load hg 40 (.tmp 8) ho hx FB.out _ Try.underlying40 rfl (by rw [show (MV [n, m] L).size = Ma.ZM.size from (by rw [MV2s, HL.out, Ma.ZM_size])]; exact Ma.info_ZM) h
      have HM3 := Lib.hid (blk_below HM2.out hs3)
      have HZ3 := Lib.hid (blk_below HZ2.out hs3)
      have HB3 := Lib.hid (below_comp HB2.out hs3)
      clear hs3
      have STM : ∀ {ops : Array Oper} {rest : List Oper} {op : Oper} {a : Act} {Q : Exit → Act → World → Prop}, op.guard = none → op.op = .store 40 (.tmp 39) (.tmp 38) → a.eval (.tmp 39) = .pointer (some ⟨w.heap.size + 1, 142, none⟩) → a.eval (.tmp 38) = .agg ((MV [n, m] L)) → wpList Try.prog ops Q rest (a.put op.dst undef) (((w2.alloc (.cells Ma.ZM 40)).setCells w2.heap.size 0 (MV [n, m] L).toList).setCells (w.heap.size + 1) 142 ((MV [n, m] L)).toList) → wpList Try.prog ops Q (op :: rest) a ((w2.alloc (.cells Ma.ZM 40)).setCells w2.heap.size 0 (MV [n, m] L).toList) := fun hg ho hx hy h => step_store_at hg 40 (.tmp 39) (.tmp 38) ho hx hy (by rw [Array.size_append, Mi.ZM_size]; rfl) (show ((w2.alloc (.cells Ma.ZM 40)).setCells w2.heap.size 0 (MV [n, m] L).toList).heap[w.heap.size + 1]? = some (.cells ((#[.int .i64 (0)] ++ Mi.ZM) ++ Ma.ZM ++ (Mc.ZM ++ ZT)) 87 (0, 0)) from by rw [← WV_r]; exact HM3.out) (by rw [MV2s, HL.out, Ma.ZM_size]) (by rw [Ma.ZM_size]; exact Ma.infoM) (MV_one _ _) h
      have hz4 : (((w2.alloc (.cells Ma.ZM 40)).setCells w2.heap.size 0 (MV [n, m] L).toList).setCells (w.heap.size + 1) 142 ((MV [n, m] L) : Array Value).toList).heap[w.heap.size]? = some (.cells ZW 87 (0, 0)) := ((setCells_below (B := w.heap.size + 1) _ (Nat.le_refl _) _ _ ((w2.alloc (.cells Ma.ZM 40)).setCells w2.heap.size 0 (MV [n, m] L).toList) (Below.refl _ _)).block _ (Nat.lt_succ_self _)).trans HZ3.out
      have HZ4 := Lib.hid hz4
      have HB4 := Lib.hid (setCells_below (w.heap.size + 1) (Nat.le_succ _) ((MV [n, m] L) : Array Value).toList 142 _ HB3.out)
      have hm4 : (((w2.alloc (.cells Ma.ZM 40)).setCells w2.heap.size 0 (MV [n, m] L).toList).setCells (w.heap.size + 1) 142 ((MV [n, m] L) : Array Value).toList).heap[w.heap.size + 1]? = some (.cells (WV 0 Mi.ZM (MV [n, m] L) Mc.ZM ZT) 87 (0, 0)) := by
        have h := setCells_mid (M' := (MV [n, m] L)) (show ((w2.alloc (.cells Ma.ZM 40)).setCells w2.heap.size 0 (MV [n, m] L).toList).heap[w.heap.size + 1]? = some (.cells ((#[.int .i64 (0)] ++ Mi.ZM) ++ Ma.ZM ++ (Mc.ZM ++ ZT)) 87 (0, 0)) from by rw [← WV_r]; exact HM3.out) (by rw [MV2s, HL.out, Ma.ZM_size])
        rw [show ((#[.int .i64 (0)] ++ Mi.ZM) : Array Value).size = 142 from (by rw [Array.size_append, Mi.ZM_size]; rfl)] at h
        rw [WV_r]; exact h
      have c0 := (blk_cell hm4 0).trans (WV_0 _ _ _ _ _)
      have c1 := blk_frozen hm4 0
      have cd := pw_cell_below HB4.out HC0.out
      have HM5 : Hid (((((w2.alloc (.cells Ma.ZM 40)).setCells w2.heap.size 0 (MV [n, m] L).toList).setCells (w.heap.size + 1) 142 ((MV [n, m] L) : Array Value).toList).setCell ⟨w.heap.size + 1, 0, none⟩ (.int .i64 2)).heap[w.heap.size + 1]? = some (.cells (WV 2 Mi.ZM (MV [n, m] L) Mc.ZM ZT) 87 (0, 0))) := Lib.hid (by rw [blk_set hm4 0 _, WV_set])
      have HZ5 : Hid (((((w2.alloc (.cells Ma.ZM 40)).setCells w2.heap.size 0 (MV [n, m] L).toList).setCells (w.heap.size + 1) 142 ((MV [n, m] L) : Array Value).toList).setCell ⟨w.heap.size + 1, 0, none⟩ (.int .i64 2)).heap[w.heap.size]? = some (.cells ZW 87 (0, 0))) := Lib.hid (blk_far hz4 (by simp) _)
      have HB5 := Lib.hid (HB4.out.setCell (p := ⟨w.heap.size + 1, 0, none⟩) (Nat.le_succ _) (.int .i64 2))
      have HSW : Hid ((WV 2 Mi.ZM (MV [n, m] L) Mc.ZM ZT).size = ZW.size) := Lib.hid (by rw [ZW_size]; exact WV_size _ _ _ _ _ (Mi.ZM_size) (by rw [MV2s, HL.out]) (Mc.ZM_size) rfl)
      have LDW : ∀ {ops : Array Oper} {rest : List Oper} {op : Oper} {a : Act} {Q : Exit → Act → World → Prop}, op.guard = none → op.op = .load 87 (.tmp 4) → a.eval (.tmp 4) = .pointer (some ⟨w.heap.size + 1, 0, none⟩) → wpList Try.prog ops Q rest (a.put op.dst (.agg (WV 2 Mi.ZM (MV [n, m] L) Mc.ZM ZT))) ((((w2.alloc (.cells Ma.ZM 40)).setCells w2.heap.size 0 (MV [n, m] L).toList).setCells (w.heap.size + 1) 142 ((MV [n, m] L) : Array Value).toList).setCell ⟨w.heap.size + 1, 0, none⟩ (.int .i64 2)) → wpList Try.prog ops Q (op :: rest) a ((((w2.alloc (.cells Ma.ZM 40)).setCells w2.heap.size 0 (MV [n, m] L).toList).setCells (w.heap.size + 1) 142 ((MV [n, m] L) : Array Value).toList).setCell ⟨w.heap.size + 1, 0, none⟩ (.int .i64 2)) := fun hg ho hx h => step_load hg 87 (.tmp 4) ho hx HM5.out _ Try.underlying87 rfl (by rw [HSW.out, ZW_size]; exact infoW) h
      have ST2 : ∀ {ops : Array Oper} {rest : List Oper} {op : Oper} {a : Act} {Q : Exit → Act → World → Prop}, op.guard = none → op.op = .store 87 (.tmp 2) (.tmp 70) → a.eval (.tmp 2) = .pointer (some ⟨w.heap.size, 0, none⟩) → a.eval (.tmp 70) = .agg (WV 2 Mi.ZM (MV [n, m] L) Mc.ZM ZT) → wpList Try.prog ops Q rest (a.put op.dst undef) (((((w2.alloc (.cells Ma.ZM 40)).setCells w2.heap.size 0 (MV [n, m] L).toList).setCells (w.heap.size + 1) 142 ((MV [n, m] L) : Array Value).toList).setCell ⟨w.heap.size + 1, 0, none⟩ (.int .i64 2)).setCells (w.heap.size) 0 (WV 2 Mi.ZM (MV [n, m] L) Mc.ZM ZT).toList) → wpList Try.prog ops Q (op :: rest) a ((((w2.alloc (.cells Ma.ZM 40)).setCells w2.heap.size 0 (MV [n, m] L).toList).setCells (w.heap.size + 1) 142 ((MV [n, m] L) : Array Value).toList).setCell ⟨w.heap.size + 1, 0, none⟩ (.int .i64 2)) := fun hg ho hx hy h => step_store hg 87 (.tmp 2) (.tmp 70) ho hx hy HZ5.out (HSW.out) (by rw [ZW_size]; exact infoW) (WV_one _ _ _ _ _ Mi.ZM_one (MV_one _ _) Mc.ZM_one ZT_one) h
      clear hm4 hz4
      go_wp2_with (first | ((with_reducible refine step_alloc rfl 40 rfl Ma.ZM Ma.zeroM ?_)) | ((with_reducible refine STS rfl rfl rfl rfl ?_)) | ((with_reducible refine LDS rfl rfl rfl ?_)) | ((with_reducible refine STM rfl rfl rfl rfl ?_)) | ((with_reducible refine LDW rfl rfl rfl ?_)) | ((with_reducible refine ST2 rfl rfl rfl rfl ?_)))
      have hload := load_block (setCells_block HZ5.out (HSW.out)) 87 _ Try.underlying87 rfl (by rw [HSW.out, ZW_size]; exact infoW)
      refine bodyPost_ret (results_c1 rfl _ _ _ _ _ rfl hload) rfl ⟨rfl, setCells_below _ (Nat.le_refl _) _ _ _ HB5.out⟩
    · obtain ⟨n, m, L, hmsg, hn, hmm, hL, hraw⟩ := Ma.msg_full b
      have HL := Lib.hid hL
      have HMSG := Lib.hid hmsg
      have hkd : kdW b = 0 := by unfold kdW; rw [hE, if_neg hbad]
      rw [Ma.ZM_msg b hbad] at hrr
      obtain ⟨E, hEE⟩ : ∃ E, badM 2 92 b = E := ⟨_, rfl⟩
      rw [hEE] at hE hbad
      have HBAD := Lib.hid hEE
      suffices hS : Calls Try.prog 53 #[.slice (some ad) b.length c] w (fun e w' => e = .returned (.tuple #[.agg ZW, .int .i64 (E)]) ∧ Below w.heap.size w w') from hS.mono (fun e w' h => ⟨.slice none 0 0, h.1.trans (by rw [hkd, hi, hrr, hcc, htt, hE]; rfl), by rw [htt]; exact RB.nil _, h.2⟩)
      clear hkd hi hrr hcc htt hE
      have hE2 : (E != 0) = true := bne_iff_ne.2 hbad
      clear hEE hmsg hraw hL
      have HZ : Hid (((w.alloc (.cells ZW 87)).alloc (.cells ZW 87)).heap[w.heap.size]? = some (.cells ZW 87 (0, 0))) := Lib.hid (blk_old (blk_new w _) _)
      have HM : Hid (((w.alloc (.cells ZW 87)).alloc (.cells ZW 87)).heap[w.heap.size + 1]? = some (.cells ZW 87 (0, 0))) := Lib.hid (blk_new1 w _ _)
      have HB : Hid (Below w.heap.size w ((w.alloc (.cells ZW 87)).alloc (.cells ZW 87))) := Lib.hid (below_alloc (below_alloc (Below.refl _ _) _) _)
      have AL2 : ∀ {ops : Array Oper} {rest : List Oper} {op : Oper} {a : Act} {Q : Exit → Act → World → Prop}, op.guard = none → op.op = .alloc 87 → wpList Try.prog ops Q rest (a.put op.dst (.pointer (some ⟨w.heap.size + 1, 0, none⟩))) ((w.alloc (.cells ZW 87)).alloc (.cells ZW 87)) → wpList Try.prog ops Q (op :: rest) a (w.alloc (.cells ZW 87)) := fun hg ho h => step_alloc hg 87 ho ZW zeroW (by rw [size_push]; exact h)
      have HR1 := Lib.hid (hr.below HB.out)
      have HC0 := Lib.hid hc0
      generalize (b.getD 0 0).toNat = x0 at hc0 HC0 hd0 hx0 hy0
      clear h2 hc0
      go_enter Try.func53, Try.ntmps53
      go_wp2_with (first | ((with_reducible refine AL2 rfl rfl ?_)) | ((with_reducible refine step_alloc rfl 87 rfl ZW zeroW ?_)))
      refine (Ma.refParse_any (some ad) c b _ hc HR1.out hl).mono ?_
      rintro e w2 ⟨rfl, hb2⟩
      rw [HMSG.out, HBAD.out]
      have HM2 := Lib.hid (blk_below HM.out hb2)
      have HZ2 := Lib.hid (blk_below HZ.out hb2)
      have HB2 := Lib.hid (below_comp HB.out hb2)
      have HS2 : Hid (w.heap.size + 2 ≤ w2.heap.size) := Lib.hid (by have := hb2.size; rw [size_push, size_push] at this; exact this)
      clear hb2 HM HZ HB AL2 hd0
      have FA := Lib.hid (blk_new w2 (.cells Ma.ZM 40))
      have STS : ∀ {ops : Array Oper} {rest : List Oper} {op : Oper} {a : Act} {Q : Exit → Act → World → Prop}, op.guard = none → op.op = .store 40 (.tmp 8) (.tmp 36) → a.eval (.tmp 8) = .pointer (some ⟨w2.heap.size, 0, none⟩) → a.eval (.tmp 36) = .agg (MV [n, m] L) → wpList Try.prog ops Q rest (a.put op.dst undef) ((w2.alloc (.cells Ma.ZM 40)).setCells w2.heap.size 0 (MV [n, m] L).toList) → wpList Try.prog ops Q (op :: rest) a (w2.alloc (.cells Ma.ZM 40)) := fun hg ho hx hy h => step_store hg 40 (.tmp 8) (.tmp 36) ho hx hy FA.out (by rw [MV2s, HL.out, Ma.ZM_size]) Ma.info_ZM (MV_one _ _) h
      have hs3 : Below w2.heap.size w2 ((w2.alloc (.cells Ma.ZM 40)).setCells w2.heap.size 0 (MV [n, m] L).toList) := setCells_below _ (Nat.le_refl _) _ _ _ (below_alloc (Below.refl _ _) _)
      have FB : Hid (((w2.alloc (.cells Ma.ZM 40)).setCells w2.heap.size 0 (MV [n, m] L).toList).heap[w2.heap.size]? = some (.cells (MV [n, m] L) 40 (0, 0))) := Lib.hid (setCells_block FA.out (by rw [MV2s, HL.out, Ma.ZM_size]))
      have LDS : ∀ {ops : Array Oper} {rest : List Oper} {op : Oper} {a : Act} {Q : Exit → Act → World → Prop}, op.guard = none → op.op = .load 40 (.tmp 8) → a.eval (.tmp 8) = .pointer (some ⟨w2.heap.size, 0, none⟩) → wpList Try.prog ops Q rest (a.put op.dst (.agg (MV [n, m] L))) ((w2.alloc (.cells Ma.ZM 40)).setCells w2.heap.size 0 (MV [n, m] L).toList) → wpList Try.prog ops Q (op :: rest) a ((w2.alloc (.cells Ma.ZM 40)).setCells w2.heap.size 0 (MV [n, m] L).toList) := fun hg ho hx h => step_load hg 40 (.tmp 8) ho hx FB.out _ Try.underlying40 rfl (by rw [show (MV [n, m] L).size = Ma.ZM.size from (by rw [MV2s, HL.out, Ma.ZM_size])]; exact Ma.info_ZM) h
      have HM3 := Lib.hid (blk_below HM2.out hs3)
      have HZ3 := Lib.hid (blk_below HZ2.out hs3)
      have HB3 := Lib.hid (below_comp HB2.out hs3)
      clear hs3
      have STM : ∀ {ops : Array Oper} {rest : List Oper} {op : Oper} {a : Act} {Q : Exit → Act → World → Prop}, op.guard = none → op.op = .store 40 (.tmp 39) (.tmp 38) → a.eval (.tmp 39) = .pointer (some ⟨w.heap.size + 1, 142, none⟩) → a.eval (.tmp 38) = .agg ((MV [n, m] L)) → wpList Try.prog ops Q rest (a.put op.dst undef) (((w2.alloc (.cells Ma.ZM 40)).setCells w2.heap.size 0 (MV [n, m] L).toList).setCells (w.heap.size + 1) 142 ((MV [n, m] L)).toList) → wpList Try.prog ops Q (op :: rest) a ((w2.alloc (.cells Ma.ZM 40)).setCells w2.heap.size 0 (MV [n, m] L).toList) := fun hg ho hx hy h => step_store_at hg 40 (.tmp 39) (.tmp 38) ho hx hy (by rw [Array.size_append, Mi.ZM_size]; rfl) (show ((w2.alloc (.cells Ma.ZM 40)).setCells w2.heap.size 0 (MV [n, m] L).toList).heap[w.heap.size + 1]? = some (.cells ((#[.int .i64 (0)] ++ Mi.ZM) ++ Ma.ZM ++ (Mc.ZM ++ ZT)) 87 (0, 0)) from by rw [← WV_r]; exact HM3.out) (by rw [MV2s, HL.out, Ma.ZM_size]) (by rw [Ma.ZM_size]; exact Ma.infoM) (MV_one _ _) h
      have hz4 : (((w2.alloc (.cells Ma.ZM 40)).setCells w2.heap.size 0 (MV [n, m] L).toList).setCells (w.heap.size + 1) 142 ((MV [n, m] L) : Array Value).toList).heap[w.heap.size]? = some (.cells ZW 87 (0, 0)) := ((setCells_below (B := w.heap.size + 1) _ (Nat.le_refl _) _ _ ((w2.alloc (.cells Ma.ZM 40)).setCells w2.heap.size 0 (MV [n, m] L).toList) (Below.refl _ _)).block _ (Nat.lt_succ_self _)).trans HZ3.out
      have HZ4 := Lib.hid hz4
      have HB4 := Lib.hid (setCells_below (w.heap.size + 1) (Nat.le_succ _) ((MV [n, m] L) : Array Value).toList 142 _ HB3.out)
      have ST2 : ∀ {ops : Array Oper} {rest : List Oper} {op : Oper} {a : Act} {Q : Exit → Act → World → Prop}, op.guard = none → op.op = .store 87 (.tmp 2) (.tmp 63) → a.eval (.tmp 2) = .pointer (some ⟨w.heap.size, 0, none⟩) → a.eval (.tmp 63) = .agg (ZW) → wpList Try.prog ops Q rest (a.put op.dst undef) ((((w2.alloc (.cells Ma.ZM 40)).setCells w2.heap.size 0 (MV [n, m] L).toList).setCells (w.heap.size + 1) 142 ((MV [n, m] L) : Array Value).toList).setCells (w.heap.size) 0 (ZW).toList) → wpList Try.prog ops Q (op :: rest) a (((w2.alloc (.cells Ma.ZM 40)).setCells w2.heap.size 0 (MV [n, m] L).toList).setCells (w.heap.size + 1) 142 ((MV [n, m] L) : Array Value).toList) := fun hg ho hx hy h => step_store hg 87 (.tmp 2) (.tmp 63) ho hx hy HZ4.out (rfl) (by rw [ZW_size]; exact infoW) (ZW_one) h
      clear hz4
      go_wp2_with (first | ((with_reducible refine step_alloc rfl 40 rfl Ma.ZM Ma.zeroM ?_)) | ((with_reducible refine STS rfl rfl rfl rfl ?_)) | ((with_reducible refine LDS rfl rfl rfl ?_)) | ((with_reducible refine STM rfl rfl rfl rfl ?_)) | ((with_reducible refine step_build rfl 87 rfl ZW buildW0 ?_)) | ((with_reducible refine ST2 rfl rfl rfl rfl ?_)))
      have hload := load_block (setCells_block HZ4.out (rfl)) 87 _ Try.underlying87 rfl (by rw [ZW_size]; exact infoW)
      refine bodyPost_ret (results_c1 rfl _ _ _ _ _ rfl hload) rfl ⟨rfl, setCells_below _ (Nat.le_refl _) _ _ _ HB4.out⟩
  by_cases h3 : b.getD 0 0 = 3
  · obtain ⟨hE, hi, hrr, hcc, htt⟩ := kindW3 b h3
    have hx0 : ((b.getD 0 0).toNat : Int) = 3 := by rw [h3]; rfl
    obtain ⟨ad, rfl, hc0⟩ := reads_cell hr 0 (by omega)
    rw [show ad.add 0 = ad by simp [Addr.add]] at hc0
    have hd0 := fun o1 o2 => pw_cell_below (below_alloc (below_alloc (Below.refl w.heap.size w) o1) o2) hc0
    have hy0 := byte_lt (b.getD 0 0)
    by_cases hbad : badM 3 64 b = 0
    · obtain ⟨n, L, hmsg, hn, hL, hraw⟩ := Mc.msg_full b
      have HL := Lib.hid hL
      have HMSG := Lib.hid hmsg
      have hkd : kdW b = 3 := by unfold kdW; rw [hE, if_pos hbad, hx0]
      suffices hS : Calls Try.prog 53 #[.slice (some ad) b.length c] w (fun e w' => e = .returned (.tuple #[.agg (WV 3 Mi.ZM Ma.ZM (MV [n] L) ZT), .int .i64 0]) ∧ Below w.heap.size w w') from hS.mono (fun e w' h => ⟨.slice none 0 0, h.1.trans (by rw [hkd, hi, hrr, hcc, htt, hE, hbad, hmsg]; rfl), by rw [htt]; exact RB.nil _, h.2⟩)
      have HBAD := Lib.hid hbad
      clear hkd hi hrr hcc htt hE hbad hmsg hraw hL
      have HZ : Hid (((w.alloc (.cells ZW 87)).alloc (.cells ZW 87)).heap[w.heap.size]? = some (.cells ZW 87 (0, 0))) := Lib.hid (blk_old (blk_new w _) _)
      have HM : Hid (((w.alloc (.cells ZW 87)).alloc (.cells ZW 87)).heap[w.heap.size + 1]? = some (.cells ZW 87 (0, 0))) := Lib.hid (blk_new1 w _ _)
      have HB : Hid (Below w.heap.size w ((w.alloc (.cells ZW 87)).alloc (.cells ZW 87))) := Lib.hid (below_alloc (below_alloc (Below.refl _ _) _) _)
      have AL2 : ∀ {ops : Array Oper} {rest : List Oper} {op : Oper} {a : Act} {Q : Exit → Act → World → Prop}, op.guard = none → op.op = .alloc 87 → wpList Try.prog ops Q rest (a.put op.dst (.pointer (some ⟨w.heap.size + 1, 0, none⟩))) ((w.alloc (.cells ZW 87)).alloc (.cells ZW 87)) → wpList Try.prog ops Q (op :: rest) a (w.alloc (.cells ZW 87)) := fun hg ho h => step_alloc hg 87 ho ZW zeroW (by rw [size_push]; exact h)
      have HR1 := Lib.hid (hr.below HB.out)
      have HC0 := Lib.hid hc0
      generalize (b.getD 0 0).toNat = x0 at hc0 HC0 hd0 hx0 hy0
      clear h3 hc0
      go_enter Try.func53, Try.ntmps53
      go_wp2_with (first | ((with_reducible refine AL2 rfl rfl ?_)) | ((with_reducible refine step_alloc rfl 87 rfl ZW zeroW ?_)))
      refine (Mc.refParse_any (some ad) c b _ hc HR1.out hl).mono ?_
      rintro e w2 ⟨rfl, hb2⟩
      rw [HMSG.out, HBAD.out]
      have HM2 := Lib.hid (blk_below HM.out hb2)
      have HZ2 := Lib.hid (blk_below HZ.out hb2)
      have HB2 := Lib.hid (below_comp HB.out hb2)
      have HS2 : Hid (w.heap.size + 2 ≤ w2.heap.size) := Lib.hid (by have := hb2.size; rw [size_push, size_push] at this; exact this)
      clear hb2 HM HZ HB AL2 hd0
      have FA := Lib.hid (blk_new w2 (.cells Mc.ZM 26))
      have STS : ∀ {ops : Array Oper} {rest : List Oper} {op : Oper} {a : Act} {Q : Exit → Act → World → Prop}, op.guard = none → op.op = .store 26 (.tmp 10) (.tmp 46) → a.eval (.tmp 10) = .pointer (some ⟨w2.heap.size, 0, none⟩) → a.eval (.tmp 46) = .agg (MV [n] L) → wpList Try.prog ops Q rest (a.put op.dst undef) ((w2.alloc (.cells Mc.ZM 26)).setCells w2.heap.size 0 (MV [n] L).toList) → wpList Try.prog ops Q (op :: rest) a (w2.alloc (.cells Mc.ZM 26)) := fun hg ho hx hy h => step_store hg 26 (.tmp 10) (.tmp 46) ho hx hy FA.out (by rw [MV1s, HL.out, Mc.ZM_size]) Mc.info_ZM (MV_one _ _) h
      have hs3 : Below w2.heap.size w2 ((w2.alloc (.cells Mc.ZM 26)).setCells w2.heap.size 0 (MV [n] L).toList) := setCells_below _ (Nat.le_refl _) _ _ _ (below_alloc (Below.refl _ _) _)
      have FB : Hid (((w2.alloc (.cells Mc.ZM 26)).setCells w2.heap.size 0 (MV [n] L).toList).heap[w2.heap.size]? = some (.cells (MV [n] L) 26 (0, 0))) := Lib.hid (setCells_block FA.out (by rw [MV1s, HL.out, Mc.ZM_size]))
      have LDS : ∀ {ops : Array Oper} {rest : List Oper} {op : Oper} {a : Act} {Q : Exit → Act → World → Prop}, op.guard = none → op.op = .load 26 (.tmp 10) → a.eval (.tmp 10) = .pointer (some ⟨w2.heap.size, 0, none⟩) → wpList Try.prog ops Q rest (a.put op.dst (.agg (MV [n] L))) ((w2.alloc (.cells Mc.ZM 26)).setCells w2.heap.size 0 (MV [n] L).toList) → wpList Try.prog ops Q (op :: rest) a ((w2.alloc (.cells Mc.ZM 26)).setCells w2.heap.size 0 (MV [n] L).toList) := fun hg ho hx h => step_load hg 26 (.tmp 10) ho hx FB.out _ Try.underlying26 rfl (by rw [show (MV [n] L).size = Mc.ZM.size from (by rw [MV1s, HL.out, Mc.ZM_size])]; exact Mc.info_ZM) h
      have HM3 := Lib.hid (blk_below HM2.out hs3)
      have HZ3 := Lib.hid (blk_below HZ2.out hs3)
      have HB3 := Lib.hid (below_comp HB2.out hs3)
      clear hs3
      have STM : ∀ {ops : Array Oper} {rest : List Oper} {op : Oper} {a : Act} {Q : Exit → Act → World → Prop}, op.guard = none → op.op = .store 26 (.tmp 49) (.tmp 48) → a.eval (.tmp 49) = .pointer (some ⟨w.heap.size + 1, 224, none⟩) → a.eval (.tmp 48) = .agg ((MV [n] L)) → wpList Try.prog ops Q rest (a.put op.dst undef) (((w2.alloc (.cells Mc.ZM 26)).setCells w2.heap.size 0 (MV [n] L).toList).setCells (w.heap.size + 1) 224 ((MV [n] L)).toList) → wpList Try.prog ops Q (op :: rest) a ((w2.alloc (.cells Mc.ZM 26)).setCells w2.heap.size 0 (MV [n] L).toList) := fun hg ho hx hy h => step_store_at hg 26 (.tmp 49) (.tmp 48) ho hx hy (by rw [Array.size_append, Array.size_append, Mi.ZM_size, Ma.ZM_size]; rfl) (show ((w2.alloc (.cells Mc.ZM 26)).setCells w2.heap.size 0 (MV [n] L).toList).heap[w.heap.size + 1]? = some (.cells ((#[.int .i64 (0)] ++ Mi.ZM ++ Ma.ZM) ++ Mc.ZM ++ ZT) 87 (0, 0)) from by rw [← WV_c]; exact HM3.out) (by rw [MV1s, HL.out, Mc.ZM_size]) (by rw [Mc.ZM_size]; exact Mc.infoM) (MV_one _ _) h
      have hz4 : (((w2.alloc (.cells Mc.ZM 26)).setCells w2.heap.size 0 (MV [n] L).toList).setCells (w.heap.size + 1) 224 ((MV [n] L) : Array Value).toList).heap[w.heap.size]? = some (.cells ZW 87 (0, 0)) := ((setCells_below (B := w.heap.size + 1) _ (Nat.le_refl _) _ _ ((w2.alloc (.cells Mc.ZM 26)).setCells w2.heap.size 0 (MV [n] L).toList) (Below.refl _ _)).block _ (Nat.lt_succ_self _)).trans HZ3.out
      have HZ4 := Lib.hid hz4
      have HB4 := Lib.hid (setCells_below (w.heap.size + 1) (Nat.le_succ _) ((MV [n] L) : Array Value).toList 224 _ HB3.out)
      have hm4 : (((w2.alloc (.cells Mc.ZM 26)).setCells w2.heap.size 0 (MV [n] L).toList).setCells (w.heap.size + 1) 224 ((MV [n] L) : Array Value).toList).heap[w.heap.size + 1]? = some (.cells (WV 0 Mi.ZM Ma.ZM (MV [n] L) ZT) 87 (0, 0)) := by
        have h := setCells_mid (M' := (MV [n] L)) (show ((w2.alloc (.cells Mc.ZM 26)).setCells w2.heap.size 0 (MV [n] L).toList).heap[w.heap.size + 1]? = some (.cells ((#[.int .i64 (0)] ++ Mi.ZM ++ Ma.ZM) ++ Mc.ZM ++ ZT) 87 (0, 0)) from by rw [← WV_c]; exact HM3.out) (by rw [MV1s, HL.out, Mc.ZM_size])
        rw [show ((#[.int .i64 (0)] ++ Mi.ZM ++ Ma.ZM) : Array Value).size = 224 from (by rw [Array.size_append, Array.size_append, Mi.ZM_size, Ma.ZM_size]; rfl)] at h
        rw [WV_c]; exact h
      have c0 := (blk_cell hm4 0).trans (WV_0 _ _ _ _ _)
      have c1 := blk_frozen hm4 0
      have cd := pw_cell_below HB4.out HC0.out
      have HM5 : Hid (((((w2.alloc (.cells Mc.ZM 26)).setCells w2.heap.size 0 (MV [n] L).toList).setCells (w.heap.size + 1) 224 ((MV [n] L) : Array Value).toList).setCell ⟨w.heap.size + 1, 0, none⟩ (.int .i64 3)).heap[w.heap.size + 1]? = some (.cells (WV 3 Mi.ZM Ma.ZM (MV [n] L) ZT) 87 (0, 0))) := Lib.hid (by rw [blk_set hm4 0 _, WV_set])
      have HZ5 : Hid (((((w2.alloc (.cells Mc.ZM 26)).setCells w2.heap.size 0 (MV [n] L).toList).setCells (w.heap.size + 1) 224 ((MV [n] L) : Array Value).toList).setCell ⟨w.heap.size + 1, 0, none⟩ (.int .i64 3)).heap[w.heap.size]? = some (.cells ZW 87 (0, 0))) := Lib.hid (blk_far hz4 (by simp) _)
      have HB5 := Lib.hid (HB4.out.setCell (p := ⟨w.heap.size + 1, 0, none⟩) (Nat.le_succ _) (.int .i64 3))
      have HSW : Hid ((WV 3 Mi.ZM Ma.ZM (MV [n] L) ZT).size = ZW.size) := Lib.hid (by rw [ZW_size]; exact WV_size _ _ _ _ _ (Mi.ZM_size) (Ma.ZM_size) (by rw [MV1s, HL.out]) rfl)
      have LDW : ∀ {ops : Array Oper} {rest : List Oper} {op : Oper} {a : Act} {Q : Exit → Act → World → Prop}, op.guard = none → op.op = .load 87 (.tmp 4) → a.eval (.tmp 4) = .pointer (some ⟨w.heap.size + 1, 0, none⟩) → wpList Try.prog ops Q rest (a.put op.dst (.agg (WV 3 Mi.ZM Ma.ZM (MV [n] L) ZT))) ((((w2.alloc (.cells Mc.ZM 26)).setCells w2.heap.size 0 (MV [n] L).toList).setCells (w.heap.size + 1) 224 ((MV [n] L) : Array Value).toList).setCell ⟨w.heap.size + 1, 0, none⟩ (.int .i64 3)) → wpList Try.prog ops Q (op :: rest) a ((((w2.alloc (.cells Mc.ZM 26)).setCells w2.heap.size 0 (MV [n] L).toList).setCells (w.heap.size + 1) 224 ((MV [n] L) : Array Value).toList).setCell ⟨w.heap.size + 1, 0, none⟩ (.int .i64 3)) := fun hg ho hx h => step_load hg 87 (.tmp 4) ho hx HM5.out _ Try.underlying87 rfl (by rw [HSW.out, ZW_size]; exact infoW) h
      have ST2 : ∀ {ops : Array Oper} {rest : List Oper} {op : Oper} {a : Act} {Q : Exit → Act → World → Prop}, op.guard = none → op.op = .store 87 (.tmp 2) (.tmp 70) → a.eval (.tmp 2) = .pointer (some ⟨w.heap.size, 0, none⟩) → a.eval (.tmp 70) = .agg (WV 3 Mi.ZM Ma.ZM (MV [n] L) ZT) → wpList Try.prog ops Q rest (a.put op.dst undef) (((((w2.alloc (.cells Mc.ZM 26)).setCells w2.heap.size 0 (MV [n] L).toList).setCells (w.heap.size + 1) 224 ((MV [n] L) : Array Value).toList).setCell ⟨w.heap.size + 1, 0, none⟩ (.int .i64 3)).setCells (w.heap.size) 0 (WV 3 Mi.ZM Ma.ZM (MV [n] L) ZT).toList) → wpList Try.prog ops Q (op :: rest) a ((((w2.alloc (.cells Mc.ZM 26)).setCells w2.heap.size 0 (MV [n] L).toList).setCells (w.heap.size + 1) 224 ((MV [n] L) : Array Value).toList).setCell ⟨w.heap.size + 1, 0, none⟩ (.int .i64 3)) := fun hg ho hx hy h => step_store hg 87 (.tmp 2) (.tmp 70) ho hx hy HZ5.out (HSW.out) (by rw [ZW_size]; exact infoW) (WV_one _ _ _ _ _ Mi.ZM_one Ma.ZM_one (MV_one _ _) ZT_one) h
      clear hm4 hz4
      go_wp2_with (first | ((with_reducible refine step_alloc rfl 26 rfl Mc.ZM Mc.zeroM ?_)) | ((with_reducible refine STS rfl rfl rfl rfl ?_)) | ((with_reducible refine LDS rfl rfl rfl ?_)) | ((with_reducible refine STM rfl rfl rfl rfl ?_)) | ((with_reducible refine LDW rfl rfl rfl ?_)) | ((with_reducible refine ST2 rfl rfl rfl rfl ?_)))
      have hload := load_block (setCells_block HZ5.out (HSW.out)) 87 _ Try.underlying87 rfl (by rw [HSW.out, ZW_size]; exact infoW)
      refine bodyPost_ret (results_c1 rfl _ _ _ _ _ rfl hload) rfl ⟨rfl, setCells_below _ (Nat.le_refl _) _ _ _ HB5.out⟩
    · obtain ⟨n, L, hmsg, hn, hL, hraw⟩ := Mc.msg_full b
      have HL := Lib.hid hL
      have HMSG := Lib.hid hmsg
      have hkd : kdW b = 0 := by unfold kdW; rw [hE, if_neg hbad]
      rw [Mc.ZM_msg b hbad] at hcc
      obtain ⟨E, hEE⟩ : ∃ E, badM 3 64 b = E := ⟨_, rfl⟩
      rw [hEE] at hE hbad
      have HBAD := Lib.hid hEE
      suffices hS : Calls Try.prog 53 #[.slice (some ad) b.length c] w (fun e w' => e = .returned (.tuple #[.agg ZW, .int .i64 (E)]) ∧ Below w.heap.size w w') from hS.mono (fun e w' h => ⟨.slice none 0 0, h.1.trans (by rw [hkd, hi, hrr, hcc, htt, hE]; rfl), by rw [htt]; exact RB.nil _, h.2⟩)
      clear hkd hi hrr hcc htt hE
      have hE2 : (E != 0) = true := bne_iff_ne.2 hbad
      clear hEE hmsg hraw hL
      have HZ : Hid (((w.alloc (.cells ZW 87)).alloc (.cells ZW 87)).heap[w.heap.size]? = some (.cells ZW 87 (0, 0))) := Lib.hid (blk_old (blk_new w _) _)
      have HM : Hid (((w.alloc (.cells ZW 87)).alloc (.cells ZW 87)).heap[w.heap.size + 1]? = some (.cells ZW 87 (0, 0))) := Lib.hid (blk_new1 w _ _)
      have HB : Hid (Below w.heap.size w ((w.alloc (.cells ZW 87)).alloc (.cells ZW 87))) := Lib.hid (below_alloc (below_alloc (Below.refl _ _) _) _)
      have AL2 : ∀ {ops : Array Oper} {rest : List Oper} {op : Oper} {a : Act} {Q : Exit → Act → World → Prop}, op.guard = none → op.op = .alloc 87 → wpList Try.prog ops Q rest (a.put op.dst (.pointer (some ⟨w.heap.size + 1, 0, none⟩))) ((w.alloc (.cells ZW 87)).alloc (.cells ZW 87)) → wpList Try.prog ops Q (op :: rest) a (w.alloc (.cells ZW 87)) := fun hg ho h => step_alloc hg 87 ho ZW zeroW (by rw [size_push]; exact h)
      have HR1 := Lib.hid (hr.below HB.out)
      have HC0 := Lib.hid hc0
      generalize (b.getD 0 0).toNat = x0 at hc0 HC0 hd0 hx0 hy0
      clear h3 hc0
      go_enter Try.func53, Try.ntmps53
      go_wp2_with (first | ((with_reducible refine AL2 rfl rfl ?_)) | ((with_reducible refine step_alloc rfl 87 rfl ZW zeroW ?_)))
      refine (Mc.refParse_any (some ad) c b _ hc HR1.out hl).mono ?_
      rintro e w2 ⟨rfl, hb2⟩
      rw [HMSG.out, HBAD.out]
      have HM2 := Lib.hid (blk_below HM.out hb2)
      have HZ2 := Lib.hid (blk_below HZ.out hb2)
      have HB2 := Lib.hid (below_comp HB.out hb2)
      have HS2 : Hid (w.heap.size + 2 ≤ w2.heap.size) := Lib.hid (by have := hb2.size; rw [size_push, size_push] at this; exact this)
      clear hb2 HM HZ HB AL2 hd0
      have FA := Lib.hid (blk_new w2 (.cells Mc.ZM 26))
      have STS : ∀ {ops : Array Oper} {rest : List Oper} {op : Oper} {a : Act} {Q : Exit → Act → World → Prop}, op.guard = none → op.op = .store 26 (.tmp 10) (.tmp 46) → a.eval (.tmp 10) = .pointer (some ⟨w2.heap.size, 0, none⟩) → a.eval (.tmp 46) = .agg (MV [n] L) → wpList Try.prog ops Q rest (a.put op.dst undef) ((w2.alloc (.cells Mc.ZM 26)).setCells w2.heap.size 0 (MV [n] L).toList) → wpList Try.prog ops Q (op :: rest) a (w2.alloc (.cells Mc.ZM 26)) := fun hg ho hx hy h => step_store hg 26 (.tmp 10) (.tmp 46) ho hx hy FA.out (by rw [MV1s, HL.out, Mc.ZM_size]) Mc.info_ZM (MV_one _ _) h
      have hs3 : Below w2.heap.size w2 ((w2.alloc (.cells Mc.ZM 26)).setCells w2.heap.size 0 (MV [n] L).toList) := setCells_below _ (Nat.le_refl _) _ _ _ (below_alloc (Below.refl _ _) _)
      have FB : Hid (((w2.alloc (.cells Mc.ZM 26)).setCells w2.heap.size 0 (MV [n] L).toList).heap[w2.heap.size]? = some (.cells (MV [n] L) 26 (0, 0))) := Lib.hid (setCells_block FA.out (by rw [MV1s, HL.out, Mc.ZM_size]))
      have LDS : ∀ {ops : Array Oper} {rest : List Oper} {op : Oper} {a : Act} {Q : Exit → Act → World → Prop}, op.guard = none → op.op = .load 26 (.tmp 10) → a.eval (.tmp 10) = .pointer (some ⟨w2.heap.size, 0, none⟩) → wpList Try.prog ops Q rest (a.put op.dst (.agg (MV [n] L))) ((w2.alloc (.cells Mc.ZM 26)).setCells w2.heap.size 0 (MV [n] L).toList) → wpList Try.prog ops Q (op :: rest) a ((w2.alloc (.cells Mc.ZM 26)).setCells w2.heap.size 0 (MV [n] L).toList) := fun hg ho hx h => step_load hg 26 (.tmp 10) ho hx FB.out _ Try.underlying26 rfl (by rw [show (MV [n] L).size = Mc.ZM.size from (by rw [MV1s, HL.out, Mc.ZM_size])]; exact Mc.info_ZM) h
      have HM3 := Lib.hid (blk_below HM2.out hs3)
      have HZ3 := Lib.hid (blk_below HZ2.out hs3)
      have HB3 := Lib.hid (below_comp HB2.out hs3)
      clear hs3
      have STM : ∀ {ops : Array Oper} {rest : List Oper} {op : Oper} {a : Act} {Q : Exit → Act → World → Prop}, op.guard = none → op.op = .store 26 (.tmp 49) (.tmp 48) → a.eval (.tmp 49) = .pointer (some ⟨w.heap.size + 1, 224, none⟩) → a.eval (.tmp 48) = .agg ((MV [n] L)) → wpList Try.prog ops Q rest (a.put op.dst undef) (((w2.alloc (.cells Mc.ZM 26)).setCells w2.heap.size 0 (MV [n] L).toList).setCells (w.heap.size + 1) 224 ((MV [n] L)).toList) → wpList Try.prog ops Q (op :: rest) a ((w2.alloc (.cells Mc.ZM 26)).setCells w2.heap.size 0 (MV [n] L).toList) := fun hg ho hx hy h => step_store_at hg 26 (.tmp 49) (.tmp 48) ho hx hy (by rw [Array.size_append, Array.size_append, Mi.ZM_size, Ma.ZM_size]; rfl) (show ((w2.alloc (.cells Mc.ZM 26)).setCells w2.heap.size 0 (MV [n] L).toList).heap[w.heap.size + 1]? = some (.cells ((#[.int .i64 (0)] ++ Mi.ZM ++ Ma.ZM) ++ Mc.ZM ++ ZT) 87 (0, 0)) from by rw [← WV_c]; exact HM3.out) (by rw [MV1s, HL.out, Mc.ZM_size]) (by rw [Mc.ZM_size]; exact Mc.infoM) (MV_one _ _) h
      have hz4 : (((w2.alloc (.cells Mc.ZM 26)).setCells w2.heap.size 0 (MV [n] L).toList).setCells (w.heap.size + 1) 224 ((MV [n] L) : Array Value).toList).heap[w.heap.size]? = some (.cells ZW 87 (0, 0)) := ((setCells_below (B := w.heap.size + 1) _ (Nat.le_refl _) _ _ ((w2.alloc (.cells Mc.ZM 26)).setCells w2.heap.size 0 (MV [n] L).toList) (Below.refl _ _)).block _ (Nat.lt_succ_self _)).trans HZ3.out
      have HZ4 := Lib.hid hz4
      have HB4 := Lib.hid (setCells_below (w.heap.size + 1) (Nat.le_succ _) ((MV [n] L) : Array Value).toList 224 _ HB3.out)
      have ST2 : ∀ {ops : Array Oper} {rest : List Oper} {op : Oper} {a : Act} {Q : Exit → Act → World → Prop}, op.guard = none → op.op = .store 87 (.tmp 2) (.tmp 63) → a.eval (.tmp 2) = .pointer (some ⟨w.heap.size, 0, none⟩) → a.eval (.tmp 63) = .agg (ZW) → wpList Try.prog ops Q rest (a.put op.dst undef) ((((w2.alloc (.cells Mc.ZM 26)).setCells w2.heap.size 0 (MV [n] L).toList).setCells (w.heap.size + 1) 224 ((MV [n] L) : Array Value).toList).setCells (w.heap.size) 0 (ZW).toList) → wpList Try.prog ops Q (op :: rest) a (((w2.alloc (.cells Mc.ZM 26)).setCells w2.heap.size 0 (MV [n] L).toList).setCells (w.heap.size + 1) 224 ((MV [n] L) : Array Value).toList) := fun hg ho hx hy h => step_store hg 87 (.tmp 2) (.tmp 63) ho hx hy HZ4.out (rfl) (by rw [ZW_size]; exact infoW) (ZW_one) h
      clear hz4
      go_wp2_with (first | ((with_reducible refine step_alloc rfl 26 rfl Mc.ZM Mc.zeroM ?_)) | ((with_reducible refine STS rfl rfl rfl rfl ?_)) | ((with_reducible refine LDS rfl rfl rfl ?_)) | ((with_reducible refine STM rfl rfl rfl rfl ?_)) | ((with_reducible refine step_build rfl 87 rfl ZW buildW0 ?_)) | ((with_reducible refine ST2 rfl rfl rfl rfl ?_)))
      have hload := load_block (setCells_block HZ4.out (rfl)) 87 _ Try.underlying87 rfl (by rw [ZW_size]; exact infoW)
      refine bodyPost_ret (results_c1 rfl _ _ _ _ _ rfl hload) rfl ⟨rfl, setCells_below _ (Nat.le_refl _) _ _ _ HB4.out⟩
  by_cases h4 : b.getD 0 0 = 4
  · obtain ⟨hE, hi, hrr, hcc, htt⟩ := kindW4 b h4
    have hx0 : ((b.getD 0 0).toNat : Int) = 4 := by rw [h4]; rfl
    obtain ⟨ad, rfl, hc0⟩ := reads_cell hr 0 (by omega)
    rw [show ad.add 0 = ad by simp [Addr.add]] at hc0
    have hd0 := fun o1 o2 => pw_cell_below (below_alloc (below_alloc (Below.refl w.heap.size w) o1) o2) hc0
    have hy0 := byte_lt (b.getD 0 0)
    by_cases hbad : badD b = 0
    · obtain ⟨M4, hM4⟩ : ∃ M4, msgD b = M4 := ⟨_, rfl⟩
      obtain ⟨r, cc, body⟩ := M4
      have HMSG := Lib.hid hM4
      have hkd : kdW b = 4 := by unfold kdW; rw [hE, if_pos hbad, hx0]
      suffices hS : Calls Try.prog 53 #[.slice (some ad) b.length c] w (fun e w' => ∃ A4 k4, e = .returned (.tuple #[.agg (WV 4 Mi.ZM Ma.ZM Mc.ZM #[.int .u32 (r : Int), .int .u64 (cc : Int), .slice A4 body.length k4]), .int .i64 0]) ∧ RB w' (.slice A4 body.length k4) body ∧ Below w.heap.size w w') from hS.mono (fun e w' h => by
        obtain ⟨A4, k4, h1, h2, h3⟩ := h
        exact ⟨.slice A4 body.length k4, h1.trans (by rw [hkd, hi, hrr, hcc, htt, hE, hbad, hM4]), by rw [htt, hM4]; exact h2, h3⟩)
      have HBAD := Lib.hid hbad
      clear hkd hi hrr hcc htt hE hbad hM4
      have HZ : Hid (((w.alloc (.cells ZW 87)).alloc (.cells ZW 87)).heap[w.heap.size]? = some (.cells ZW 87 (0, 0))) := Lib.hid (blk_old (blk_new w _) _)
      have HM : Hid (((w.alloc (.cells ZW 87)).alloc (.cells ZW 87)).heap[w.heap.size + 1]? = some (.cells ZW 87 (0, 0))) := Lib.hid (blk_new1 w _ _)
      have HB : Hid (Below w.heap.size w ((w.alloc (.cells ZW 87)).alloc (.cells ZW 87))) := Lib.hid (below_alloc (below_alloc (Below.refl _ _) _) _)
      have AL2 : ∀ {ops : Array Oper} {rest : List Oper} {op : Oper} {a : Act} {Q : Exit → Act → World → Prop}, op.guard = none → op.op = .alloc 87 → wpList Try.prog ops Q rest (a.put op.dst (.pointer (some ⟨w.heap.size + 1, 0, none⟩))) ((w.alloc (.cells ZW 87)).alloc (.cells ZW 87)) → wpList Try.prog ops Q (op :: rest) a (w.alloc (.cells ZW 87)) := fun hg ho h => step_alloc hg 87 ho ZW zeroW (by rw [size_push]; exact h)
      have HR1 := Lib.hid (hr.below HB.out)
      have HC0 := Lib.hid hc0
      generalize (b.getD 0 0).toNat = x0 at hc0 HC0 hd0 hx0 hy0
      clear h4 hc0
      go_enter Try.func53, Try.ntmps53
      go_wp2_with (first | ((with_reducible refine AL2 rfl rfl ?_)) | ((with_reducible refine step_alloc rfl 87 rfl ZW zeroW ?_)))
      refine (Da.refParse_any (some ad) c b _ hc HR1.out).mono ?_
      rintro e w2 ⟨v, rfl, hv, hb2, hv2⟩
      rw [HMSG.out, HBAD.out]
      rw [HMSG.out] at hv
      obtain ⟨A4, k4, rfl, hk4, hr4⟩ := hv
      have HV2 : Hid (RB w2 (.slice A4 body.length k4) body) := Lib.hid ⟨A4, k4, rfl, hk4, hr4⟩
      have HAW : Hid (∀ g, g < w.heap.size + 2 → (Value.slice A4 body.length k4).ownBlock ≠ some g) := Lib.hid (fun g hg => hv2 g (by rw [size_push, size_push]; omega))
      have HM2 := Lib.hid (blk_below HM.out hb2)
      have HZ2 := Lib.hid (blk_below HZ.out hb2)
      have HB2 := Lib.hid (below_comp HB.out hb2)
      have HS2 : Hid (w.heap.size + 2 ≤ w2.heap.size) := Lib.hid (by have := hb2.size; rw [size_push, size_push] at this; exact this)
      clear hb2 HM HZ HB AL2 hd0 hr4 hv2
      have hs3 : Below w2.heap.size w2 (w2.alloc (.cells #[.int .u32 (r : Int), .int .u64 (cc : Int), .slice A4 body.length k4] 59)) := below_alloc (Below.refl _ _) _
      have HV3 := Lib.hid (HV2.out.below hs3)
      have HM3 := Lib.hid (blk_below HM2.out hs3)
      have HZ3 := Lib.hid (blk_below HZ2.out hs3)
      have HB3 := Lib.hid (below_comp HB2.out hs3)
      clear hs3
      have STM : ∀ {ops : Array Oper} {rest : List Oper} {op : Oper} {a : Act} {Q : Exit → Act → World → Prop}, op.guard = none → op.op = .store 59 (.tmp 59) (.tmp 58) → a.eval (.tmp 59) = .pointer (some ⟨w.heap.size + 1, 281, none⟩) → a.eval (.tmp 58) = .agg (#[.int .u32 (r : Int), .int .u64 (cc : Int), .slice A4 body.length k4]) → wpList Try.prog ops Q rest (a.put op.dst undef) ((w2.alloc (.cells #[.int .u32 (r : Int), .int .u64 (cc : Int), .slice A4 body.length k4] 59)).setCells (w.heap.size + 1) 281 (#[.int .u32 (r : Int), .int .u64 (cc : Int), .slice A4 body.length k4]).toList) → wpList Try.prog ops Q (op :: rest) a (w2.alloc (.cells #[.int .u32 (r : Int), .int .u64 (cc : Int), .slice A4 body.length k4] 59)) := fun hg ho hx hy h => step_store_at hg 59 (.tmp 59) (.tmp 58) ho hx hy (by rw [Array.size_append, Array.size_append, Array.size_append, Mi.ZM_size, Ma.ZM_size, Mc.ZM_size]; rfl) (show (w2.alloc (.cells #[.int .u32 (r : Int), .int .u64 (cc : Int), .slice A4 body.length k4] 59)).heap[w.heap.size + 1]? = some (.cells ((#[.int .i64 (0)] ++ Mi.ZM ++ Ma.ZM ++ Mc.ZM) ++ ZT ++ #[]) 87 (0, 0)) from by rw [← WV_t]; exact HM3.out) (rfl) (infoT) (T3_one _ _ _ _ _) h
      have hz4 : ((w2.alloc (.cells #[.int .u32 (r : Int), .int .u64 (cc : Int), .slice A4 body.length k4] 59)).setCells (w.heap.size + 1) 281 (#[.int .u32 (r : Int), .int .u64 (cc : Int), .slice A4 body.length k4] : Array Value).toList).heap[w.heap.size]? = some (.cells ZW 87 (0, 0)) := ((setCells_below (B := w.heap.size + 1) _ (Nat.le_refl _) _ _ (w2.alloc (.cells #[.int .u32 (r : Int), .int .u64 (cc : Int), .slice A4 body.length k4] 59)) (Below.refl _ _)).block _ (Nat.lt_succ_self _)).trans HZ3.out
      have HZ4 := Lib.hid hz4
      have HB4 := Lib.hid (setCells_below (w.heap.size + 1) (Nat.le_succ _) (#[.int .u32 (r : Int), .int .u64 (cc : Int), .slice A4 body.length k4] : Array Value).toList 281 _ HB3.out)
      have hm4 : ((w2.alloc (.cells #[.int .u32 (r : Int), .int .u64 (cc : Int), .slice A4 body.length k4] 59)).setCells (w.heap.size + 1) 281 (#[.int .u32 (r : Int), .int .u64 (cc : Int), .slice A4 body.length k4] : Array Value).toList).heap[w.heap.size + 1]? = some (.cells (WV 0 Mi.ZM Ma.ZM Mc.ZM #[.int .u32 (r : Int), .int .u64 (cc : Int), .slice A4 body.length k4]) 87 (0, 0)) := by
        have h := setCells_mid (M' := #[.int .u32 (r : Int), .int .u64 (cc : Int), .slice A4 body.length k4]) (show (w2.alloc (.cells #[.int .u32 (r : Int), .int .u64 (cc : Int), .slice A4 body.length k4] 59)).heap[w.heap.size + 1]? = some (.cells ((#[.int .i64 (0)] ++ Mi.ZM ++ Ma.ZM ++ Mc.ZM) ++ ZT ++ #[]) 87 (0, 0)) from by rw [← WV_t]; exact HM3.out) (rfl)
        rw [show ((#[.int .i64 (0)] ++ Mi.ZM ++ Ma.ZM ++ Mc.ZM) : Array Value).size = 281 from (by rw [Array.size_append, Array.size_append, Array.size_append, Mi.ZM_size, Ma.ZM_size, Mc.ZM_size]; rfl)] at h
        rw [WV_t]; exact h
      have c0 := (blk_cell hm4 0).trans (WV_0 _ _ _ _ _)
      have c1 := blk_frozen hm4 0
      have cd := pw_cell_below HB4.out HC0.out
      have HM5 : Hid ((((w2.alloc (.cells #[.int .u32 (r : Int), .int .u64 (cc : Int), .slice A4 body.length k4] 59)).setCells (w.heap.size + 1) 281 (#[.int .u32 (r : Int), .int .u64 (cc : Int), .slice A4 body.length k4] : Array Value).toList).setCell ⟨w.heap.size + 1, 0, none⟩ (.int .i64 4)).heap[w.heap.size + 1]? = some (.cells (WV 4 Mi.ZM Ma.ZM Mc.ZM #[.int .u32 (r : Int), .int .u64 (cc : Int), .slice A4 body.length k4]) 87 (0, 0))) := Lib.hid (by rw [blk_set hm4 0 _, WV_set])
      have HZ5 : Hid ((((w2.alloc (.cells #[.int .u32 (r : Int), .int .u64 (cc : Int), .slice A4 body.length k4] 59)).setCells (w.heap.size + 1) 281 (#[.int .u32 (r : Int), .int .u64 (cc : Int), .slice A4 body.length k4] : Array Value).toList).setCell ⟨w.heap.size + 1, 0, none⟩ (.int .i64 4)).heap[w.heap.size]? = some (.cells ZW 87 (0, 0))) := Lib.hid (blk_far hz4 (by simp) _)
      have HB5 := Lib.hid (HB4.out.setCell (p := ⟨w.heap.size + 1, 0, none⟩) (Nat.le_succ _) (.int .i64 4))
      have HV4 := Lib.hid (RB.grown HV3.out (setCells_grown (w.heap.size + 1) (#[.int .u32 (r : Int), .int .u64 (cc : Int), .slice A4 body.length k4] : Array Value).toList 281 (w2.alloc (.cells #[.int .u32 (r : Int), .int .u64 (cc : Int), .slice A4 body.length k4] 59))) (.inr (HAW.out _ (by omega))))
      have HV5 := Lib.hid (RB.grown HV4.out (grown_set ((w2.alloc (.cells #[.int .u32 (r : Int), .int .u64 (cc : Int), .slice A4 body.length k4] 59)).setCells (w.heap.size + 1) 281 (#[.int .u32 (r : Int), .int .u64 (cc : Int), .slice A4 body.length k4] : Array Value).toList) (w.heap.size + 1) 0 (.int .i64 4)) (.inr (HAW.out _ (by omega))))
      have HSW : Hid ((WV 4 Mi.ZM Ma.ZM Mc.ZM #[.int .u32 (r : Int), .int .u64 (cc : Int), .slice A4 body.length k4]).size = ZW.size) := Lib.hid (by rw [ZW_size]; exact WV_size _ _ _ _ _ (Mi.ZM_size) (Ma.ZM_size) (Mc.ZM_size) rfl)
      have LDW : ∀ {ops : Array Oper} {rest : List Oper} {op : Oper} {a : Act} {Q : Exit → Act → World → Prop}, op.guard = none → op.op = .load 87 (.tmp 4) → a.eval (.tmp 4) = .pointer (some ⟨w.heap.size + 1, 0, none⟩) → wpList Try.prog ops Q rest (a.put op.dst (.agg (WV 4 Mi.ZM Ma.ZM Mc.ZM #[.int .u32 (r : Int), .int .u64 (cc : Int), .slice A4 body.length k4]))) (((w2.alloc (.cells #[.int .u32 (r : Int), .int .u64 (cc : Int), .slice A4 body.length k4] 59)).setCells (w.heap.size + 1) 281 (#[.int .u32 (r : Int), .int .u64 (cc : Int), .slice A4 body.length k4] : Array Value).toList).setCell ⟨w.heap.size + 1, 0, none⟩ (.int .i64 4)) → wpList Try.prog ops Q (op :: rest) a (((w2.alloc (.cells #[.int .u32 (r : Int), .int .u64 (cc : Int), .slice A4 body.length k4] 59)).setCells (w.heap.size + 1) 281 (#[.int .u32 (r : Int), .int .u64 (cc : Int), .slice A4 body.length k4] : Array Value).toList).setCell ⟨w.heap.size + 1, 0, none⟩ (.int .i64 4)) := fun hg ho hx h => step_load hg 87 (.tmp 4) ho hx HM5.out _ Try.underlying87 rfl (by rw [HSW.out, ZW_size]; exact infoW) h
      have ST2 : ∀ {ops : Array Oper} {rest : List Oper} {op : Oper} {a : Act} {Q : Exit → Act → World → Prop}, op.guard = none → op.op = .store 87 (.tmp 2) (.tmp 70) → a.eval (.tmp 2) = .pointer (some ⟨w.heap.size, 0, none⟩) → a.eval (.tmp 70) = .agg (WV 4 Mi.ZM Ma.ZM Mc.ZM #[.int .u32 (r : Int), .int .u64 (cc : Int), .slice A4 body.length k4]) → wpList Try.prog ops Q rest (a.put op.dst undef) ((((w2.alloc (.cells #[.int .u32 (r : Int), .int .u64 (cc : Int), .slice A4 body.length k4] 59)).setCells (w.heap.size + 1) 281 (#[.int .u32 (r : Int), .int .u64 (cc : Int), .slice A4 body.length k4] : Array Value).toList).setCell ⟨w.heap.size + 1, 0, none⟩ (.int .i64 4)).setCells (w.heap.size) 0 (WV 4 Mi.ZM Ma.ZM Mc.ZM #[.int .u32 (r : Int), .int .u64 (cc : Int), .slice A4 body.length k4]).toList) → wpList Try.prog ops Q (op :: rest) a (((w2.alloc (.cells #[.int .u32 (r : Int), .int .u64 (cc : Int), .slice A4 body.length k4] 59)).setCells (w.heap.size + 1) 281 (#[.int .u32 (r : Int), .int .u64 (cc : Int), .slice A4 body.length k4] : Array Value).toList).setCell ⟨w.heap.size + 1, 0, none⟩ (.int .i64 4)) := fun hg ho hx hy h => step_store hg 87 (.tmp 2) (.tmp 70) ho hx hy HZ5.out (HSW.out) (by rw [ZW_size]; exact infoW) (WV_one _ _ _ _ _ Mi.ZM_one Ma.ZM_one Mc.ZM_one (T3_one _ _ _ _ _)) h
      clear hm4 hz4
      go_wp2_with (first | ((with_reducible refine STM rfl rfl rfl rfl ?_)) | ((with_reducible refine LDW rfl rfl rfl ?_)) | ((with_reducible refine ST2 rfl rfl rfl rfl ?_)))
      have hload := load_block (setCells_block HZ5.out (HSW.out)) 87 _ Try.underlying87 rfl (by rw [HSW.out, ZW_size]; exact infoW)
      refine bodyPost_ret (results_c1 rfl _ _ _ _ _ rfl hload) rfl ⟨A4, k4, rfl, RB.grown HV5.out (setCells_grown w.heap.size _ 0 _) (.inr (HAW.out _ (by omega))), setCells_below _ (Nat.le_refl _) _ _ _ HB5.out⟩
    · obtain ⟨M4, hM4⟩ : ∃ M4, msgD b = M4 := ⟨_, rfl⟩
      obtain ⟨r, cc, body⟩ := M4
      have HMSG := Lib.hid hM4
      have hkd : kdW b = 0 := by unfold kdW; rw [hE, if_neg hbad]
      rw [msgD_bad b hbad] at htt
      obtain ⟨E, hEE⟩ : ∃ E, badD b = E := ⟨_, rfl⟩
      rw [hEE] at hE hbad
      have HBAD := Lib.hid hEE
      suffices hS : Calls Try.prog 53 #[.slice (some ad) b.length c] w (fun e w' => e = .returned (.tuple #[.agg ZW, .int .i64 (E)]) ∧ Below w.heap.size w w') from hS.mono (fun e w' h => ⟨.slice none 0 0, h.1.trans (by rw [hkd, hi, hrr, hcc, htt, hE]; rfl), by rw [htt]; exact RB.nil _, h.2⟩)
      clear hkd hi hrr hcc htt hE
      have hE2 : (E != 0) = true := bne_iff_ne.2 hbad
      clear hEE hM4
      have HZ : Hid (((w.alloc (.cells ZW 87)).alloc (.cells ZW 87)).heap[w.heap.size]? = some (.cells ZW 87 (0, 0))) := Lib.hid (blk_old (blk_new w _) _)
      have HM : Hid (((w.alloc (.cells ZW 87)).alloc (.cells ZW 87)).heap[w.heap.size + 1]? = some (.cells ZW 87 (0, 0))) := Lib.hid (blk_new1 w _ _)
      have HB : Hid (Below w.heap.size w ((w.alloc (.cells ZW 87)).alloc (.cells ZW 87))) := Lib.hid (below_alloc (below_alloc (Below.refl _ _) _) _)
      have AL2 : ∀ {ops : Array Oper} {rest : List Oper} {op : Oper} {a : Act} {Q : Exit → Act → World → Prop}, op.guard = none → op.op = .alloc 87 → wpList Try.prog ops Q rest (a.put op.dst (.pointer (some ⟨w.heap.size + 1, 0, none⟩))) ((w.alloc (.cells ZW 87)).alloc (.cells ZW 87)) → wpList Try.prog ops Q (op :: rest) a (w.alloc (.cells ZW 87)) := fun hg ho h => step_alloc hg 87 ho ZW zeroW (by rw [size_push]; exact h)
      have HR1 := Lib.hid (hr.below HB.out)
      have HC0 := Lib.hid hc0
      generalize (b.getD 0 0).toNat = x0 at hc0 HC0 hd0 hx0 hy0
      clear h4 hc0
      go_enter Try.func53, Try.ntmps53
      go_wp2_with (first | ((with_reducible refine AL2 rfl rfl ?_)) | ((with_reducible refine step_alloc rfl 87 rfl ZW zeroW ?_)))
      refine (Da.refParse_any (some ad) c b _ hc HR1.out).mono ?_
      rintro e w2 ⟨v, rfl, hv, hb2, hv2⟩
      rw [HMSG.out, HBAD.out]
      rw [HMSG.out] at hv
      obtain ⟨A4, k4, rfl, hk4, hr4⟩ := hv
      have HV2 : Hid (RB w2 (.slice A4 body.length k4) body) := Lib.hid ⟨A4, k4, rfl, hk4, hr4⟩
      have HAW : Hid (∀ g, g < w.heap.size + 2 → (Value.slice A4 body.length k4).ownBlock ≠ some g) := Lib.hid (fun g hg => hv2 g (by rw [size_push, size_push]; omega))
      have HM2 := Lib.hid (blk_below HM.out hb2)
      have HZ2 := Lib.hid (blk_below HZ.out hb2)
      have HB2 := Lib.hid (below_comp HB.out hb2)
      have HS2 : Hid (w.heap.size + 2 ≤ w2.heap.size) := Lib.hid (by have := hb2.size; rw [size_push, size_push] at this; exact this)
      clear hb2 HM HZ HB AL2 hd0 hr4 hv2
      have hs3 : Below w2.heap.size w2 (w2.alloc (.cells #[.int .u32 (r : Int), .int .u64 (cc : Int), .slice A4 body.length k4] 59)) := below_alloc (Below.refl _ _) _
      have HV3 := Lib.hid (HV2.out.below hs3)
      have HM3 := Lib.hid (blk_below HM2.out hs3)
      have HZ3 := Lib.hid (blk_below HZ2.out hs3)
      have HB3 := Lib.hid (below_comp HB2.out hs3)
      clear hs3
      have STM : ∀ {ops : Array Oper} {rest : List Oper} {op : Oper} {a : Act} {Q : Exit → Act → World → Prop}, op.guard = none → op.op = .store 59 (.tmp 59) (.tmp 58) → a.eval (.tmp 59) = .pointer (some ⟨w.heap.size + 1, 281, none⟩) → a.eval (.tmp 58) = .agg (#[.int .u32 (r : Int), .int .u64 (cc : Int), .slice A4 body.length k4]) → wpList Try.prog ops Q rest (a.put op.dst undef) ((w2.alloc (.cells #[.int .u32 (r : Int), .int .u64 (cc : Int), .slice A4 body.length k4] 59)).setCells (w.heap.size + 1) 281 (#[.int .u32 (r : Int), .int .u64 (cc : Int), .slice A4 body.length k4]).toList) → wpList Try.prog ops Q (op :: rest) a (w2.alloc (.cells #[.int .u32 (r : Int), .int .u64 (cc : Int), .slice A4 body.length k4] 59)) := fun hg ho hx hy h => step_store_at hg 59 (.tmp 59) (.tmp 58) ho hx hy (by rw [Array.size_append, Array.size_append, Array.size_append, Mi.ZM_size, Ma.ZM_size, Mc.ZM_size]; rfl) (show (w2.alloc (.cells #[.int .u32 (r : Int), .int .u64 (cc : Int), .slice A4 body.length k4] 59)).heap[w.heap.size + 1]? = some (.cells ((#[.int .i64 (0)] ++ Mi.ZM ++ Ma.ZM ++ Mc.ZM) ++ ZT ++ #[]) 87 (0, 0)) from by rw [← WV_t]; exact HM3.out) (rfl) (infoT) (T3_one _ _ _ _ _) h
      have hz4 : ((w2.alloc (.cells #[.int .u32 (r : Int), .int .u64 (cc : Int), .slice A4 body.length k4] 59)).setCells (w.heap.size + 1) 281 (#[.int .u32 (r : Int), .int .u64 (cc : Int), .slice A4 body.length k4] : Array Value).toList).heap[w.heap.size]? = some (.cells ZW 87 (0, 0)) := ((setCells_below (B := w.heap.size + 1) _ (Nat.le_refl _) _ _ (w2.alloc (.cells #[.int .u32 (r : Int), .int .u64 (cc : Int), .slice A4 body.length k4] 59)) (Below.refl _ _)).block _ (Nat.lt_succ_self _)).trans HZ3.out
      have HZ4 := Lib.hid hz4
      have HB4 := Lib.hid (setCells_below (w.heap.size + 1) (Nat.le_succ _) (#[.int .u32 (r : Int), .int .u64 (cc : Int), .slice A4 body.length k4] : Array Value).toList 281 _ HB3.out)
      have ST2 : ∀ {ops : Array Oper} {rest : List Oper} {op : Oper} {a : Act} {Q : Exit → Act → World → Prop}, op.guard = none → op.op = .store 87 (.tmp 2) (.tmp 63) → a.eval (.tmp 2) = .pointer (some ⟨w.heap.size, 0, none⟩) → a.eval (.tmp 63) = .agg (ZW) → wpList Try.prog ops Q rest (a.put op.dst undef) (((w2.alloc (.cells #[.int .u32 (r : Int), .int .u64 (cc : Int), .slice A4 body.length k4] 59)).setCells (w.heap.size + 1) 281 (#[.int .u32 (r : Int), .int .u64 (cc : Int), .slice A4 body.length k4] : Array Value).toList).setCells (w.heap.size) 0 (ZW).toList) → wpList Try.prog ops Q (op :: rest) a ((w2.alloc (.cells #[.int .u32 (r : Int), .int .u64 (cc : Int), .slice A4 body.length k4] 59)).setCells (w.heap.size + 1) 281 (#[.int .u32 (r : Int), .int .u64 (cc : Int), .slice A4 body.length k4] : Array Value).toList) := fun hg ho hx hy h => step_store hg 87 (.tmp 2) (.tmp 63) ho hx hy HZ4.out (rfl) (by rw [ZW_size]; exact infoW) (ZW_one) h
      clear hz4
      go_wp2_with (first | ((with_reducible refine STM rfl rfl rfl rfl ?_)) | ((with_reducible refine step_build rfl 87 rfl ZW buildW0 ?_)) | ((with_reducible refine ST2 rfl rfl rfl rfl ?_)))
      have hload := load_block (setCells_block HZ4.out (rfl)) 87 _ Try.underlying87 rfl (by rw [ZW_size]; exact infoW)
      refine bodyPost_ret (results_c1 rfl _ _ _ _ _ rfl hload) rfl ⟨rfl, setCells_below _ (Nat.le_refl _) _ _ _ HB4.out⟩
  obtain ⟨hE, hi, hrr, hcc, htt⟩ := kindW0 b h1 h2 h3 h4
  rw [if_neg hb] at hE
  have hkd : kdW b = 0 := by unfold kdW; rw [hE]; rfl
  suffices hS : Calls Try.prog 53 #[.slice A b.length c] w (fun e w' => e = .returned (.tuple #[.agg ZW, .int .i64 (9)]) ∧ Below w.heap.size w w') from hS.mono (fun e w' h => ⟨.slice none 0 0, h.1.trans (by rw [hkd, hi, hrr, hcc, htt, hE]; rfl), by rw [htt]; exact RB.nil _, h.2⟩)
  clear hkd hi hrr hcc htt hE
  obtain ⟨ad, rfl, hc0⟩ := reads_cell hr 0 (by omega)
  rw [show ad.add 0 = ad by simp [Addr.add]] at hc0
  have hd0 := fun o1 o2 => pw_cell_below (below_alloc (below_alloc (Below.refl w.heap.size w) o1) o2) hc0
  have hy0 := byte_lt (b.getD 0 0)
  have ne : ∀ k : Nat, k < 256 → b.getD 0 0 ≠ UInt8.ofNat k → ¬ ((b.getD 0 0).toNat : Int) = k := fun k hk h e => h (UInt8.toNat_inj.1 (by rw [toNat_ofNat k hk]; omega))
  have n1 : (((b.getD 0 0).toNat : Int) == 1) = false := beq_false_of_ne (ne 1 (by decide) h1)
  have n2 : (((b.getD 0 0).toNat : Int) == 2) = false := beq_false_of_ne (ne 2 (by decide) h2)
  have n3 : (((b.getD 0 0).toNat : Int) == 3) = false := beq_false_of_ne (ne 3 (by decide) h3)
  have n4 : (((b.getD 0 0).toNat : Int) == 4) = false := beq_false_of_ne (ne 4 (by decide) h4)
  clear ne h1 h2 h3 h4
  have HZ : Hid (((w.alloc (.cells ZW 87)).alloc (.cells ZW 87)).heap[w.heap.size]? = some (.cells ZW 87 (0, 0))) := Lib.hid (blk_old (blk_new w _) _)
  have HM : Hid (((w.alloc (.cells ZW 87)).alloc (.cells ZW 87)).heap[w.heap.size + 1]? = some (.cells ZW 87 (0, 0))) := Lib.hid (blk_new1 w _ _)
  have HB : Hid (Below w.heap.size w ((w.alloc (.cells ZW 87)).alloc (.cells ZW 87))) := Lib.hid (below_alloc (below_alloc (Below.refl _ _) _) _)
  have AL2 : ∀ {ops : Array Oper} {rest : List Oper} {op : Oper} {a : Act} {Q : Exit → Act → World → Prop}, op.guard = none → op.op = .alloc 87 → wpList Try.prog ops Q rest (a.put op.dst (.pointer (some ⟨w.heap.size + 1, 0, none⟩))) ((w.alloc (.cells ZW 87)).alloc (.cells ZW 87)) → wpList Try.prog ops Q (op :: rest) a (w.alloc (.cells ZW 87)) := fun hg ho h => step_alloc hg 87 ho ZW zeroW (by rw [size_push]; exact h)
  generalize (b.getD 0 0).toNat = x0 at hc0 hd0 hy0 n1 n2 n3 n4
  have ST2 : ∀ {ops : Array Oper} {rest : List Oper} {op : Oper} {a : Act} {Q : Exit → Act → World → Prop}, op.guard = none → op.op = .store 87 (.tmp 2) (.tmp 63) → a.eval (.tmp 2) = .pointer (some ⟨w.heap.size, 0, none⟩) → a.eval (.tmp 63) = .agg (ZW) → wpList Try.prog ops Q rest (a.put op.dst undef) (((w.alloc (.cells ZW 87)).alloc (.cells ZW 87)).setCells (w.heap.size) 0 (ZW).toList) → wpList Try.prog ops Q (op :: rest) a ((w.alloc (.cells ZW 87)).alloc (.cells ZW 87)) := fun hg ho hx hy h => step_store hg 87 (.tmp 2) (.tmp 63) ho hx hy HZ.out (rfl) (by rw [ZW_size]; exact infoW) (ZW_one) h
  go_enter Try.func53, Try.ntmps53
  go_wp2_with (first | ((with_reducible refine AL2 rfl rfl ?_)) | ((with_reducible refine step_alloc rfl 87 rfl ZW zeroW ?_)) | ((with_reducible refine step_build rfl 87 rfl ZW buildW0 ?_)) | ((with_reducible refine ST2 rfl rfl rfl rfl ?_)))
  have hload := load_block (setCells_block HZ.out (rfl)) 87 _ Try.underlying87 rfl (by rw [ZW_size]; exact infoW)
  refine bodyPost_ret (results_c1 rfl _ _ _ _ _ rfl hload) rfl ⟨rfl, setCells_below _ (Nat.le_refl _) _ _ _ HB.out⟩
end Go.Proofs.Ytnehbhhjdjiieaa.Wm
