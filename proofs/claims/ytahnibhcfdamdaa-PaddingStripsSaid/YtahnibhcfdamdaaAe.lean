/- Package addr and its reference: the address of bytes, and an address's bytes. -/
import Derived.Test.YtahnibhcfdamdaaAd
import Derived.Test.YtahnibhcfdamdaaCo
import Derived.Laws.CopyRow
set_option linter.unusedSimpArgs false
set_option linter.unusedVariables false
set_option maxRecDepth 100000
namespace Go.Proofs.Ytahnibhcfdamdaa.Ad
open Go.RowKit Go.Proofs.YtahnibhcfdamdaaW.PrintWords Go.Proofs.Ytahnibhcfdamdaa.Bs Go.Proofs.Ytahnibhcfdamdaa.Av Go.Proofs.Ytahnibhcfdamdaa.Le

/-- The zero address. -/
def ZA : Array Value := AV [0] (List.replicate 16 0)
theorem ZA_eq : ZA = AV [0] (List.replicate 16 0) := rfl
theorem zeroA (W : World) : (zeroValue 25).run Try.prog W = .ok (.agg ZA) W := zero_of (by kernel_rfl) W
theorem ZA_size : ZA.size = 17 := by rw [ZA_eq, AV_size]; simp
theorem info_ZA : (Try.prog.info? 25).map (·.size) = some ZA.size := by rw [ZA_size]; exact infoA
theorem list16 {l : List UInt8} (h : l.length = 16) : ∃ a b c d e f g h i j k m n o p q : UInt8, l = [a, b, c, d, e, f, g, h, i, j, k, m, n, o, p, q] := by
  match l, h with
  | [a, b, c, d, e, f, g, h, i, j, k, m, n, o, p, q], _ => exact ⟨a, b, c, d, e, f, g, h, i, j, k, m, n, o, p, q, rfl⟩
theorem buildSix (l : List UInt8) (h : l.length = 16) (W : World) : (Instr.build 25 #[(0, .int .i64 6), (1, .agg (encs B l).toArray)]).run Try.prog W = .ok (.agg (AV [6] l)) W := by
  obtain ⟨a, b, c, d, e, f, g, h, i, j, k, m, n, o, p, q, rfl⟩ := list16 h
  kernel_rfl
theorem buildFour (W : World) : (Instr.build 25 #[(0, .int .i64 4)]).run Try.prog W = .ok (.agg (AV [4] (List.replicate 16 0))) W := by kernel_rfl
theorem step_buildG {ops : Array Oper} {rest : List Oper} {op : Oper} {a : Act} {w : World} {Q : Exit → Act → World → Prop} (hgd : op.guard = none) (t : TypeId) (ps : Array (Nat × Operand)) (ho : op.op = .build t ps) (qs : Array (Nat × Value)) (hq : ps.toList.map (fun p => (p.1, a.eval p.2)) = qs.toList) (cs : Array Value)
    (hz : ∀ W : World, (Instr.build t qs).run Try.prog W = .ok (.agg cs) W)
    (h : wpList Try.prog ops Q rest (a.put op.dst (.agg cs)) w) : wpList Try.prog ops Q (op :: rest) a w := by
  refine wpList_plain hgd fun K hK => ?_
  unfold Oper.wp
  have hq2 : ps.map (fun p => (p.1, a.eval p.2)) = qs := Array.ext' (by rw [Array.toList_map]; exact hq)
  subst hq2
  have := hz w
  simp [execOp, ho, resolve, this, Result.andThen]
  exact hK _ _ h
theorem step_allocN {ops : Array Oper} {rest : List Oper} {op : Oper} {a : Act} {w : World} {Q : Exit → Act → World → Prop} (hgd : op.guard = none) (t : TypeId) (ho : op.op = .alloc t) (cs : Array Value)
    (hz : ∀ W : World, (zeroValue t).run Try.prog W = .ok (.agg cs) W) (n : Nat) (hn : w.heap.size = n)
    (h : wpList Try.prog ops Q rest (a.put op.dst (.pointer (some ⟨n, 0, none⟩))) (w.alloc (.cells cs t))) : wpList Try.prog ops Q (op :: rest) a w := by
  subst hn; exact step_alloc hgd t ho cs hz h

set_option maxHeartbeats 1000000 in
theorem refOf_at16 (v : Value) (l : List UInt8) (w : World) (hr : RB w v l) (hl : l.length = 16) :
    Calls Try.prog 94 #[v] w fun e w' => e = .returned (.tuple #[.agg (AV [6] (l ++ List.replicate 0 0)), .bool true]) ∧ Below w.heap.size w w' := by
  have HR := Lib.hid hr
  obtain ⟨A, c, rfl, hc, hrd⟩ := hr
  obtain ⟨ad, rfl, hcell⟩ := hrd.2.2 (by rw [hl]; decide)
  rw [hl] at HR hc ⊢
  have HL := Lib.hid hl
  have HF : Hid (fillP (l ++ List.replicate 0 0) 16 = l ++ List.replicate 0 0) := Lib.hid (by
    unfold fillP
    rw [List.take_append_of_le_length (by rw [hl]; exact Nat.le_refl _), List.take_of_length_le (by rw [hl]; exact Nat.le_refl _), List.length_append, List.length_replicate, hl])
  have HG : ∀ i, i < 16 → (l ++ List.replicate 0 0).getD i 0 = l.getD i 0 := fun i hi => by
    rw [List.getD_eq_getElem?_getD, List.getD_eq_getElem?_getD, List.getElem?_append_left (by rw [hl]; exact hi)]
  have HLL : Hid ((l ++ List.replicate 0 (0 : UInt8)).length = 16) := Lib.hid (by rw [List.length_append, List.length_replicate, hl])
  have HRC : Hid (∀ wr, Below w.heap.size w wr → ∀ i, i < 16 → wr.cell? (ad.add i) = some (.int .u8 (((l ++ List.replicate 0 0).getD i 0).toNat : Int))) := Lib.hid (fun wr hb i hi => by
    rw [HG i hi]
    obtain ⟨ad2, e2, h2⟩ := reads_cell (hrd.below hb) i (by rw [hl]; exact hi)
    injection e2 with e2
    subst e2
    exact h2)
  clear hrd hcell hl HG
  generalize (l ++ List.replicate 0 (0 : UInt8)) = L at HF HLL HRC ⊢
  have hz0 : ZA[0]? = some (.int .i64 0) := AV_num 0 _ _
  have hz1 : ∀ x : Int, (ZA.setIfInBounds 0 (.int .i64 x))[0]? = some (.int .i64 x) := fun x => by rw [ZA_eq, AV_set0]; exact AV_num _ _ _
  have HM0 : ∀ x : Int, (w.alloc (.cells ZA 25)).heap.size = w.heap.size + 1 := fun _ => size_push _ _
  go_enter Try.func94, Try.ntmps94
  go_wp2_with (first | ((with_reducible refine step_alloc rfl 25 rfl ZA zeroA ?_)))
  have HM : Hid (((w.alloc (.cells ZA 25)).alloc (.cells (ZA.setIfInBounds 0 (.int .i64 6)) 25)).heap[w.heap.size + 1]? = some (.cells (AV [6] (fillP L 0)) 25 (0, 0))) := Lib.hid (by
    have e : (ZA.setIfInBounds 0 (.int .i64 6)) = AV [6] (fillP L 0) := by rw [ZA_eq, AV_set0, part_zero, HLL.out]
    rw [← e]; exact blk_new1 w _ _)
  have HZ : Hid (((w.alloc (.cells ZA 25)).alloc (.cells (ZA.setIfInBounds 0 (.int .i64 6)) 25)).heap[w.heap.size]? = some (.cells ZA 25 (0, 0))) := Lib.hid (blk_old (blk_new w _) _)
  have HB : Hid (Below w.heap.size w ((w.alloc (.cells ZA 25)).alloc (.cells (ZA.setIfInBounds 0 (.int .i64 6)) 25))) := Lib.hid (below_alloc (below_alloc (Below.refl _ _) _) _)
  generalize ((w.alloc (.cells ZA 25)).alloc (.cells (ZA.setIfInBounds 0 (.int .i64 6)) 25)) = wx at HM HZ HB ⊢
  clear hz0 hz1 HM0
  go_loopw [5] (fun v5 wr => ∃ i : Nat, i ≤ 16 ∧ v5 = .int .i64 i ∧ Hid (wr.heap[w.heap.size + 1]? = some (.cells (AV [6] (fillP L i)) 25 (0, 0))) ∧ Hid (wr.heap[w.heap.size]? = some (.cells ZA 25 (0, 0))) ∧ Hid (Below w.heap.size w wr)) (fun v5 _ => 16 - (intOf v5).toNat)
  case atStart => exact ⟨0, Nat.zero_le _, rfl, HM, HZ, HB⟩
  case round =>
    obtain ⟨i, hi, rfl, HM, HZ, HB⟩ := hrel
    by_cases hlt : i < 16
    · have hsrc : wr.cell? (ad.add i) = some (.int .u8 ((L.getD i 0).toNat : Int)) := by
        exact HRC.out wr HB.out i hlt
      have hdst := (blk_cell HM.out (1 + i)).trans (AV_at [6] (fillP L i) (1 + i) i rfl (by rw [part_length _ _ (by rw [HLL.out]; omega), HLL.out]; omega))
      have hfr := blk_frozen HM.out (1 + i)
      have hby := byte_lt (L.getD i 0)
      have HM2 : Hid ((wr.setCell ⟨w.heap.size + 1, 1 + i, none⟩ (.int .u8 ((L.getD i 0).toNat : Int))).heap[w.heap.size + 1]? = some (.cells (AV [6] (fillP L (i + 1))) 25 (0, 0))) := Lib.hid (by
        rw [blk_set HM.out (1 + i) _, show 1 + i = [(6 : Int)].length + i from rfl, AV_setb, part_set L _ (by rw [HLL.out]; omega)])
      have HZ2 : Hid ((wr.setCell ⟨w.heap.size + 1, 1 + i, none⟩ (.int .u8 ((L.getD i 0).toNat : Int))).heap[w.heap.size]? = some (.cells ZA 25 (0, 0))) := Lib.hid (blk_far HZ.out (by simp) _)
      have HB2 := Lib.hid (HB.out.setCell (p := ⟨w.heap.size + 1, 1 + i, none⟩) (Nat.le_succ _) (.int .u8 ((L.getD i 0).toNat : Int)))
      generalize (L.getD i 0).toNat = x at hsrc hby HM2 HZ2 HB2
      go_wp2
      go_roundw
      case rel => exact ⟨i + 1, by omega, by go_num, HM2, HZ2, HB2⟩
      case measure => (simp [intOf]) <;> omega
    · have hi1 : i = 16 := by omega
      rw [hi1, HF.out] at HM
      clear hi1
      have F1 := HZ
      have F2 := HM
      have HS : Hid ((AV [6] L).size = ZA.size) := Lib.hid (by rw [AV_size, ZA_size, HLL.out]; rfl)
      clear HZ HM
      go_wp2_with (first | ((with_reducible refine step_load (b := w.heap.size + 1) (cs := (AV [6] L)) (T := 25) rfl 25 (.tmp 4) rfl rfl F2.out _ Try.underlying25 rfl ?i ?_); (case i => exact by rw [HS.out]; exact info_ZA)) | ((with_reducible refine step_store (b := w.heap.size) (vs := (AV [6] L)) rfl 25 (.tmp 2) (.tmp 33) rfl rfl rfl F1.out ?s ?i (AV_one _ _) ?_); (case s => exact HS.out); (case i => exact info_ZA)))
      have hload := load_block (setCells_block F1.out HS.out) 25 _ Try.underlying25 rfl (by rw [HS.out]; exact info_ZA)
      refine bodyPost_ret (results_c1 rfl _ _ _ _ _ rfl hload) rfl ⟨rfl, setCells_below _ (Nat.le_refl _) _ _ _ HB.out⟩
set_option maxHeartbeats 1000000 in
theorem refOf_at4 (v : Value) (l : List UInt8) (w : World) (hr : RB w v l) (hl : l.length = 4) :
    Calls Try.prog 94 #[v] w fun e w' => e = .returned (.tuple #[.agg (AV [4] (l ++ List.replicate 12 0)), .bool true]) ∧ Below w.heap.size w w' := by
  have HR := Lib.hid hr
  obtain ⟨A, c, rfl, hc, hrd⟩ := hr
  obtain ⟨ad, rfl, hcell⟩ := hrd.2.2 (by rw [hl]; decide)
  rw [hl] at HR hc ⊢
  have HL := Lib.hid hl
  have HF : Hid (fillP (l ++ List.replicate 12 0) 4 = l ++ List.replicate 12 0) := Lib.hid (by
    unfold fillP
    rw [List.take_append_of_le_length (by rw [hl]; exact Nat.le_refl _), List.take_of_length_le (by rw [hl]; exact Nat.le_refl _), List.length_append, List.length_replicate, hl])
  have HG : ∀ i, i < 4 → (l ++ List.replicate 12 0).getD i 0 = l.getD i 0 := fun i hi => by
    rw [List.getD_eq_getElem?_getD, List.getD_eq_getElem?_getD, List.getElem?_append_left (by rw [hl]; exact hi)]
  have HLL : Hid ((l ++ List.replicate 12 (0 : UInt8)).length = 16) := Lib.hid (by rw [List.length_append, List.length_replicate, hl])
  have HRC : Hid (∀ wr, Below w.heap.size w wr → ∀ i, i < 4 → wr.cell? (ad.add i) = some (.int .u8 (((l ++ List.replicate 12 0).getD i 0).toNat : Int))) := Lib.hid (fun wr hb i hi => by
    rw [HG i hi]
    obtain ⟨ad2, e2, h2⟩ := reads_cell (hrd.below hb) i (by rw [hl]; exact hi)
    injection e2 with e2
    subst e2
    exact h2)
  clear hrd hcell hl HG
  generalize (l ++ List.replicate 12 (0 : UInt8)) = L at HF HLL HRC ⊢
  have hz0 : ZA[0]? = some (.int .i64 0) := AV_num 0 _ _
  have hz1 : ∀ x : Int, (ZA.setIfInBounds 0 (.int .i64 x))[0]? = some (.int .i64 x) := fun x => by rw [ZA_eq, AV_set0]; exact AV_num _ _ _
  have HM0 : ∀ x : Int, (w.alloc (.cells ZA 25)).heap.size = w.heap.size + 1 := fun _ => size_push _ _
  go_enter Try.func94, Try.ntmps94
  go_wp2_with (first | ((with_reducible refine step_alloc rfl 25 rfl ZA zeroA ?_)))
  have HM : Hid (((w.alloc (.cells ZA 25)).alloc (.cells (ZA.setIfInBounds 0 (.int .i64 4)) 25)).heap[w.heap.size + 1]? = some (.cells (AV [4] (fillP L 0)) 25 (0, 0))) := Lib.hid (by
    have e : (ZA.setIfInBounds 0 (.int .i64 4)) = AV [4] (fillP L 0) := by rw [ZA_eq, AV_set0, part_zero, HLL.out]
    rw [← e]; exact blk_new1 w _ _)
  have HZ : Hid (((w.alloc (.cells ZA 25)).alloc (.cells (ZA.setIfInBounds 0 (.int .i64 4)) 25)).heap[w.heap.size]? = some (.cells ZA 25 (0, 0))) := Lib.hid (blk_old (blk_new w _) _)
  have HB : Hid (Below w.heap.size w ((w.alloc (.cells ZA 25)).alloc (.cells (ZA.setIfInBounds 0 (.int .i64 4)) 25))) := Lib.hid (below_alloc (below_alloc (Below.refl _ _) _) _)
  generalize ((w.alloc (.cells ZA 25)).alloc (.cells (ZA.setIfInBounds 0 (.int .i64 4)) 25)) = wx at HM HZ HB ⊢
  clear hz0 hz1 HM0
  go_loopw [5] (fun v5 wr => ∃ i : Nat, i ≤ 4 ∧ v5 = .int .i64 i ∧ Hid (wr.heap[w.heap.size + 1]? = some (.cells (AV [4] (fillP L i)) 25 (0, 0))) ∧ Hid (wr.heap[w.heap.size]? = some (.cells ZA 25 (0, 0))) ∧ Hid (Below w.heap.size w wr)) (fun v5 _ => 4 - (intOf v5).toNat)
  case atStart => exact ⟨0, Nat.zero_le _, rfl, HM, HZ, HB⟩
  case round =>
    obtain ⟨i, hi, rfl, HM, HZ, HB⟩ := hrel
    by_cases hlt : i < 4
    · have hsrc : wr.cell? (ad.add i) = some (.int .u8 ((L.getD i 0).toNat : Int)) := by
        exact HRC.out wr HB.out i hlt
      have hdst := (blk_cell HM.out (1 + i)).trans (AV_at [4] (fillP L i) (1 + i) i rfl (by rw [part_length _ _ (by rw [HLL.out]; omega), HLL.out]; omega))
      have hfr := blk_frozen HM.out (1 + i)
      have hby := byte_lt (L.getD i 0)
      have HM2 : Hid ((wr.setCell ⟨w.heap.size + 1, 1 + i, none⟩ (.int .u8 ((L.getD i 0).toNat : Int))).heap[w.heap.size + 1]? = some (.cells (AV [4] (fillP L (i + 1))) 25 (0, 0))) := Lib.hid (by
        rw [blk_set HM.out (1 + i) _, show 1 + i = [(4 : Int)].length + i from rfl, AV_setb, part_set L _ (by rw [HLL.out]; omega)])
      have HZ2 : Hid ((wr.setCell ⟨w.heap.size + 1, 1 + i, none⟩ (.int .u8 ((L.getD i 0).toNat : Int))).heap[w.heap.size]? = some (.cells ZA 25 (0, 0))) := Lib.hid (blk_far HZ.out (by simp) _)
      have HB2 := Lib.hid (HB.out.setCell (p := ⟨w.heap.size + 1, 1 + i, none⟩) (Nat.le_succ _) (.int .u8 ((L.getD i 0).toNat : Int)))
      generalize (L.getD i 0).toNat = x at hsrc hby HM2 HZ2 HB2
      go_wp2
      go_roundw
      case rel => exact ⟨i + 1, by omega, by go_num, HM2, HZ2, HB2⟩
      case measure => (simp [intOf]) <;> omega
    · have hi1 : i = 4 := by omega
      rw [hi1, HF.out] at HM
      clear hi1
      have F1 := HZ
      have F2 := HM
      have HS : Hid ((AV [4] L).size = ZA.size) := Lib.hid (by rw [AV_size, ZA_size, HLL.out]; rfl)
      clear HZ HM
      go_wp2_with (first | ((with_reducible refine step_load (b := w.heap.size + 1) (cs := (AV [4] L)) (T := 25) rfl 25 (.tmp 4) rfl rfl F2.out _ Try.underlying25 rfl ?i ?_); (case i => exact by rw [HS.out]; exact info_ZA)) | ((with_reducible refine step_store (b := w.heap.size) (vs := (AV [4] L)) rfl 25 (.tmp 2) (.tmp 33) rfl rfl rfl F1.out ?s ?i (AV_one _ _) ?_); (case s => exact HS.out); (case i => exact info_ZA)))
      have hload := load_block (setCells_block F1.out HS.out) 25 _ Try.underlying25 rfl (by rw [HS.out]; exact info_ZA)
      refine bodyPost_ret (results_c1 rfl _ _ _ _ _ rfl hload) rfl ⟨rfl, setCells_below _ (Nat.le_refl _) _ _ _ HB.out⟩

theorem info16 : (Try.prog.info? 23).map (·.size) = some 16 := by kernel_rfl
theorem info_encs {l : List UInt8} (h : l.length = 16) : (Try.prog.info? 23).map (·.size) = some (encs B l).toArray.size := by rw [List.size_toArray, encs_length, h]; exact info16
set_option maxHeartbeats 1000000 in
theorem six_any (l : List UInt8) (w : World) (hl : l.length = 16) :
    Calls Try.prog 93 #[.agg (encs B l).toArray] w fun e w' => e = .returned (.agg (AV [6] l)) ∧ Below w.heap.size w w' := by
  have HL := Lib.hid hl
  have HS : Hid ((AV [6] l).size = ZA.size) := Lib.hid (by rw [AV_size, ZA_size, hl]; rfl)
  clear hl
  have HX := Lib.hid (blk_old (blk_new w (.cells (encs B l).toArray 23)) (.cells ZA 25))
  have HZ : Hid (((w.alloc (.cells (encs B l).toArray 23)).alloc (.cells ZA 25)).heap[w.heap.size + 1]? = some (.cells ZA 25 (0, 0))) := Lib.hid (blk_new1 w _ _)
  have HB : Hid (Below w.heap.size w ((w.alloc (.cells (encs B l).toArray 23)).alloc (.cells ZA 25))) := Lib.hid (below_alloc (below_alloc (Below.refl _ _) _) _)
  go_enter Try.func93, Try.ntmps93
  go_wp2_with (first | ((with_reducible refine step_allocN rfl 25 rfl ZA zeroA (w.heap.size + 1) (size_push w _) ?_)) | ((with_reducible refine step_load (b := w.heap.size) (cs := (encs B l).toArray) rfl 23 (.tmp 1) rfl rfl HX.out _ Try.underlying23 rfl (info_encs HL.out) ?_)) | ((with_reducible refine step_buildG rfl 25 _ rfl #[(0, .int .i64 6), (1, .agg (encs B l).toArray)] ?qb (AV [6] l) (buildSix l HL.out) ?_); (case qb => rfl)) | ((with_reducible refine step_store (b := w.heap.size + 1) (vs := (AV [6] l)) rfl 25 (.tmp 2) (.tmp 4) rfl rfl rfl HZ.out ?qs ?qj (AV_one _ _) ?_); (case qs => exact HS.out); (case qj => exact info_ZA)))
  have hload := load_block (setCells_block HZ.out HS.out) 25 _ Try.underlying25 rfl (by rw [HS.out]; exact info_ZA)
  refine bodyPost_ret (results_c rfl _ _ _ _ _ rfl hload) rfl ⟨rfl, setCells_below _ (Nat.le_succ _) _ _ _ HB.out⟩
end Go.Proofs.Ytahnibhcfdamdaa.Ad
