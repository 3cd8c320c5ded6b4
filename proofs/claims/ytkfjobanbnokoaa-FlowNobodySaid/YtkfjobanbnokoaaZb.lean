/- Package addr and its reference: whether an address is right, how wide it is, its bytes, and of what bytes it is. Package addr and its reference: the address of bytes, and an address's bytes. Package addr: the address of four bytes, whether one is right, its width, its bytes. Package addr: whether an address is right; '==' on addresses. Package addr: whether an address is right, how wide it is, and its bytes. The reference's bytes of an address. What a call knows of memory: blocks and rows of bytes of its own, each apart from the others; and one step law for each kind of operation. A packet's head as cells: nine numbers, then two addresses; parts of it loaded and stored; two heads compared. The step laws for heads, addresses and numbers, each over what the call knows of memory. Step laws for regions that draw their order. Further step laws: literals of slices. Further step laws: rows of bytes: literals, append. Further step laws: composite literals, literals of bytes, '==' on structs, each out of one equation that is laid ahead. Further step laws: a byte of a row of the call's own is stored. One law for a step that reads, one for a step that writes, one for append; which kind of step it is, the default proofs of their arguments find. Plain: what a head of either family is, and the bytes of one; no program in sight. -/
import Derived.Test.YtkfjobanbnokoaaZa
import Derived.Deep.RegionHeld3
import Derived.Laws.CopyRow
import Derived.DeepKeys
import Derived.Laws.StructEq
import Derived.Deep.MidRow
import Derived.WalkLawsBesides
set_option linter.unusedSimpArgs false
set_option linter.unusedVariables false
set_option maxRecDepth 100000
namespace Go.Proofs.Ytkfjobanbnokoaa.Ad
open Go.RowKit Go.Proofs.YtkfjobanbnokoaaW.PrintWords Go.Proofs.Ytkfjobanbnokoaa.Bs Go.Proofs.Ytkfjobanbnokoaa.Av Go.Proofs.Ytkfjobanbnokoaa.Le

/-- Is an address right? -/
def rightA (v : Int) (l : List UInt8) : Bool := v == 6 || (v == 4 && (l.drop 4).all (· == 0))
def widthA (v : Int) (l : List UInt8) : Nat := if rightA v l = true then (if v = 4 then 32 else 128) else 0
def bytesA (v : Int) (l : List UInt8) : List UInt8 := l.take (widthA v l / 8)
theorem infoA : (Try.prog.info? 26).map (·.size) = some 17 := by kernel_rfl
theorem info_AV (v : Int) (l : List UInt8) (h : l.length = 16) : (Try.prog.info? 26).map (·.size) = some (AV [v] l).size := by rw [AV_size, h]; exact infoA
theorem widthA_cases (v : Int) (l : List UInt8) : widthA v l = 0 ∧ rightA v l = false ∨ widthA v l = 32 ∧ rightA v l = true ∧ v = 4 ∨ widthA v l = 128 ∧ rightA v l = true ∧ v = 6 := by
  unfold widthA
  by_cases h : rightA v l = true
  · rw [if_pos h]
    by_cases h4 : v = 4
    · rw [if_pos h4]; exact .inr (.inl ⟨rfl, h, h4⟩)
    · rw [if_neg h4]
      refine .inr (.inr ⟨rfl, h, ?_⟩)
      unfold rightA at h
      simp [h4] at h
      exact h
  · rw [if_neg h]; exact .inl ⟨rfl, by simpa using h⟩
/-- Whether what stands from a place on is zero. -/
theorem all_from (l : List UInt8) (i : Nat) (h : i < l.length) : (l.drop i).all (· == 0) = (l.getD i 0 == 0 && (l.drop (i + 1)).all (· == 0)) := by
  rw [List.drop_eq_getElem_cons h, List.all_cons]
  simp [List.getD_eq_getElem?_getD, List.getElem?_eq_getElem h]

set_option maxHeartbeats 1000000 in
theorem refRight_any (v : Int) (l : List UInt8) (w : World) (hl : l.length = 16) :
    Calls Try.prog 15 #[.agg (AV [v] l)] w fun e w' => e = .returned (.bool (rightA v l)) ∧ Below w.heap.size w w' := by
  have hb := blk_new w (.cells (AV [v] l) 26)
  have c0 := (blk_cell hb 0).trans (AV_num v [] l)
  have HB := Lib.hid (below_alloc (Below.refl w.heap.size w) (.cells (AV [v] l) 26))
  have HX := Lib.hid hb
  have HL := Lib.hid hl
  clear hb
  by_cases h6 : v = 6
  · subst h6
    have HE : Hid (rightA 6 l = true) := Lib.hid (by unfold rightA; rfl)
    rw [HE.out]
    go_enter Try.func15, Try.ntmps15
    go_wp2_with fail
    go_ret
    exact ⟨rfl, HB.out⟩
  · have h6' : (v == 6) = false := beq_false_of_ne h6
    have HE : Hid (rightA v l = (v == 4 && (l.drop 4).all (· == 0))) := Lib.hid (by unfold rightA; rw [h6']; simp)
    rw [HE.out]
    clear h6 hl
    go_enter Try.func15, Try.ntmps15
    go_wp2_with fail
    generalize w.alloc (.cells (AV [v] l) 26) = W at c0 HB HX ⊢
    go_loop [3] (fun v3 => ∃ i : Nat, 4 ≤ i ∧ i ≤ 16 ∧ v3 = .int .i64 i ∧ Hid ((l.drop 4).all (· == 0) = (l.drop i).all (· == 0))) (fun v3 => 16 - (intOf v3).toNat)
    case atStart => exact ⟨4, by omega, by omega, rfl, Lib.hid rfl⟩
    case round =>
      obtain ⟨i, hi4, hi, rfl, HA⟩ := hrel
      by_cases hlt : i < 16
      · have hc : W.cell? ⟨w.heap.size, 1 + i, none⟩ = some (.int .u8 ((l.getD i 0).toNat : Int)) := (blk_cell HX.out _).trans (AV_at [v] l _ i rfl (by rw [HL.out]; exact hlt))
        have hby := byte_lt (l.getD i 0)
        have HS := Lib.hid (all_from l i (by rw [HL.out]; exact hlt))
        by_cases hz : l.getD i 0 = 0
        · have HS2 : Hid ((l.drop 4).all (· == 0) = (l.drop (i + 1)).all (· == 0)) := Lib.hid (by rw [HA.out, HS.out, hz]; rfl)
          rw [hz] at hc
          have hc' : W.cell? ⟨w.heap.size, 1 + i, none⟩ = some (.int .u8 0) := hc
          clear hc hby hz
          go_wp2
          go_round
          case rel => exact ⟨i + 1, by omega, by omega, by go_num, HS2⟩
          case measure => (simp [intOf]) <;> omega
        · have HS2 : Hid ((v == 4 && (l.drop 4).all (· == 0)) = false) := Lib.hid (by rw [HA.out, HS.out, beq_false_of_ne hz]; simp)
          have hx : ¬ ((l.getD i 0).toNat : Int) = 0 := fun e => hz (UInt8.toNat_inj.1 (by show _ = 0; omega))
          generalize (l.getD i 0).toNat = x at hc hby hx
          clear hz
          go_wp2
          go_ret
          rw [HS2.out]
          exact ⟨rfl, HB.out⟩
      · have HS2 : Hid ((v == 4 && (l.drop 4).all (· == 0)) = (v == 4)) := Lib.hid (by rw [HA.out, List.drop_of_length_le (by rw [HL.out]; omega)]; simp)
        go_wp2
        go_ret
        rw [HS2.out]
        exact ⟨rfl, HB.out⟩

end Go.Proofs.Ytkfjobanbnokoaa.Ad

set_option linter.unusedSimpArgs false
set_option linter.unusedVariables false
set_option maxRecDepth 100000
namespace Go.Proofs.Ytkfjobanbnokoaa.Ad
open Go.RowKit Go.Proofs.YtkfjobanbnokoaaW.PrintWords Go.Proofs.Ytkfjobanbnokoaa.Bs Go.Proofs.Ytkfjobanbnokoaa.Av Go.Proofs.Ytkfjobanbnokoaa.Le

/-- The zero address. -/
def ZA : Array Value := AV [0] (List.replicate 16 0)
theorem ZA_eq : ZA = AV [0] (List.replicate 16 0) := rfl
theorem zeroA (W : World) : (zeroValue 26).run Try.prog W = .ok (.agg ZA) W := zero_of (by kernel_rfl) W
theorem ZA_size : ZA.size = 17 := by rw [ZA_eq, AV_size]; simp
theorem info_ZA : (Try.prog.info? 26).map (·.size) = some ZA.size := by rw [ZA_size]; exact infoA
theorem list16 {l : List UInt8} (h : l.length = 16) : ∃ a b c d e f g h i j k m n o p q : UInt8, l = [a, b, c, d, e, f, g, h, i, j, k, m, n, o, p, q] := by
  match l, h with
  | [a, b, c, d, e, f, g, h, i, j, k, m, n, o, p, q], _ => exact ⟨a, b, c, d, e, f, g, h, i, j, k, m, n, o, p, q, rfl⟩
theorem buildSix (l : List UInt8) (h : l.length = 16) (W : World) : (Instr.build 26 #[(0, .int .i64 6), (1, .agg (encs B l).toArray)]).run Try.prog W = .ok (.agg (AV [6] l)) W := by
  obtain ⟨a, b, c, d, e, f, g, h, i, j, k, m, n, o, p, q, rfl⟩ := list16 h
  kernel_rfl
theorem buildFour (W : World) : (Instr.build 26 #[(0, .int .i64 4)]).run Try.prog W = .ok (.agg (AV [4] (List.replicate 16 0))) W := by kernel_rfl
theorem step_buildG {ops : Array Oper} {rest : List Oper} {op : Oper} {a : Act} {w : World} {Q : Exit → Act → World → Prop} (hgd : op.guard = none) (t : TypeId) (ps : Array (Nat × Operand)) (ho : op.op = .build t ps) (qs : Array (Nat × Value)) (hq : ps.toList.map (fun p => (p.1, a.eval p.2)) = qs.toList) (cs : Array Value)
    (hz : ∀ W : World, (Instr.build t qs).run Try.prog W = .ok (.agg cs) W)
    (h : wpList Try.prog ops Q rest (a.put op.dst (.agg cs)) w) : wpList Try.prog ops Q (op :: rest) a w := by
  refine wpList_plain hgd fun K hK => ?_
  unfold Oper.wp
  have hq2 : ps.map (fun p => (p.1, a.eval p.2)) = qs := Array.ext' (by rw [Array.toList_map]; exact hq)
  subst hq2
  have := hz w
  simp [execOp, ho, resolve, this, Result.andThen]
  exact hK _ _ h
theorem step_allocN {ops : Array Oper} {rest : List Oper} {op : Oper} {a : Act} {w : World} {Q : Exit → Act → World → Prop} (hgd : op.guard = none) (t : TypeId) (ho : op.op = .alloc t) (cs : Array Value)
    (hz : ∀ W : World, (zeroValue t).run Try.prog W = .ok (.agg cs) W) (n : Nat) (hn : w.heap.size = n)
    (h : wpList Try.prog ops Q rest (a.put op.dst (.pointer (some ⟨n, 0, none⟩))) (w.alloc (.cells cs t))) : wpList Try.prog ops Q (op :: rest) a w := by
  subst hn; exact step_alloc hgd t ho cs hz h

set_option maxHeartbeats 1000000 in
theorem refOf_at16 (v : Value) (l : List UInt8) (w : World) (hr : RB w v l) (hl : l.length = 16) :
    Calls Try.prog 72 #[v] w fun e w' => e = .returned (.tuple #[.agg (AV [6] (l ++ List.replicate 0 0)), .bool true]) ∧ Below w.heap.size w w' := by
  have HR := Lib.hid hr
  obtain ⟨A, c, rfl, hc, hrd⟩ := hr
  obtain ⟨ad, rfl, hcell⟩ := hrd.2.2 (by rw [hl]; decide)
  rw [hl] at HR hc ⊢
  have HL := Lib.hid hl
  have HF : Hid (fillP (l ++ List.replicate 0 0) 16 = l ++ List.replicate 0 0) := Lib.hid (by
    unfold fillP
    rw [List.take_append_of_le_length (by rw [hl]; exact Nat.le_refl _), List.take_of_length_le (by rw [hl]; exact Nat.le_refl _), List.length_append, List.length_replicate, hl])
  have HG : ∀ i, i < 16 → (l ++ List.replicate 0 0).getD i 0 = l.getD i 0 := fun i hi => by
    rw [List.getD_eq_getElem?_getD, List.getD_eq_getElem?_getD, List.getElem?_append_left (by rw [hl]; exact hi)]
  have HLL : Hid ((l ++ List.replicate 0 (0 : UInt8)).length = 16) := Lib.hid (by rw [List.length_append, List.length_replicate, hl])
  have HRC : Hid (∀ wr, Below w.heap.size w wr → ∀ i, i < 16 → wr.cell? (ad.add i) = some (.int .u8 (((l ++ List.replicate 0 0).getD i 0).toNat : Int))) := Lib.hid (fun wr hb i hi => by
    rw [HG i hi]
    obtain ⟨ad2, e2, h2⟩ := reads_cell (hrd.below hb) i (by rw [hl]; exact hi)
    injection e2 with e2
    subst e2
    exact h2)
  clear hrd hcell hl HG
  generalize (l ++ List.replicate 0 (0 : UInt8)) = L at HF HLL HRC ⊢
  have hz0 : ZA[0]? = some (.int .i64 0) := AV_num 0 _ _
  have hz1 : ∀ x : Int, (ZA.setIfInBounds 0 (.int .i64 x))[0]? = some (.int .i64 x) := fun x => by rw [ZA_eq, AV_set0]; exact AV_num _ _ _
  have HM0 : ∀ x : Int, (w.alloc (.cells ZA 26)).heap.size = w.heap.size + 1 := fun _ => size_push _ _
  go_enter Try.func72, Try.ntmps72
  go_wp2_with (first | ((with_reducible refine step_alloc rfl 26 rfl ZA zeroA ?_)))
  have HM : Hid (((w.alloc (.cells ZA 26)).alloc (.cells (ZA.setIfInBounds 0 (.int .i64 6)) 26)).heap[w.heap.size + 1]? = some (.cells (AV [6] (fillP L 0)) 26 (0, 0))) := Lib.hid (by
    have e : (ZA.setIfInBounds 0 (.int .i64 6)) = AV [6] (fillP L 0) := by rw [ZA_eq, AV_set0, part_zero, HLL.out]
    rw [← e]; exact blk_new1 w _ _)
  have HZ : Hid (((w.alloc (.cells ZA 26)).alloc (.cells (ZA.setIfInBounds 0 (.int .i64 6)) 26)).heap[w.heap.size]? = some (.cells ZA 26 (0, 0))) := Lib.hid (blk_old (blk_new w _) _)
  have HB : Hid (Below w.heap.size w ((w.alloc (.cells ZA 26)).alloc (.cells (ZA.setIfInBounds 0 (.int .i64 6)) 26))) := Lib.hid (below_alloc (below_alloc (Below.refl _ _) _) _)
  generalize ((w.alloc (.cells ZA 26)).alloc (.cells (ZA.setIfInBounds 0 (.int .i64 6)) 26)) = wx at HM HZ HB ⊢
  clear hz0 hz1 HM0
  go_loopw [5] (fun v5 wr => ∃ i : Nat, i ≤ 16 ∧ v5 = .int .i64 i ∧ Hid (wr.heap[w.heap.size + 1]? = some (.cells (AV [6] (fillP L i)) 26 (0, 0))) ∧ Hid (wr.heap[w.heap.size]? = some (.cells ZA 26 (0, 0))) ∧ Hid (Below w.heap.size w wr)) (fun v5 _ => 16 - (intOf v5).toNat)
  case atStart => exact ⟨0, Nat.zero_le _, rfl, HM, HZ, HB⟩
  case round =>
    obtain ⟨i, hi, rfl, HM, HZ, HB⟩ := hrel
    by_cases hlt : i < 16
    · have hsrc : wr.cell? (ad.add i) = some (.int .u8 ((L.getD i 0).toNat : Int)) := by
        exact HRC.out wr HB.out i hlt
      have hdst := (blk_cell HM.out (1 + i)).trans (AV_at [6] (fillP L i) (1 + i) i rfl (by rw [part_length _ _ (by rw [HLL.out]; omega), HLL.out]; omega))
      have hfr := blk_frozen HM.out (1 + i)
      have hby := byte_lt (L.getD i 0)
      have HM2 : Hid ((wr.setCell ⟨w.heap.size + 1, 1 + i, none⟩ (.int .u8 ((L.getD i 0).toNat : Int))).heap[w.heap.size + 1]? = some (.cells (AV [6] (fillP L (i + 1))) 26 (0, 0))) := Lib.hid (by
        rw [blk_set HM.out (1 + i) _, show 1 + i = [(6 : Int)].length + i from rfl, AV_setb, part_set L _ (by rw [HLL.out]; omega)])
      have HZ2 : Hid ((wr.setCell ⟨w.heap.size + 1, 1 + i, none⟩ (.int .u8 ((L.getD i 0).toNat : Int))).heap[w.heap.size]? = some (.cells ZA 26 (0, 0))) := Lib.hid (blk_far HZ.out (by simp) _)
      have HB2 := Lib.hid (HB.out.setCell (p := ⟨w.heap.size + 1, 1 + i, none⟩) (Nat.le_succ _) (.int .u8 ((L.getD i 0).toNat : Int)))
      generalize (L.getD i 0).toNat = x at hsrc hby HM2 HZ2 HB2
      go_wp2
      go_roundw
      case rel => exact ⟨i + 1, by omega, by go_num, HM2, HZ2, HB2⟩
      case measure => (simp [intOf]) <;> omega
    · have hi1 : i = 16 := by omega
      rw [hi1, HF.out] at HM
      clear hi1
      have F1 := HZ
      have F2 := HM
      have HS : Hid ((AV [6] L).size = ZA.size) := Lib.hid (by rw [AV_size, ZA_size, HLL.out]; rfl)
      clear HZ HM
      go_wp2_with (first | ((with_reducible refine step_load (b := w.heap.size + 1) (cs := (AV [6] L)) (T := 26) rfl 26 (.tmp 4) rfl rfl F2.out _ Try.underlying26 rfl ?i ?_); (case i => exact by rw [HS.out]; exact info_ZA)) | ((with_reducible refine step_store (b := w.heap.size) (vs := (AV [6] L)) rfl 26 (.tmp 2) (.tmp 33) rfl rfl rfl F1.out ?s ?i (AV_one _ _) ?_); (case s => exact HS.out); (case i => exact info_ZA)))
      have hload := load_block (setCells_block F1.out HS.out) 26 _ Try.underlying26 rfl (by rw [HS.out]; exact info_ZA)
      refine bodyPost_ret (results_c1 rfl _ _ _ _ _ rfl hload) rfl ⟨rfl, setCells_below _ (Nat.le_refl _) _ _ _ HB.out⟩
set_option maxHeartbeats 1000000 in
theorem refOf_at4 (v : Value) (l : List UInt8) (w : World) (hr : RB w v l) (hl : l.length = 4) :
    Calls Try.prog 72 #[v] w fun e w' => e = .returned (.tuple #[.agg (AV [4] (l ++ List.replicate 12 0)), .bool true]) ∧ Below w.heap.size w w' := by
  have HR := Lib.hid hr
  obtain ⟨A, c, rfl, hc, hrd⟩ := hr
  obtain ⟨ad, rfl, hcell⟩ := hrd.2.2 (by rw [hl]; decide)
  rw [hl] at HR hc ⊢
  have HL := Lib.hid hl
  have HF : Hid (fillP (l ++ List.replicate 12 0) 4 = l ++ List.replicate 12 0) := Lib.hid (by
    unfold fillP
    rw [List.take_append_of_le_length (by rw [hl]; exact Nat.le_refl _), List.take_of_length_le (by rw [hl]; exact Nat.le_refl _), List.length_append, List.length_replicate, hl])
  have HG : ∀ i, i < 4 → (l ++ List.replicate 12 0).getD i 0 = l.getD i 0 := fun i hi => by
    rw [List.getD_eq_getElem?_getD, List.getD_eq_getElem?_getD, List.getElem?_append_left (by rw [hl]; exact hi)]
  have HLL : Hid ((l ++ List.replicate 12 (0 : UInt8)).length = 16) := Lib.hid (by rw [List.length_append, List.length_replicate, hl])
  have HRC : Hid (∀ wr, Below w.heap.size w wr → ∀ i, i < 4 → wr.cell? (ad.add i) = some (.int .u8 (((l ++ List.replicate 12 0).getD i 0).toNat : Int))) := Lib.hid (fun wr hb i hi => by
    rw [HG i hi]
    obtain ⟨ad2, e2, h2⟩ := reads_cell (hrd.below hb) i (by rw [hl]; exact hi)
    injection e2 with e2
    subst e2
    exact h2)
  clear hrd hcell hl HG
  generalize (l ++ List.replicate 12 (0 : UInt8)) = L at HF HLL HRC ⊢
  have hz0 : ZA[0]? = some (.int .i64 0) := AV_num 0 _ _
  have hz1 : ∀ x : Int, (ZA.setIfInBounds 0 (.int .i64 x))[0]? = some (.int .i64 x) := fun x => by rw [ZA_eq, AV_set0]; exact AV_num _ _ _
  have HM0 : ∀ x : Int, (w.alloc (.cells ZA 26)).heap.size = w.heap.size + 1 := fun _ => size_push _ _
  go_enter Try.func72, Try.ntmps72
  go_wp2_with (first | ((with_reducible refine step_alloc rfl 26 rfl ZA zeroA ?_)))
  have HM : Hid (((w.alloc (.cells ZA 26)).alloc (.cells (ZA.setIfInBounds 0 (.int .i64 4)) 26)).heap[w.heap.size + 1]? = some (.cells (AV [4] (fillP L 0)) 26 (0, 0))) := Lib.hid (by
    have e : (ZA.setIfInBounds 0 (.int .i64 4)) = AV [4] (fillP L 0) := by rw [ZA_eq, AV_set0, part_zero, HLL.out]
    rw [← e]; exact blk_new1 w _ _)
  have HZ : Hid (((w.alloc (.cells ZA 26)).alloc (.cells (ZA.setIfInBounds 0 (.int .i64 4)) 26)).heap[w.heap.size]? = some (.cells ZA 26 (0, 0))) := Lib.hid (blk_old (blk_new w _) _)
  have HB : Hid (Below w.heap.size w ((w.alloc (.cells ZA 26)).alloc (.cells (ZA.setIfInBounds 0 (.int .i64 4)) 26))) := Lib.hid (below_alloc (below_alloc (Below.refl _ _) _) _)
  generalize ((w.alloc (.cells ZA 26)).alloc (.cells (ZA.setIfInBounds 0 (.int .i64 4)) 26)) = wx at HM HZ HB ⊢
  clear hz0 hz1 HM0
  go_loopw [5] (fun v5 wr => ∃ i : Nat, i ≤ 4 ∧ v5 = .int .i64 i ∧ Hid (wr.heap[w.heap.size + 1]? = some (.cells (AV [4] (fillP L i)) 26 (0, 0))) ∧ Hid (wr.heap[w.heap.size]? = some (.cells ZA 26 (0, 0))) ∧ Hid (Below w.heap.size w wr)) (fun v5 _ => 4 - (intOf v5).toNat)
  case atStart => exact ⟨0, Nat.zero_le _, rfl, HM, HZ, HB⟩
  case round =>
    obtain ⟨i, hi, rfl, HM, HZ, HB⟩ := hrel
    by_cases hlt : i < 4
    · have hsrc : wr.cell? (ad.add i) = some (.int .u8 ((L.getD i 0).toNat : Int)) := by
        exact HRC.out wr HB.out i hlt
      have hdst := (blk_cell HM.out (1 + i)).trans (AV_at [4] (fillP L i) (1 + i) i rfl (by rw [part_length _ _ (by rw [HLL.out]; omega), HLL.out]; omega))
      have hfr := blk_frozen HM.out (1 + i)
      have hby := byte_lt (L.getD i 0)
      have HM2 : Hid ((wr.setCell ⟨w.heap.size + 1, 1 + i, none⟩ (.int .u8 ((L.getD i 0).toNat : Int))).heap[w.heap.size + 1]? = some (.cells (AV [4] (fillP L (i + 1))) 26 (0, 0))) := Lib.hid (by
        rw [blk_set HM.out (1 + i) _, show 1 + i = [(4 : Int)].length + i from rfl, AV_setb, part_set L _ (by rw [HLL.out]; omega)])
      have HZ2 : Hid ((wr.setCell ⟨w.heap.size + 1, 1 + i, none⟩ (.int .u8 ((L.getD i 0).toNat : Int))).heap[w.heap.size]? = some (.cells ZA 26 (0, 0))) := Lib.hid (blk_far HZ.out (by simp) _)
      have HB2 := Lib.hid (HB.out.setCell (p := ⟨w.heap.size + 1, 1 + i, none⟩) (Nat.le_succ _) (.int .u8 ((L.getD i 0).toNat : Int)))
      generalize (L.getD i 0).toNat = x at hsrc hby HM2 HZ2 HB2
      go_wp2
      go_roundw
      case rel => exact ⟨i + 1, by omega, by go_num, HM2, HZ2, HB2⟩
      case measure => (simp [intOf]) <;> omega
    · have hi1 : i = 4 := by omega
      rw [hi1, HF.out] at HM
      clear hi1
      have F1 := HZ
      have F2 := HM
      have HS : Hid ((AV [4] L).size = ZA.size) := Lib.hid (by rw [AV_size, ZA_size, HLL.out]; rfl)
      clear HZ HM
      go_wp2_with (first | ((with_reducible refine step_load (b := w.heap.size + 1) (cs := (AV [4] L)) (T := 26) rfl 26 (.tmp 4) rfl rfl F2.out _ Try.underlying26 rfl ?i ?_); (case i => exact by rw [HS.out]; exact info_ZA)) | ((with_reducible refine step_store (b := w.heap.size) (vs := (AV [4] L)) rfl 26 (.tmp 2) (.tmp 33) rfl rfl rfl F1.out ?s ?i (AV_one _ _) ?_); (case s => exact HS.out); (case i => exact info_ZA)))
      have hload := load_block (setCells_block F1.out HS.out) 26 _ Try.underlying26 rfl (by rw [HS.out]; exact info_ZA)
      refine bodyPost_ret (results_c1 rfl _ _ _ _ _ rfl hload) rfl ⟨rfl, setCells_below _ (Nat.le_refl _) _ _ _ HB.out⟩

theorem info16 : (Try.prog.info? 24).map (·.size) = some 16 := by kernel_rfl
theorem info_encs {l : List UInt8} (h : l.length = 16) : (Try.prog.info? 24).map (·.size) = some (encs B l).toArray.size := by rw [List.size_toArray, encs_length, h]; exact info16
set_option maxHeartbeats 1000000 in
theorem six_any (l : List UInt8) (w : World) (hl : l.length = 16) :
    Calls Try.prog 69 #[.agg (encs B l).toArray] w fun e w' => e = .returned (.agg (AV [6] l)) ∧ Below w.heap.size w w' := by
  have HL := Lib.hid hl
  have HS : Hid ((AV [6] l).size = ZA.size) := Lib.hid (by rw [AV_size, ZA_size, hl]; rfl)
  clear hl
  have HX := Lib.hid (blk_old (blk_new w (.cells (encs B l).toArray 24)) (.cells ZA 26))
  have HZ : Hid (((w.alloc (.cells (encs B l).toArray 24)).alloc (.cells ZA 26)).heap[w.heap.size + 1]? = some (.cells ZA 26 (0, 0))) := Lib.hid (blk_new1 w _ _)
  have HB : Hid (Below w.heap.size w ((w.alloc (.cells (encs B l).toArray 24)).alloc (.cells ZA 26))) := Lib.hid (below_alloc (below_alloc (Below.refl _ _) _) _)
  go_enter Try.func69, Try.ntmps69
  go_wp2_with (first | ((with_reducible refine step_allocN rfl 26 rfl ZA zeroA (w.heap.size + 1) (size_push w _) ?_)) | ((with_reducible refine step_load (b := w.heap.size) (cs := (encs B l).toArray) rfl 24 (.tmp 1) rfl rfl HX.out _ Try.underlying24 rfl (info_encs HL.out) ?_)) | ((with_reducible refine step_buildG rfl 26 _ rfl #[(0, .int .i64 6), (1, .agg (encs B l).toArray)] ?qb (AV [6] l) (buildSix l HL.out) ?_); (case qb => rfl)) | ((with_reducible refine step_store (b := w.heap.size + 1) (vs := (AV [6] l)) rfl 26 (.tmp 2) (.tmp 4) rfl rfl rfl HZ.out ?qs ?qj (AV_one _ _) ?_); (case qs => exact HS.out); (case qj => exact info_ZA)))
  have hload := load_block (setCells_block HZ.out HS.out) 26 _ Try.underlying26 rfl (by rw [HS.out]; exact info_ZA)
  refine bodyPost_ret (results_c rfl _ _ _ _ _ rfl hload) rfl ⟨rfl, setCells_below _ (Nat.le_succ _) _ _ _ HB.out⟩
end Go.Proofs.Ytkfjobanbnokoaa.Ad

set_option linter.unusedSimpArgs false
set_option linter.unusedVariables false
set_option maxRecDepth 100000
namespace Go.Proofs.Ytkfjobanbnokoaa.Ad
open Go.RowKit Go.Proofs.YtkfjobanbnokoaaW.PrintWords Go.Proofs.Ytkfjobanbnokoaa.Bs Go.Proofs.Ytkfjobanbnokoaa.Av Go.Proofs.Ytkfjobanbnokoaa.Le

/-- copy(m[o:o+m], src) of fewer bytes, as one step of a region that draws its order. -/
theorem step_copy_wide {ops : Array Oper} {op : Oper} {a : Act} {K : Act → World → Prop} {Q : Exit → Act → World → Prop} {E : Prop} {W : World} (hgd : op.guard = none) (d s : Operand)
    (ho : op.op = .call { callee := .builtin .copy, args := #[d, s], argTypes := #[22, 22] })
    (b p o n m : Nat) (ns : List Int) (l ys : List UInt8) (T : TypeId) (u : Value) (hp : p = ns.length + o) (hd : a.eval d = .slice (some ⟨b, p, none⟩) m m) (hs : a.eval s = u)
    (hg : W.heap[b]? = some (.cells (AV ns l) T (0, 0))) (HR : RB W u ys) (hy : ys.length = n) (hm : n ≤ m) (hn : o + n ≤ l.length) (hn0 : 0 < n)
    (h : ∀ w1, w1.heap[b]? = some (.cells (AV ns (l.take o ++ ys ++ l.drop (o + n))) T (0, 0)) → W.grownBy w1 (some b) → K (a.put op.dst (goInt n)) w1) :
    if Region.wanted op (yielded ops a.tmps) = true then Oper.wp Try.prog op a W K Q else E := by
  obtain ⟨A, c, rfl, _, hr⟩ := HR
  obtain ⟨i8, hi8, hs8⟩ := info8'
  have hsz : (Try.prog.info? 5).map (·.size) = some 1 := by rw [hi8]; simp [hs8]
  subst hp hy
  obtain ⟨ad, rfl, hcell⟩ := hr.2.2 hn0
  have hw : Region.wanted op (yielded ops a.tmps) = true := by simp [Region.wanted, hgd]
  rw [if_pos hw]
  have hrun := run_copy_row (P := Try.prog) W 22 22 op.type 5 b (ns.length + o) m m ad ys.length c (AV ns l) T (encs B ys) Try.underlying22 hsz hg (by rw [encs_length]; exact (Nat.min_eq_left hm).symm) (fun j z hz => by
    obtain ⟨hj, _⟩ := List.getElem?_eq_some_iff.1 hz
    rw [encs_length] at hj
    rw [encs_get (d := 0) _ j hj] at hz
    rw [hcell j hj, ← hz]) (by rw [encs_length, AV_size]; omega) (fun z hz => by
    simp only [encs, List.mem_map] at hz
    obtain ⟨q, _, rfl⟩ := hz
    exact rfl)
  have hX : ((AV ns l).toList.take (ns.length + o) ++ encs B ys ++ (AV ns l).toList.drop (ns.length + o + ys.length)).toArray = AV ns (l.take o ++ ys ++ l.drop (o + ys.length)) := by
    have h3 := AV_splice ns l ys o hn
    unfold splice at h3
    rwa [encs_length, ← List.append_assoc] at h3
  rw [encs_length, hX] at hrun
  have h1 := setRow_heap W b (AV ns l) (AV ns (l.take o ++ ys ++ l.drop (o + ys.length))) T _ hg
  have h2 := h _ h1 (grown_setRow W b _)
  simp only [List.append_assoc] at h2
  unfold Oper.wp
  simp [execOp, ho, resolve, invoke, builtin, hd, hs, hrun, Result.andThen]
  exact h2

theorem info4 : (Try.prog.info? 104).map (·.size) = some 4 := by kernel_rfl
/-- The bytes of an array in a block of its own. -/
theorem RB_arr {w : World} {b : Nat} {l : List UInt8} {T : TypeId} (h : w.heap[b]? = some (.cells (encs B l).toArray T (0, 0))) (n : Nat) (hn : l.length = n) (hl : l.length ≤ 9223372036854775807) : RB w (.slice (some ⟨b, 0, none⟩) n n) l := by
  subst hn
  have h2 : w.heap[b]? = some (.cells (AV [] l) T (0, 0)) := h
  have := RB_block h2 0 l.length 0 rfl (by omega) hl
  rwa [List.drop_zero, List.take_length] at this

set_option maxHeartbeats 1000000 in
theorem four_any (l : List UInt8) (w : World) (hl : l.length = 4) :
    Calls Try.prog 66 #[.agg (encs B l).toArray] w fun e w' => e = .returned (.agg (AV [4] (l ++ List.replicate 12 0))) ∧ Below w.heap.size w w' := by
  have HL := Lib.hid hl
  have HS : Hid ((AV [4] (l ++ List.replicate 12 0)).size = ZA.size) := Lib.hid (by rw [AV_size, ZA_size, List.length_append, List.length_replicate, hl]; rfl)
  clear hl
  generalize hLL : (l ++ List.replicate 12 (0 : UInt8)) = L at HS ⊢
  have HLL := Lib.hid hLL
  clear hLL
  have HX := Lib.hid (blk_old (blk_old (blk_new w (.cells (encs B l).toArray 104)) (.cells ZA 26)) (.cells ZA 26))
  have HZ := Lib.hid (blk_old (blk_new1 w (.cells (encs B l).toArray 104) (.cells ZA 26)) (.cells ZA 26))
  have HS2 : ((w.alloc (.cells (encs B l).toArray 104)).alloc (.cells ZA 26)).heap.size = w.heap.size + 1 + 1 := by rw [size_push, size_push]
  have HY : Hid ((((w.alloc (.cells (encs B l).toArray 104)).alloc (.cells ZA 26)).alloc (.cells ZA 26)).heap[w.heap.size + 1 + 1]? = some (.cells ZA 26 (0, 0))) := Lib.hid (by have h := blk_new ((w.alloc (.cells (encs B l).toArray 104)).alloc (.cells ZA 26)) (.cells ZA 26); rwa [HS2] at h)
  have HB : Hid (Below w.heap.size w (((w.alloc (.cells (encs B l).toArray 104)).alloc (.cells ZA 26)).alloc (.cells ZA 26))) := Lib.hid (below_alloc (below_alloc (below_alloc (Below.refl _ _) _) _) _)
  have HS2' := Lib.hid HS2
  clear HS2
  go_enter Try.func66, Try.ntmps66
  go_wp2_with (first | ((with_reducible refine step_allocN rfl 26 rfl ZA zeroA (w.heap.size + 1) (size_push w _) ?_)) | ((with_reducible refine step_allocN rfl 26 rfl ZA zeroA (w.heap.size + 1 + 1) HS2'.out ?_)) | ((with_reducible refine step_buildG rfl 26 _ rfl #[(0, .int .i64 4)] ?qb (AV [4] (List.replicate 16 0)) buildFour ?_); (case qb => rfl)) | ((with_reducible refine step_store (b := w.heap.size + 1 + 1) (vs := AV [4] (List.replicate 16 0)) rfl 26 (.tmp 3) (.tmp 4) rfl rfl rfl HY.out ?qs ?qj (AV_one _ _) ?_); (case qs => rfl); (case qj => exact info_ZA)))
  have HY2 := Lib.hid (setCells_block HY.out (show (AV [4] (List.replicate 16 (0 : UInt8))).size = ZA.size from rfl))
  have HG := setCells_grown (w.heap.size + 1 + 1) (AV [4] (List.replicate 16 (0 : UInt8))).toList 0 (((w.alloc (.cells (encs B l).toArray 104)).alloc (.cells ZA 26)).alloc (.cells ZA 26))
  have HX2 := Lib.hid (blk_grown HX.out HG (by intro e; injection e with e; omega))
  have HZ2 := Lib.hid (blk_grown HZ.out HG (by intro e; injection e with e; omega))
  have HB2 := Lib.hid (setCells_below (w.heap.size + 1 + 1) (by omega) (AV [4] (List.replicate 16 (0 : UInt8))).toList 0 _ HB.out)
  clear HG HX HY HZ HB HS2'
  generalize ((((w.alloc (.cells (encs B l).toArray 104)).alloc (.cells ZA 26)).alloc (.cells ZA 26)).setCells (w.heap.size + 1 + 1) 0 (AV [4] (List.replicate 16 (0 : UInt8))).toList) = wx at HX2 HY2 HZ2 HB2 ⊢
  have HR : Hid (RB wx.drew (.slice (some ⟨w.heap.size, 0, none⟩) 4 4) l) := Lib.hid (RB_arr (show wx.drew.heap[w.heap.size]? = _ from HX2.out) 4 HL.out (by rw [HL.out]; decide))
  go_region_held3 (fun _ => True) (trivial) (first | (refine step_copy_wide rfl (.tmp 6) (.tmp 7) rfl (w.heap.size + 1 + 1) 1 0 4 16 [4] (List.replicate 16 0) l 26 _ rfl rfl rfl HY2.out HR.out HL.out (by decide) (by simp) (by decide) ?_; intro w3 hm1 hg1; have HY3 : Hid (w3.heap[w.heap.size + 1 + 1]? = some (.cells (AV [4] L) 26 (0, 0))) := Lib.hid (by rw [← HLL.out]; exact hm1); have HB3 := Lib.hid (grown_below hg1 (below_drew HB2.out) HB2.out.size (by omega)); have HZ3 := Lib.hid (blk_grown (show wx.drew.heap[w.heap.size + 1]? = _ from HZ2.out) hg1 (by intro e; injection e with e; omega)); clear hm1 hg1))
  clear HX2 HY2 HZ2 HB2 HR
  go_wp2_with (first | ((with_reducible refine step_load (b := w.heap.size + 1 + 1) (cs := (AV [4] L)) (T := 26) rfl 26 (.tmp 3) rfl rfl HY3.out _ Try.underlying26 rfl ?qi ?_); (case qi => exact by rw [HS.out]; exact info_ZA)) | ((with_reducible refine step_store (b := w.heap.size + 1) (vs := (AV [4] L)) rfl 26 (.tmp 2) (.tmp 9) rfl rfl rfl HZ3.out ?qs ?qj (AV_one _ _) ?_); (case qs => exact HS.out); (case qj => exact info_ZA)))
  have hload := load_block (setCells_block HZ3.out HS.out) 26 _ Try.underlying26 rfl (by rw [HS.out]; exact info_ZA)
  refine bodyPost_ret (results_c rfl _ _ _ _ _ rfl hload) rfl ⟨rfl, setCells_below _ (Nat.le_succ _) _ _ _ HB3.out⟩
end Go.Proofs.Ytkfjobanbnokoaa.Ad

set_option linter.unusedSimpArgs false
set_option linter.unusedVariables false
set_option maxRecDepth 100000
namespace Go.Proofs.Ytkfjobanbnokoaa.Ad
open Go.RowKit Go.Proofs.YtkfjobanbnokoaaW.PrintWords Go.Proofs.Ytkfjobanbnokoaa.Bs Go.Proofs.Ytkfjobanbnokoaa.Av Go.Proofs.Ytkfjobanbnokoaa.Le

theorem mapM_eq {α β : Type} (f : α → Option β) (g : α → β) : ∀ xs : List α, (∀ x ∈ xs, f x = some (g x)) → xs.mapM f = some (xs.map g)
  | [], _ => rfl
  | x :: r, h => by
    rw [List.mapM_cons, h x (List.mem_cons_self ..), mapM_eq f g r (fun z hz => h z (List.mem_cons_of_mem _ hz))]; rfl
theorem flat_single {α : Type} : ∀ xs : List α, (xs.map (fun x => [x])).flatten = xs
  | [] => rfl
  | x :: r => by rw [List.map_cons, List.flatten_cons, flat_single r]; rfl
/-- A byte as a key. -/
def LB (x : UInt8) : Lit := .int .u8 (x.toNat : Int)
theorem lits_byte (d : Nat) (x : UInt8) : Try.prog.keyLits (d + 1) 5 [B x] = some [LB x] := by
  unfold Program.keyLits
  rw [Try.underlying5]
  have h : (Lit.int .u8 (x.toNat : Int)).wf = true := by
    have := x.toNat_lt
    simp only [Lit.wf, decide_eq_true_eq, Bool.and_eq_true]
    exact ⟨by show (0 : Int) ≤ _; omega, by show _ ≤ (255 : Int); omega⟩
  exact if_pos ⟨rfl, h⟩
theorem lits_int (d : Nat) (n : Int) (h0 : -9223372036854775808 ≤ n) (h1 : n ≤ 9223372036854775807) : Try.prog.keyLits (d + 1) 3 [.int .i64 n] = some [.int .i64 n] := by
  unfold Program.keyLits
  rw [Try.underlying3]
  have h : (Lit.int .i64 n).wf = true := by
    simp only [Lit.wf, decide_eq_true_eq, Bool.and_eq_true]
    exact ⟨h0, h1⟩
  exact if_pos ⟨rfl, h⟩
theorem map_range_get (l : List UInt8) : (List.range l.length).map (fun i => [LB (l.getD i 0)]) = l.map (fun x => [LB x]) := by
  apply List.ext_getElem (by simp)
  intro i h1 h2
  have hi : i < l.length := by simpa using h1
  simp [List.getD_eq_getElem?_getD, List.getElem?_eq_getElem hi]
theorem lits_arr (d : Nat) {t : TypeId} {n : Nat} (ht : Try.prog.underlying t = some (.array n 5)) (hc : Try.prog.cellsOf t = n) (l : List UInt8) (hl : l.length = n) : Try.prog.keyLits (d + 2) t (encs B l) = some (l.map LB) := by
  have h1 : Try.prog.cellsOf 5 = 1 := by kernel_rfl
  have hy := mapM_eq (fun i => Try.prog.keyLits (d + 1) 5 (((encs B l).drop (i * Try.prog.cellsOf 5)).take (Try.prog.cellsOf 5))) (fun i => [LB (l.getD i 0)]) (List.range n) (fun i hi => by
    have hin : i < l.length := by rw [hl]; exact List.mem_range.1 hi
    rw [h1, Nat.mul_one]
    have e : ((encs B l).drop i).take 1 = [B (l.getD i 0)] := by
      rw [List.drop_eq_getElem_cons (by rw [encs_length]; exact hin)]
      simp [encs, List.getD_eq_getElem?_getD, List.getElem?_eq_getElem hin]
    rw [e]
    exact lits_byte d _)
  unfold Program.keyLits
  rw [ht]
  simp only []
  rw [if_pos (by rw [encs_length, hc, hl]), hy]
  rw [show List.range n = List.range l.length by rw [hl], map_range_get]
  show some ((l.map (fun x => [LB x])).flatten) = _
  have := flat_single (l.map LB)
  rw [List.map_map] at this
  exact congrArg some this
theorem lits_addr (d : Nat) (v : Int) (l : List UInt8) (h0 : -9223372036854775808 ≤ v) (h1 : v ≤ 9223372036854775807) (hl : l.length = 16) : Try.prog.keyLits (d + 3) 26 (AV [v] l).toList = some (.int .i64 v :: l.map LB) := by
  have k0 : Try.prog.cellsOf 26 = 17 := by kernel_rfl
  have k1 : Try.prog.cellsOf 3 = 1 := by kernel_rfl
  have k2 : Try.prog.cellsOf 24 = 16 := by kernel_rfl
  have hs : (AV [v] l).toList.length = 17 := by rw [Array.length_toList, AV_size]; simp; omega
  have e1 : ((AV [v] l).toList.drop 0).take 1 = [.int .i64 v] := by rw [AV_list]; rfl
  have e2 : ((AV [v] l).toList.drop 1).take 16 = encs B l := by
    rw [AV_list]
    show (encs B l).take 16 = _
    rw [List.take_of_length_le (by rw [encs_length, hl]; exact Nat.le_refl _)]
  have r1 := lits_int (d + 1) v h0 h1
  have r2 := lits_arr d Try.underlying24 k2 l hl
  unfold Program.keyLits
  rw [Try.underlying26]
  simp only []
  rw [if_pos ⟨by rw [hs, k0], by kernel_rfl⟩]
  simp only [List.mapM_cons, List.mapM_nil, k1, k2, e1, e2, r1, r2]
  simp
theorem LB_inj (l m : List UInt8) (h : l.map LB = m.map LB) : l = m := by
  have hinj : ∀ x y : UInt8, LB x = LB y → x = y := fun x y e => by
    unfold LB at e
    injection e with _ e
    exact UInt8.toNat_inj.1 (by omega)
  exact List.map_inj_right (fun x y e => hinj x y e) |>.1 h
theorem eq_addr (v u : Int) (l m : List UInt8) (hv0 : -9223372036854775808 ≤ v) (hv1 : v ≤ 9223372036854775807) (hu0 : -9223372036854775808 ≤ u) (hu1 : u ≤ 9223372036854775807) (hl : l.length = 16) (hm : m.length = 16) (w : World) :
    (Op.equalIn 10000 26 (.agg (AV [v] l)) (.agg (AV [u] m))).run Try.prog w = .ok (v == u && l == m) w := by
  have hf : ∀ (z : Int) (k : List UInt8), k.length = 16 → (Value.agg (AV [z] k)).formed Try.prog 26 = true := by
    intro z k hk
    unfold Value.formed
    rw [Try.underlying26]
    have k0 : Try.prog.cellsOf 26 = 17 := by kernel_rfl
    simp [k0, AV_size, hk]
  obtain ⟨r, hr, hi⟩ := run_equalIn_deep (P := Try.prog) 9997 3 26 (by kernel_rfl) w 3 3 (.agg (AV [v] l)) (.agg (AV [u] m)) _ _ (hf v l hl) (hf u m hm) (lits_addr 0 v l hv0 hv1 hl) (lits_addr 0 u m hu0 hu1 hm)
  rw [hr]
  congr 1
  have e : (r = true) ↔ (v == u && l == m) = true := by
    rw [hi]
    constructor
    · intro h
      injection h with h1 h2
      injection h1 with _ h1
      simp [h1, LB_inj _ _ h2]
    · intro h
      simp at h
      rw [h.1, h.2]
  exact Bool.eq_iff_iff.2 e

set_option maxHeartbeats 1000000 in
theorem right_no (v : Int) (l : List UInt8) (w : World) (hl : l.length = 16) (h6 : (v == 6) = false) (h4 : (v == 4) = false) :
    Calls Try.prog 79 #[.agg (AV [v] l)] w fun e w' => e = .returned (.bool false) ∧ Below w.heap.size w w' := by
  have hb := blk_new w (.cells (AV [v] l) 26)
  have c0 := (blk_cell hb 0).trans (AV_num v [] l)
  have HB := Lib.hid (below_alloc (Below.refl w.heap.size w) (.cells (AV [v] l) 26))
  clear hb
  go_enter Try.func79, Try.ntmps79
  go_wp2_with fail
  go_quiet (fail)
  go_wp2
  go_ret
  exact ⟨rfl, pw_below_drewN HB.out _⟩
set_option maxHeartbeats 1000000 in
theorem right_six (l : List UInt8) (w : World) (hl : l.length = 16) :
    Calls Try.prog 79 #[.agg (AV [6] l)] w fun e w' => e = .returned (.bool true) ∧ Below w.heap.size w w' := by
  have hb := blk_new w (.cells (AV [6] l) 26)
  have c0 := (blk_cell hb 0).trans (AV_num 6 [] l)
  have HB := Lib.hid (below_alloc (Below.refl w.heap.size w) (.cells (AV [6] l) 26))
  clear hb
  go_enter Try.func79, Try.ntmps79
  go_wp2_with fail
  go_quiet (fail)
  go_wp2
  go_ret
  exact ⟨rfl, pw_below_drewN HB.out _⟩

theorem run_arrayAt {P : Program} (W : World) (t : TypeId) {n : Nat} {e : TypeId} (h : P.underlying t = some (.array n e)) (a : Option Addr) (k c : Nat) (hl : n ≤ k) : (Instr.arrayAt t (.slice a k c)).run P W = .ok (.pointer a) W := by
  simp [Instr.arrayAt, run_underlying h, Nat.not_lt.2 hl]
theorem yields_eq {ops : Array Oper} {S : World → Prop} {op : Oper} {a : Act} (hw : Region.wanted op (yielded ops a.tmps) = true) (t u : TypeId) (x y : Operand) (ho : op.op = .binOp .eql t x y u) (vx vy : Array Value) (hx : a.eval x = .agg vx) (hy : a.eval y = .agg vy) (r : Bool) (hgt : Try.prog.eqGuardType Try.prog.depth t = false)
    (he : ∀ w : World, (binOp .eql t (.agg vx) (.agg vy)).run Try.prog w = .ok (.bool r) w) : YieldsIf Try.prog ops S op (.bool r) a :=
  .inl ⟨hw, fun w _ => by
    have := he w
    have hg : (eqGuard .eql t x y (.agg vx) (.agg vy)).run Try.prog w = .ok () w := by simp [eqGuard, hgt]
    simp [execOp, ho, resolve, hx, hy, hg, this, Result.andThen]⟩
/-- An operation of a drawn region is taken first; where its value goes is told. -/
theorem take_at {P : Program} {md : Region.Mode} {ops : Array Oper} {Q : Exit → Act → World → Prop} {S : World → Prop} (i : Nat) (d : Nat) (v : Value) {oi : Oper} {fuel : Nat} {listed : Array Bool} {a : Act} {w : World} (hi : ops[i]? = some oi) (hd : oi.dst = some d)
    (hs : Region.noSelect ops = true) (hf : Region.free md ops listed i = true) (hr : (Region.ready md ops listed).contains i = true)
    (hQ : ∀ c a w, Q (.panic c) (a.put (some d) v) w → Q (.panic c) a w) (hy : YieldsIf P ops S oi v a) (hS : S w)
    (h : wpAnyH P md ops Q S fuel (listed.setIfInBounds i true) (a.put (some d) v) w) : wpAnyH P md ops Q S (fuel + 1) listed a w :=
  wpAnyH_take hi hs hf hr (by rw [hd]; exact hQ) hy hS (by rw [hd]; exact h)
/-- What stands at the head of an address is the array of its first four bytes. -/
theorem range_four {w : World} {b : Nat} {v : Int} {l : List UInt8} {T : TypeId} (h : w.heap[b]? = some (.cells (AV [v] l) T (0, 0))) (n : Nat) (hn : n ≤ l.length) : w.rangeAt b 1 (encs B (l.take n)) := fun j z hz => by
  obtain ⟨hj, _⟩ := List.getElem?_eq_some_iff.1 hz
  rw [encs_length, List.length_take] at hj
  have hj2 : j < n := by omega
  rw [encs_get (d := 0) _ j (by rw [List.length_take]; omega)] at hz
  rw [← hz]
  refine (blk_cell h (1 + j)).trans ?_
  rw [AV_at [v] l (1 + j) j rfl (by omega)]
  congr 3
  simp [List.getD_eq_getElem?_getD, List.getElem?_take, hj2]
set_option maxHeartbeats 1000000 in
theorem right_four (l : List UInt8) (w : World) (hl : l.length = 16) :
    Calls Try.prog 79 #[.agg (AV [4] l)] w fun e w' => e = .returned (.bool ((l.drop 4).all (· == 0))) ∧ Below w.heap.size w w' := by
  have hb := blk_new w (.cells (AV [4] l) 26)
  have c0 := (blk_cell hb 0).trans (AV_num 4 [] l)
  have g1 := range_block hb
  have g2 := range_four hb 4 (by omega)
  have HB := Lib.hid (below_alloc (Below.refl w.heap.size w) (.cells (AV [4] l) 26))
  have hu := Try.underlying26
  have hu4 := Try.underlying104
  have hi : (Try.prog.info? 26).map (·.size) = some (AV [4] l).toList.length := by rw [Array.length_toList]; exact info_AV 4 l hl
  have hi4 : (Try.prog.info? 104).map (·.size) = some (encs B (l.take 4)).length := by rw [encs_length, List.length_take, hl]; exact info4
  have HL4 : Hid ((l.take 4).length = 4) := Lib.hid (by rw [List.length_take, hl]; rfl)
  have HE : ∀ w : World, (Op.equalIn 10000 26 (.agg (AV [4] l)) (.agg (AV [4] (l.take 4 ++ List.replicate 12 0)))).run Try.prog w = .ok ((l.drop 4).all (· == 0)) w := fun w => by
    rw [eq_addr 4 4 l (l.take 4 ++ List.replicate 12 0) (by decide) (by decide) (by decide) (by decide) hl (by rw [List.length_append, List.length_take, List.length_replicate, hl]; rfl)]
    congr 1
    refine Bool.eq_iff_iff.2 ?_
    have e : l = l.take 4 ++ l.drop 4 := (List.take_append_drop 4 l).symm
    constructor
    · intro h
      simp only [beq_self_eq_true, Bool.true_and, beq_iff_eq] at h
      have h2 : l.drop 4 = List.replicate 12 0 := by
        rw [h, List.drop_append_of_le_length (by rw [List.length_take, hl]; decide)]
        simp [hl]
      rw [h2]; rfl
    · intro h
      simp only [beq_self_eq_true, Bool.true_and, beq_iff_eq]
      have h2 : l.drop 4 = List.replicate 12 0 := List.eq_replicate_iff.2 ⟨by rw [List.length_drop, hl], fun x hx => by simpa using (List.all_eq_true.1 h) x hx⟩
      rw [← h2]; exact e
  have HEQ : ∀ w : World, (binOp .eql 26 (.agg (AV [4] l)) (.agg (AV [4] (l.take 4 ++ List.replicate 12 0)))).run Try.prog w = .ok (.bool ((l.drop 4).all (· == 0))) w := fun w => by rw [run_eql_struct, HE]; rfl
  clear hb hl
  generalize ((l.drop 4).all (· == 0)) = r at HEQ ⊢
  clear HE
  go_enter Try.func79, Try.ntmps79
  go_wp2_with fail
  have HSZ : Hid ((w.alloc (.cells (AV [4] l) 26)).heap.size = w.heap.size + 1) := Lib.hid (size_push _ _)
  generalize w.alloc (.cells (AV [4] l) 26) = X at c0 g1 g2 HB HSZ ⊢
  have LD8 : ∀ {ops : Array Oper} {op : Oper} {a : Act}, Region.wanted op (yielded ops a.tmps) = true → op.op = .load 26 (.tmp 1) → a.eval (.tmp 1) = .pointer (some ⟨w.heap.size, 0, none⟩) → YieldsIf Try.prog ops (fun w' => w'.rangeAt w.heap.size 0 (AV [4] l).toList ∧ w'.rangeAt w.heap.size 1 (encs B (l.take 4)) ∧ w'.cell? ⟨w.heap.size, 0, none⟩ = some (.int .i64 4)) op (.agg (AV [4] l)) a := fun hw ho hx => yieldsIf_load_mid hw _ _ ho w.heap.size 0 hx (AV [4] l).toList _ (fun w h => h.1) hu rfl hi
  have LD12 : ∀ {ops : Array Oper} {op : Oper} {a : Act}, Region.wanted op (yielded ops a.tmps) = true → op.op = .load 104 (.tmp 14) → a.eval (.tmp 14) = .pointer (some ⟨w.heap.size, 1, none⟩) → YieldsIf Try.prog ops (fun w' => w'.rangeAt w.heap.size 0 (AV [4] l).toList ∧ w'.rangeAt w.heap.size 1 (encs B (l.take 4)) ∧ w'.cell? ⟨w.heap.size, 0, none⟩ = some (.int .i64 4)) op (.agg (encs B (l.take 4)).toArray) a := fun hw ho hx => yieldsIf_load_mid hw _ _ ho w.heap.size 1 hx (encs B (l.take 4)) _ (fun w h => h.2.1) hu4 rfl hi4
  have G := And.intro g1 (And.intro g2 c0)
  clear hu hu4 hi hi4 g1 g2 c0
  refine wp_region_held_drew (S := fun w' => w'.rangeAt w.heap.size 0 (AV [4] l).toList ∧ w'.rangeAt w.heap.size 1 (encs B (l.take 4)) ∧ w'.cell? ⟨w.heap.size, 0, none⟩ = some (.int .i64 4)) (by kernel_rfl) G (fun hS => ?_)
  refine' take_at 0 3 (.pointer (some ⟨w.heap.size, 0, none⟩)) rfl rfl (by kernel_rfl) (by kernel_rfl) (by kernel_rfl) (fun _ _ _ h => h) (Or.inl ⟨by kernel_rfl, fun w' hw => by (try have hw2 := hw.2.2); go_simp⟩) hS ?_
  try simp only [Act.put, List.setIfInBounds_toArray, List.set_cons_zero, List.set_cons_succ]
  refine' take_at 1 4 (.int .i64 4) rfl rfl (by kernel_rfl) (by kernel_rfl) (by kernel_rfl) (fun _ _ _ h => h) (Or.inl ⟨by kernel_rfl, fun w' hw => by (try have hw2 := hw.2.2); go_simp⟩) hS ?_
  try simp only [Act.put, List.setIfInBounds_toArray, List.set_cons_zero, List.set_cons_succ]
  refine' take_at 2 5 (.bool false) rfl rfl (by kernel_rfl) (by kernel_rfl) (by kernel_rfl) (fun _ _ _ h => h) (Or.inl ⟨by kernel_rfl, fun w' hw => by (try have hw2 := hw.2.2); go_simp⟩) hS ?_
  try simp only [Act.put, List.setIfInBounds_toArray, List.set_cons_zero, List.set_cons_succ]
  refine' take_at 3 6 (.bool false) rfl rfl (by kernel_rfl) (by kernel_rfl) (by kernel_rfl) (fun _ _ _ h => h) (Or.inl ⟨by kernel_rfl, fun w' hw => by (try have hw2 := hw.2.2); go_simp⟩) hS ?_
  try simp only [Act.put, List.setIfInBounds_toArray, List.set_cons_zero, List.set_cons_succ]
  refine' take_at 4 7 (.pointer (some ⟨w.heap.size, 0, none⟩)) rfl rfl (by kernel_rfl) (by kernel_rfl) (by kernel_rfl) (fun _ _ _ h => h) (Or.inl ⟨by kernel_rfl, fun w' hw => by (try have hw2 := hw.2.2); go_simp⟩) hS ?_
  try simp only [Act.put, List.setIfInBounds_toArray, List.set_cons_zero, List.set_cons_succ]
  refine' take_at 5 8 (.int .i64 4) rfl rfl (by kernel_rfl) (by kernel_rfl) (by kernel_rfl) (fun _ _ _ h => h) (Or.inl ⟨by kernel_rfl, fun w' hw => by (try have hw2 := hw.2.2); go_simp⟩) hS ?_
  try simp only [Act.put, List.setIfInBounds_toArray, List.set_cons_zero, List.set_cons_succ]
  refine' take_at 6 9 (.bool true) rfl rfl (by kernel_rfl) (by kernel_rfl) (by kernel_rfl) (fun _ _ _ h => h) (Or.inl ⟨by kernel_rfl, fun w' hw => by (try have hw2 := hw.2.2); go_simp⟩) hS ?_
  try simp only [Act.put, List.setIfInBounds_toArray, List.set_cons_zero, List.set_cons_succ]
  refine' take_at 7 10 (.bool true) rfl rfl (by kernel_rfl) (by kernel_rfl) (by kernel_rfl) (fun _ _ _ h => h) (Or.inl ⟨by kernel_rfl, fun w' hw => by (try have hw2 := hw.2.2); go_simp⟩) hS ?_
  try simp only [Act.put, List.setIfInBounds_toArray, List.set_cons_zero, List.set_cons_succ]
  refine take_at 8 11 (.agg (AV [4] l)) rfl rfl (by kernel_rfl) (by kernel_rfl) (by kernel_rfl) (fun _ _ _ h => h) (LD8 ?qw rfl rfl) hS ?_
  case qw => kernel_rfl
  try simp only [Act.put, List.setIfInBounds_toArray, List.set_cons_zero, List.set_cons_succ]
  refine' take_at 9 12 (.pointer (some ⟨w.heap.size, 1, none⟩)) rfl rfl (by kernel_rfl) (by kernel_rfl) (by kernel_rfl) (fun _ _ _ h => h) (Or.inl ⟨by kernel_rfl, fun w' hw => by (try have hw2 := hw.2.2); go_simp⟩) hS ?_
  try simp only [Act.put, List.setIfInBounds_toArray, List.set_cons_zero, List.set_cons_succ]
  refine' take_at 10 13 (.slice (some ⟨w.heap.size, 1, none⟩) 4 16) rfl rfl (by kernel_rfl) (by kernel_rfl) (by kernel_rfl) (fun _ _ _ h => h) (Or.inl ⟨by kernel_rfl, fun w' hw => by (try have hw2 := hw.2.2); go_simp⟩) hS ?_
  try simp only [Act.put, List.setIfInBounds_toArray, List.set_cons_zero, List.set_cons_succ]
  refine' take_at 11 14 (.pointer (some ⟨w.heap.size, 1, none⟩)) rfl rfl (by kernel_rfl) (by kernel_rfl) (by kernel_rfl) (fun _ _ _ h => h) (Or.inl ⟨by kernel_rfl, fun w' hw => by (try have hw2 := hw.2.2); go_simp; rw [run_arrayAt w' _ Try.underlying104 _ _ _ (by decide)]; rfl⟩) hS ?_
  try simp only [Act.put, List.setIfInBounds_toArray, List.set_cons_zero, List.set_cons_succ]
  refine take_at 12 15 (.agg (encs B (l.take 4)).toArray) rfl rfl (by kernel_rfl) (by kernel_rfl) (by kernel_rfl) (fun _ _ _ h => h) (LD12 ?qw rfl rfl) hS ?_
  case qw => kernel_rfl
  try simp only [Act.put, List.setIfInBounds_toArray, List.set_cons_zero, List.set_cons_succ]
  refine wpAnyH_ready (rs := [13]) (by kernel_rfl) (by simp) (AllReadyH.cons rfl (fun K' hK => ?_) AllReadyH.nil)
  go_simp
  refine (four_any (l.take 4) _ HL4.out).mono ?_
  rintro e w2 ⟨rfl, hb2⟩
  have hlt : w.heap.size < X.drew.heap.size := by show w.heap.size < X.heap.size; rw [HSZ.out]; omega
  refine hK.out _ _ ⟨fun j z h => (hb2.cell hlt).trans (hS.1 j z h), fun j z h => (hb2.cell hlt).trans (hS.2.1 j z h), (hb2.cell hlt).trans hS.2.2⟩ (fun hS2 => ?_)
  have HB2 := Lib.hid ((below_drew HB.out).trans (hb2.mono (Nat.le_of_lt hlt)))
  clear hb2 hlt hS hK
  refine' take_at 14 17 (.bool r) rfl rfl (by kernel_rfl) (by kernel_rfl) (by kernel_rfl) (fun _ _ _ h => h) (yields_eq (by kernel_rfl) 26 _ _ _ rfl (AV [4] l) (AV [4] (l.take 4 ++ List.replicate 12 0)) rfl rfl r (by kernel_rfl) HEQ) hS2 ?_
  try simp only [Act.put, List.setIfInBounds_toArray, List.set_cons_zero, List.set_cons_succ]
  refine' take_at 15 18 (.bool r) rfl rfl (by kernel_rfl) (by kernel_rfl) (by kernel_rfl) (fun _ _ _ h => h) (Or.inl ⟨by kernel_rfl, fun w' hw => by go_simp⟩) hS2 ?_
  try simp only [Act.put, List.setIfInBounds_toArray, List.set_cons_zero, List.set_cons_succ]
  refine' take_at 16 19 (.bool r) rfl rfl (by kernel_rfl) (by kernel_rfl) (by kernel_rfl) (fun _ _ _ h => h) (Or.inl ⟨by kernel_rfl, fun w' hw => by go_simp⟩) hS2 ?_
  try simp only [Act.put, List.setIfInBounds_toArray, List.set_cons_zero, List.set_cons_succ]
  refine' take_at 17 2 (.bool r) rfl rfl (by kernel_rfl) (by kernel_rfl) (by kernel_rfl) (fun _ _ _ h => h) (Or.inl ⟨by kernel_rfl, fun w' hw => by go_simp⟩) hS2 ?_
  try simp only [Act.put, List.setIfInBounds_toArray, List.set_cons_zero, List.set_cons_succ]
  refine wpAnyH_done (by kernel_rfl) ?_ _
  go_wp2
  go_ret
  exact ⟨rfl, HB2.out⟩
end Go.Proofs.Ytkfjobanbnokoaa.Ad

set_option linter.unusedSimpArgs false
set_option linter.unusedVariables false
set_option maxRecDepth 100000
namespace Go.Proofs.Ytkfjobanbnokoaa.Ad
open Go.RowKit Go.Proofs.YtkfjobanbnokoaaW.PrintWords Go.Proofs.Ytkfjobanbnokoaa.Bs Go.Proofs.Ytkfjobanbnokoaa.Av Go.Proofs.Ytkfjobanbnokoaa.Le

theorem right_any (v : Int) (l : List UInt8) (w : World) (hl : l.length = 16) :
    Calls Try.prog 79 #[.agg (AV [v] l)] w fun e w' => e = .returned (.bool (rightA v l)) ∧ Below w.heap.size w w' := by
  by_cases h6 : v = 6
  · subst h6
    exact right_six l w hl
  · by_cases h4 : v = 4
    · subst h4
      exact right_four l w hl
    · have e6 := beq_false_of_ne h6
      have e4 := beq_false_of_ne h4
      have e : rightA v l = false := by unfold rightA; rw [e6, e4]; rfl
      rw [e]
      exact right_no v l w hl e6 e4

set_option maxHeartbeats 1000000 in
theorem width_any (v : Int) (l : List UInt8) (w : World) (hl : l.length = 16) :
    Calls Try.prog 59 #[.agg (AV [v] l)] w fun e w' => e = .returned (.int .i64 (widthA v l)) ∧ Below w.heap.size w w' := by
  have HX := Lib.hid (blk_new w (.cells (AV [v] l) 26))
  have HB := Lib.hid (below_alloc (Below.refl w.heap.size w) (.cells (AV [v] l) 26))
  have LD : ∀ {ops : Array Oper} {rest : List Oper} {op : Oper} {a : Act} {Q : Exit → Act → World → Prop}, op.guard = none → op.op = .load 26 (.tmp 1) → a.eval (.tmp 1) = .pointer (some ⟨w.heap.size, 0, none⟩) → wpList Try.prog ops Q rest (a.put op.dst (.agg (AV [v] l))) (w.alloc (.cells (AV [v] l) 26)) → wpList Try.prog ops Q (op :: rest) a (w.alloc (.cells (AV [v] l) 26)) := fun hg ho hx h => step_load hg 26 (.tmp 1) ho hx HX.out _ Try.underlying26 rfl (info_AV v l hl) h
  have HL := Lib.hid hl
  have hw := widthA_cases v l
  clear hl
  rcases hw with ⟨h1, h2⟩ | ⟨h1, h2, h3⟩ | ⟨h1, h2, h3⟩
  · rw [h1]
    have H2 := Lib.hid h2
    clear h1 h2
    go_enter Try.func59, Try.ntmps59
    go_wp2_with (first | ((with_reducible refine LD rfl rfl rfl ?_)))
    refine (right_any v l _ HL.out).mono ?_
    rintro e w1 ⟨rfl, hb⟩
    rw [H2.out]
    have hx1 := blk_below HX.out hb
    have c0 := (blk_cell hx1 0).trans (AV_num _ [] l)
    have HB1 := Lib.hid (below_comp HB.out hb)
    clear hb hx1 LD
    go_wp2_with fail
    go_ret
    exact ⟨rfl, HB1.out⟩
  · rw [h1]
    have H2 := Lib.hid h2
    clear h1 h2
    subst h3
    go_enter Try.func59, Try.ntmps59
    go_wp2_with (first | ((with_reducible refine LD rfl rfl rfl ?_)))
    refine (right_any 4 l _ HL.out).mono ?_
    rintro e w1 ⟨rfl, hb⟩
    rw [H2.out]
    have hx1 := blk_below HX.out hb
    have c0 := (blk_cell hx1 0).trans (AV_num _ [] l)
    have HB1 := Lib.hid (below_comp HB.out hb)
    clear hb hx1 LD
    go_wp2_with fail
    go_ret
    exact ⟨rfl, HB1.out⟩
  · rw [h1]
    have H2 := Lib.hid h2
    clear h1 h2
    subst h3
    go_enter Try.func59, Try.ntmps59
    go_wp2_with (first | ((with_reducible refine LD rfl rfl rfl ?_)))
    refine (right_any 6 l _ HL.out).mono ?_
    rintro e w1 ⟨rfl, hb⟩
    rw [H2.out]
    have hx1 := blk_below HX.out hb
    have c0 := (blk_cell hx1 0).trans (AV_num _ [] l)
    have HB1 := Lib.hid (below_comp HB.out hb)
    clear hb hx1 LD
    go_wp2_with fail
    go_ret
    exact ⟨rfl, HB1.out⟩

set_option maxHeartbeats 1000000 in
theorem clone_any (ad : Addr) (n c : Nat) (l : List UInt8) (w : World) (hr : RB w (.slice (some ad) n c) l) (hs : l.length ≤ 1099511627776) :
    Calls Try.prog 61 #[.slice (some ad) n c] w (Row w l) := by
  have HR := Lib.hid hr
  have HS := Lib.hid hs
  clear hr hs
  have HO := Lib.hid (OB.lit w w.heap.size [] (Nat.le_refl _) (by decide))
  have HB0 := Lib.hid (below_alloc (Below.refl w.heap.size w) (.cells (encs B []).toArray 5))
  have HR2 := Lib.hid (HR.out.alloc (.cells (encs B []).toArray 5))
  have HN : ∀ W : World, (binOp .eql 22 (.slice (some ad) n c) (.slice none 0 0)).run Try.prog W = .ok (.bool false) W := fun W => Lib.run_eql_slice_nil W _ _ _ _ _ _ _ Try.underlying22
  go_enter Try.func61, Try.ntmps61
  go_wp2_with (first | ((with_reducible refine is_builtin (b := .append) (xs := #[.tmp 5, .tmp 6]) rfl ?_); refine append_bytes (w0 := w) (w).heap.size rfl (.tmp 5) (.tmp 6) rfl (.slice (some ⟨w.heap.size, 0, none⟩) 0 0) (.slice (some ad) n c) [] l rfl rfl ?aO ?aR ?aB ?aS ?aL ?_; (case aO => exact HO.out); (case aR => exact HR2.out); (case aB => exact HB0.out); (case aS => exact (HB0.out).size); (case aL => (show [].length + l.length ≤ _; have := HS.out; simp; omega)); intro v1 w1 ho hb1 _ _; have HO1 := Lib.hid ho; have HB1 := Lib.hid hb1; clear ho hb1))
  go_ret
  exact ⟨_, rfl, HO1.out, HB1.out⟩
theorem RB_cap {w : World} {A : Option Addr} {n c c' : Nat} {l : List UInt8} (h : RB w (.slice A n c) l) (hc : n ≤ c') : RB w (.slice A n c') l := by
  obtain ⟨A', c0, e, _, hr⟩ := h
  injection e with e1 e2 e3
  subst e1 e2
  exact ⟨A, c', rfl, hc, hr⟩

set_option maxHeartbeats 1000000 in
theorem bytes_any (v : Int) (l : List UInt8) (w : World) (hl : l.length = 16) :
    Calls Try.prog 46 #[.agg (AV [v] l)] w (Row w (bytesA v l)) := by
  have HX := Lib.hid (blk_new w (.cells (AV [v] l) 26))
  have HB := Lib.hid (below_alloc (Below.refl w.heap.size w) (.cells (AV [v] l) 26))
  have LD : ∀ {ops : Array Oper} {rest : List Oper} {op : Oper} {a : Act} {Q : Exit → Act → World → Prop}, op.guard = none → op.op = .load 26 (.tmp 1) → a.eval (.tmp 1) = .pointer (some ⟨w.heap.size, 0, none⟩) → wpList Try.prog ops Q rest (a.put op.dst (.agg (AV [v] l))) (w.alloc (.cells (AV [v] l) 26)) → wpList Try.prog ops Q (op :: rest) a (w.alloc (.cells (AV [v] l) 26)) := fun hg ho hx h => step_load hg 26 (.tmp 1) ho hx HX.out _ Try.underlying26 rfl (info_AV v l hl) h
  have HL := Lib.hid hl
  have hw := widthA_cases v l
  unfold bytesA
  clear hl
  have hw3 : widthA v l = 0 ∨ widthA v l = 32 ∨ widthA v l = 128 := by rcases hw with ⟨h, _⟩ | ⟨h, _, _⟩ | ⟨h, _, _⟩ <;> simp [h]
  clear hw
  rcases hw3 with h1 | h1 | h1
  · rw [h1]
    have H1 := Lib.hid h1
    clear h1
    go_enter Try.func46, Try.ntmps46
    go_wp2_with (first | ((with_reducible refine LD rfl rfl rfl ?_)))
    refine (width_any v l _ HL.out).mono ?_
    rintro e w1 ⟨rfl, hb⟩
    rw [H1.out]
    have HX1 := Lib.hid (blk_below HX.out hb)
    have HB1 := Lib.hid (below_comp HB.out hb)
    clear hb LD
    go_wp2_with fail
    have HR := RB_cap (c' := 16) (RB_block HX1.out 0 0 1 rfl (by omega) (by rw [HL.out]; decide)) (by decide)
    rw [List.drop_zero] at HR
    refine (clone_any _ 0 16 (l.take 0) _ HR (by simp)).mono ?_
    rintro e w2 ⟨v2, rfl, ho, hb2⟩
    have HO := Lib.hid ho
    have HB2 := Lib.hid (below_comp HB1.out hb2)
    clear HR ho hb2
    go_wp2_with fail
    go_ret
    exact ⟨_, rfl, HO.out.weaken HB1.out.size, HB2.out⟩
  · rw [h1]
    have H1 := Lib.hid h1
    clear h1
    go_enter Try.func46, Try.ntmps46
    go_wp2_with (first | ((with_reducible refine LD rfl rfl rfl ?_)))
    refine (width_any v l _ HL.out).mono ?_
    rintro e w1 ⟨rfl, hb⟩
    rw [H1.out]
    have HX1 := Lib.hid (blk_below HX.out hb)
    have HB1 := Lib.hid (below_comp HB.out hb)
    clear hb LD
    go_wp2_with fail
    have HR := RB_cap (c' := 16) (RB_block HX1.out 0 4 1 rfl (by rw [HL.out]; decide) (by rw [HL.out]; decide)) (by decide)
    rw [List.drop_zero] at HR
    refine (clone_any _ 4 16 (l.take 4) _ HR (by rw [List.length_take]; omega)).mono ?_
    rintro e w2 ⟨v2, rfl, ho, hb2⟩
    have HO := Lib.hid ho
    have HB2 := Lib.hid (below_comp HB1.out hb2)
    clear HR ho hb2
    go_wp2_with fail
    go_ret
    exact ⟨_, rfl, HO.out.weaken HB1.out.size, HB2.out⟩
  · rw [h1]
    have H1 := Lib.hid h1
    clear h1
    go_enter Try.func46, Try.ntmps46
    go_wp2_with (first | ((with_reducible refine LD rfl rfl rfl ?_)))
    refine (width_any v l _ HL.out).mono ?_
    rintro e w1 ⟨rfl, hb⟩
    rw [H1.out]
    have HX1 := Lib.hid (blk_below HX.out hb)
    have HB1 := Lib.hid (below_comp HB.out hb)
    clear hb LD
    go_wp2_with fail
    have HR := RB_cap (c' := 16) (RB_block HX1.out 0 16 1 rfl (by rw [HL.out]; decide) (by rw [HL.out]; decide)) (by decide)
    rw [List.drop_zero] at HR
    refine (clone_any _ 16 16 (l.take 16) _ HR (by rw [List.length_take]; omega)).mono ?_
    rintro e w2 ⟨v2, rfl, ho, hb2⟩
    have HO := Lib.hid ho
    have HB2 := Lib.hid (below_comp HB1.out hb2)
    clear HR ho hb2
    go_wp2_with fail
    go_ret
    exact ⟨_, rfl, HO.out.weaken HB1.out.size, HB2.out⟩
end Go.Proofs.Ytkfjobanbnokoaa.Ad

set_option linter.unusedSimpArgs false
set_option linter.unusedVariables false
set_option maxRecDepth 100000
namespace Go.Proofs.Ytkfjobanbnokoaa.Ad
open Go.RowKit Go.Proofs.YtkfjobanbnokoaaW.PrintWords Go.Proofs.Ytkfjobanbnokoaa.Bs Go.Proofs.Ytkfjobanbnokoaa.Av Go.Proofs.Ytkfjobanbnokoaa.Le

theorem take_snoc (l : List UInt8) (k : Nat) (h : k < l.length) : l.take (k + 1) = l.take k ++ [l.getD k 0] := by
  rw [List.take_succ_eq_append_getElem h]
  simp [List.getD_eq_getElem?_getD, List.getElem?_eq_getElem h]

end Go.Proofs.Ytkfjobanbnokoaa.Ad

set_option linter.unusedSimpArgs false
set_option linter.unusedVariables false
set_option maxRecDepth 100000
namespace Go.Proofs.Ytkfjobanbnokoaa.Mm
open Go.RowKit Go.Proofs.YtkfjobanbnokoaaW.PrintWords Go.Proofs.Ytkfjobanbnokoaa.Bs

/-- A block of the call's own: of one variable (its cells are as many as its type has), of any cells; or a row of bytes of its own. -/
inductive Ent where
  | blk (b : Nat) (cs : Array Value) (T : TypeId)
  | raw (b : Nat) (cs : Array Value) (T : TypeId)
  | row (v : Value) (l : List UInt8)
def Ent.own : Ent → Option Nat
  | .blk b _ _ => some b
  | .raw b _ _ => some b
  | .row v _ => v.ownBlock
def Ent.holds (base : Nat) (w : World) : Ent → Prop
  | .blk b cs T => (base ≤ b ∧ w.heap[b]? = some (.cells cs T (0, 0))) ∧ (Try.prog.info? T).map (·.size) = some cs.size
  | .raw b cs T => base ≤ b ∧ w.heap[b]? = some (.cells cs T (0, 0))
  | .row v l => OB base w v l
def Apart (a b : Ent) : Prop := ∀ k, a.own = some k → b.own ≠ some k
structure Mem (w0 w : World) (es : List Ent) : Prop where
  below : Below w0.heap.size w0 w
  all : ∀ e ∈ es, e.holds w0.heap.size w
  apart : es.Pairwise Apart

theorem Ent.holds.lt {base : Nat} {w : World} {e : Ent} (h : e.holds base w) (k : Nat) (hk : e.own = some k) : k < w.heap.size := by
  cases e with
  | blk b cs T => injection hk with hk; subst hk; exact blk_lt h.1.2
  | raw b cs T => injection hk with hk; subst hk; exact blk_lt h.2
  | row v l => exact own_lt h k hk
theorem Ent.holds.base {base : Nat} {w : World} {e : Ent} (h : e.holds base w) (k : Nat) (hk : e.own = some k) : base ≤ k := by
  cases e with
  | blk b cs T => injection hk with hk; subst hk; exact h.1.1
  | raw b cs T => injection hk with hk; subst hk; exact h.1
  | row v l => exact own_base h k hk
theorem Ent.holds.far {base : Nat} {w w1 : World} {e : Ent} (h : e.holds base w) {row : Option Nat} (hg : w.grownBy w1 row) (hne : ∀ k, e.own = some k → some k ≠ row) : e.holds base w1 := by
  cases e with
  | blk b cs T => exact ⟨⟨h.1.1, blk_grown h.1.2 hg (hne b rfl)⟩, h.2⟩
  | raw b cs T => exact ⟨h.1, blk_grown h.2 hg (hne b rfl)⟩
  | row v l =>
    refine own_other h hg ?_
    cases hv : v.ownBlock with
    | none => exact .inl rfl
    | some k => exact .inr (hne k hv)
theorem Mem.start (w : World) : Mem w w [] := ⟨Below.refl _ _, fun e h => absurd h List.not_mem_nil, List.Pairwise.nil⟩
theorem Mem.call {w0 w w1 : World} {es : List Ent} (h : Mem w0 w es) (hb : Below w.heap.size w w1) : Mem w0 w1 es :=
  ⟨h.below.trans (hb.mono h.below.size), fun e he => (h.all e he).far (grown_of_below hb none) (fun k _ => by simp), h.apart⟩
theorem Mem.drew {w0 w : World} {es : List Ent} (h : Mem w0 w es) : Mem w0 w.drew es := h.call (below_drew (Below.refl _ _))
theorem Mem.drewN {w0 w : World} {es : List Ent} (h : Mem w0 w es) (n : Nat) : Mem w0 (w.drewN n) es := h.call (pw_below_drewN (Below.refl _ _) n)
theorem Mem.push {w0 w : World} {es : List Ent} (h : Mem w0 w es) (e : Ent) (he : e.holds w0.heap.size w) (hf : ∀ x ∈ es, Apart e x) : Mem w0 w (e :: es) :=
  ⟨h.below, fun x hx => by rcases List.mem_cons.1 hx with rfl | hx; exact he; exact h.all x hx, List.Pairwise.cons hf h.apart⟩
theorem Mem.alloc {w0 w : World} {es : List Ent} (h : Mem w0 w es) (cs : Array Value) (T : TypeId) (hi : (Try.prog.info? T).map (·.size) = some cs.size) : Mem w0 (w.alloc (.cells cs T)) (.blk w.heap.size cs T :: es) :=
  (h.call (below_alloc (Below.refl _ _) _)).push _ ⟨⟨h.below.size, blk_new w _⟩, hi⟩ (fun x hx k hk hk2 => by
    injection hk with hk
    subst hk
    exact Nat.lt_irrefl _ ((h.all x hx).lt _ hk2))
theorem Mem.allocRaw {w0 w : World} {es : List Ent} (h : Mem w0 w es) (cs : Array Value) (T : TypeId) : Mem w0 (w.alloc (.cells cs T)) (.raw w.heap.size cs T :: es) :=
  (h.call (below_alloc (Below.refl _ _) _)).push _ ⟨h.below.size, blk_new w _⟩ (fun x hx k hk hk2 => by
    injection hk with hk
    subst hk
    exact Nat.lt_irrefl _ ((h.all x hx).lt _ hk2))
/-- A callee hands back a new row. -/
theorem Mem.row {w0 w w1 : World} {es : List Ent} (h : Mem w0 w es) (hb : Below w.heap.size w w1) {v : Value} {l : List UInt8} (ho : OB w.heap.size w1 v l) : Mem w0 w1 (.row v l :: es) :=
  (h.call hb).push _ (ho.weaken h.below.size) (fun x hx k hk hk2 => by
    have h1 := own_base ho k hk
    have h2 := (h.all x hx).lt k hk2
    omega)
theorem Mem.nil {w0 w : World} {es : List Ent} (h : Mem w0 w es) : Mem w0 w (.row (.slice none 0 0) [] :: es) :=
  h.push _ (OB.nil _ _) (fun x hx k hk hk2 => by cases hk)
/-- One entry turns. -/
inductive Upd (e e' : Ent) : List Ent → List Ent → Prop
  | head (r : List Ent) : Upd e e' (e :: r) (e' :: r)
  | tail (x : Ent) {r r' : List Ent} : Upd e e' r r' → Upd e e' (x :: r) (x :: r')
theorem Upd.mem {e e' : Ent} : ∀ {es es' : List Ent}, Upd e e' es es' → e ∈ es
  | _, _, .head r => List.mem_cons_self ..
  | _, _, .tail x h => List.mem_cons_of_mem _ h.mem
theorem Upd.split {e e' : Ent} : ∀ {es es' : List Ent}, Upd e e' es es' → ∃ a b, es = a ++ e :: b ∧ es' = a ++ e' :: b
  | _, _, .head r => ⟨[], r, rfl, rfl⟩
  | _, _, .tail x h => by
    obtain ⟨a, b, rfl, rfl⟩ := h.split
    exact ⟨x :: a, b, rfl, rfl⟩
theorem Mem.turn {w0 w w1 : World} {es es' : List Ent} {e e' : Ent} (h : Mem w0 w es) (u : Upd e e' es es') (hg : w.grownBy w1 e.own) (he : e'.holds w0.heap.size w1)
    (ho : ∀ k, e'.own = some k → e.own = some k ∨ w.heap.size ≤ k) : Mem w0 w1 es' := by
  obtain ⟨a, b, rfl, rfl⟩ := u.split
  have hp := h.apart
  rw [List.pairwise_append] at hp
  obtain ⟨ha, hb, hab⟩ := hp
  rw [List.pairwise_cons] at hb
  have hlt := h.all
  have fa : ∀ x ∈ a, x.holds w0.heap.size w1 := fun x hx => (hlt x (by simp [hx])).far hg (fun k hk hk2 => hab x hx e (by simp) k hk hk2.symm)
  have fb : ∀ x ∈ b, x.holds w0.heap.size w1 := fun x hx => (hlt x (by simp [hx])).far hg (fun k hk hk2 => hb.1 x hx k hk2.symm hk)
  refine ⟨pw_below_grown h.below _ h.below.size hg (fun k hk => (hlt e (by simp)).base k hk), fun x hx => ?_, ?_⟩
  · rcases List.mem_append.1 hx with hx | hx
    · exact fa x hx
    · rcases List.mem_cons.1 hx with rfl | hx
      · exact he
      · exact fb x hx
  · rw [List.pairwise_append]
    refine ⟨ha, List.pairwise_cons.2 ⟨fun x hx k hk hk2 => ?_, hb.2⟩, fun x hx y hy k hk hk2 => ?_⟩
    · rcases ho k hk with h1 | h1
      · exact hb.1 x hx k h1 hk2
      · have := (hlt x (by simp [hx])).lt k hk2
        omega
    · rcases List.mem_cons.1 hy with rfl | hy
      · rcases ho k hk2 with h1 | h1
        · exact hab x hx e (by simp) k hk h1
        · have := (hlt x (by simp [hx])).lt k hk
          omega
      · exact hab x hx y (by simp [hy]) k hk hk2
theorem Mem.get {w0 w : World} {es : List Ent} (h : Mem w0 w es) {b : Nat} {cs : Array Value} {T : TypeId} (m : Ent.blk b cs T ∈ es) : w.heap[b]? = some (.cells cs T (0, 0)) := (h.all _ m).1.2
theorem Mem.size {w0 w : World} {es : List Ent} (h : Mem w0 w es) {b : Nat} {cs : Array Value} {T : TypeId} (m : Ent.blk b cs T ∈ es) : (Try.prog.info? T).map (·.size) = some cs.size := (h.all _ m).2
theorem Mem.getRaw {w0 w : World} {es : List Ent} (h : Mem w0 w es) {b : Nat} {cs : Array Value} {T : TypeId} (m : Ent.raw b cs T ∈ es) : w.heap[b]? = some (.cells cs T (0, 0)) := (h.all _ m).2
theorem Mem.ob {w0 w : World} {es : List Ent} (h : Mem w0 w es) {v : Value} {l : List UInt8} (m : Ent.row v l ∈ es) : OB w0.heap.size w v l := h.all _ m
theorem Mem.rb {w0 w : World} {es : List Ent} (h : Mem w0 w es) {v : Value} {l : List UInt8} (m : Ent.row v l ∈ es) : RB w v l := (h.ob m).rb
theorem Mem.inp {w0 w : World} {es : List Ent} (h : Mem w0 w es) {v : Value} {l : List UInt8} (hr : RB w0 v l) : RB w v l := hr.below h.below
theorem Mem.sub {w0 w : World} {es es' : List Ent} (h : Mem w0 w es) (hs : es'.Sublist es) : Mem w0 w es' := ⟨h.below, fun e he => h.all e (hs.subset he), h.apart.sublist hs⟩
theorem Mem.tail {w0 w : World} {e : Ent} {r : List Ent} (h : Mem w0 w (e :: r)) : Mem w0 w r := h.sub (List.sublist_cons_self _ _)
theorem Mem.one {w0 w : World} {e : Ent} {r : List Ent} (h : Mem w0 w (e :: r)) : Mem w0 w [e] := h.sub (List.Sublist.cons_cons _ (List.nil_sublist _))
theorem Mem.two {w0 w : World} {e f : Ent} {r : List Ent} (h : Mem w0 w (e :: f :: r)) : Mem w0 w [e, f] := h.sub (List.Sublist.cons_cons _ (List.Sublist.cons_cons _ (List.nil_sublist _)))
/-- One cell is stored. -/
theorem Mem.cell {w0 w : World} {es es' : List Ent} (h : Mem w0 w es) {b : Nat} {cs : Array Value} {T : TypeId} (i : Nat) (x : Value) {cs' : Array Value} (hc : cs.setIfInBounds i x = cs') (u : Upd (.blk b cs T) (.blk b cs' T) es es') : Mem w0 (w.setCell ⟨b, i, none⟩ x) es' :=
  h.turn u (grown_set w b i x) ⟨⟨(h.all _ u.mem).1.1, by rw [← hc]; exact blk_set (h.get u.mem) i x⟩, by rw [h.size u.mem, ← hc, Array.size_setIfInBounds]⟩ (fun k hk => .inl hk)
/-- A block is stored whole. -/
theorem Mem.store {w0 w : World} {es es' : List Ent} (h : Mem w0 w es) {b : Nat} {cs vs : Array Value} {T : TypeId} (hs : vs.size = cs.size) (u : Upd (.blk b cs T) (.blk b vs T) es es') : Mem w0 (w.setCells b 0 vs.toList) es' :=
  h.turn u (setCells_grown b vs.toList 0 w) ⟨⟨(h.all _ u.mem).1.1, setCells_block (h.get u.mem) hs⟩, by rw [h.size u.mem, hs]⟩ (fun k hk => .inl hk)

/-- What lies in a block behind a store of part of it. -/
theorem setCells_part {w : World} {b : Nat} {cs : Array Value} {T : TypeId} (h : w.heap[b]? = some (.cells cs T (0, 0))) (o : Nat) (vs : List Value) (ho : o + vs.length ≤ cs.size) {cs' : Array Value} (hc : cs' = (cs.toList.take o ++ vs ++ cs.toList.drop (o + vs.length)).toArray) :
    (w.setCells b o vs).heap[b]? = some (.cells cs' T (0, 0)) := by
  obtain ⟨c2, h1, h2, h3, h4⟩ := setCells_keep b vs o w cs T h ho
  have hl : cs.toList.length = cs.size := by simp
  rw [h1, hc]
  congr 2
  apply Array.ext_getElem?
  intro i
  conv => rhs; rw [List.getElem?_toArray]
  by_cases hi1 : i < o
  · rw [h3 i (.inl hi1), List.append_assoc, List.getElem?_append_left (by simp; omega), List.getElem?_take, if_pos hi1]
    simp
  · by_cases hi2 : i < o + vs.length
    · have := h4 (i - o) (by omega)
      rw [show o + (i - o) = i by omega] at this
      rw [this, List.append_assoc, List.getElem?_append_right (by simp; omega), List.length_take, show i - min o cs.toList.length = i - o by omega, List.getElem?_append_left (by omega)]
    · rw [h3 i (.inr (by omega)), List.getElem?_append_right (by simp; omega), List.getElem?_drop]
      simp only [List.length_append, List.length_take]
      rw [show o + vs.length + (i - (min o cs.toList.length + vs.length)) = i by omega]
      simp
theorem Mem.part {w0 w : World} {es es' : List Ent} (h : Mem w0 w es) {b : Nat} {cs : Array Value} {T : TypeId} (o : Nat) (vs : List Value) (ho : o + vs.length ≤ cs.size) {cs' : Array Value} (hc : cs' = (cs.toList.take o ++ vs ++ cs.toList.drop (o + vs.length)).toArray) (u : Upd (.blk b cs T) (.blk b cs' T) es es') : Mem w0 (w.setCells b o vs) es' :=
  h.turn u (setCells_grown b vs o w) ⟨⟨(h.all _ u.mem).1.1, setCells_part (h.get u.mem) o vs ho hc⟩, by rw [h.size u.mem, hc]; simp; omega⟩ (fun k hk => .inl hk)

section
variable {ops : Array Oper} {rest : List Oper} {op : Oper} {a : Act} {Q : Exit → Act → World → Prop} {w0 w : World} {es es' : List Ent}

/-- alloc. -/
theorem m_alloc {t : TypeId} (ho : op.op = .alloc t) (hw : Region.wanted op (yielded ops a.tmps) = true) {z : Value} (hz : ∀ W : World, (zeroValue t).run Try.prog W = .ok z W) (hi : (Try.prog.info? t).map (·.size) = some z.cells.size) (HM : Mem w0 w es)
    (h : ∀ w1 b, Mem w0 w1 (.blk b z.cells t :: es) → wpList Try.prog ops Q rest (a.put op.dst (.pointer (some ⟨b, 0, none⟩))) w1) : wpList Try.prog ops Q (op :: rest) a w := by
  refine BigFrame.wpList_want hw fun K hK => ?_
  unfold Oper.wp
  simp [execOp, ho, Instr.alloc, hz, newVar, newRow, Result.andThen]
  exact hK _ _ (h _ _ (HM.alloc _ _ hi))
/-- A value is laid into a block of its own. -/
theorem m_box {t : TypeId} {x : Operand} (ho : op.op = .box t x) (hw : Region.wanted op (yielded ops a.tmps) = true) {v : Value} (hx : a.eval x = v) (hi : (Try.prog.info? t).map (·.size) = some v.cells.size) (HM : Mem w0 w es)
    (h : ∀ w1 b, Mem w0 w1 (.blk b v.cells t :: es) → wpList Try.prog ops Q rest (a.put op.dst (.pointer (some ⟨b, 0, none⟩))) w1) : wpList Try.prog ops Q (op :: rest) a w := by
  refine BigFrame.wpList_want hw fun K hK => ?_
  subst hx
  unfold Oper.wp
  simp [execOp, ho, newVar, newRow, Result.andThen]
  exact hK _ _ (h _ _ (HM.alloc _ _ hi))
/-- A struct or an array is loaded whole. -/
theorem m_load {t : TypeId} {x : Operand} (ho : op.op = .load t x) (hw : Region.wanted op (yielded ops a.tmps) = true) {b : Nat} (hx : a.eval x = .pointer (some ⟨b, 0, none⟩)) (HM : Mem w0 w es) {cs : Array Value} (m : Ent.blk b cs t ∈ es)
    {d : TypeDesc} (hu : Try.prog.underlying t = some d) (hd : d.isRow = true)
    (h : wpList Try.prog ops Q rest (a.put op.dst (.agg cs)) w) : wpList Try.prog ops Q (op :: rest) a w :=
  BigFrame.wpList_want hw fun K hK => wp_load_mid (P := Try.prog) t x ho b 0 hx cs.toList d (range_block (HM.get m)) hu hd (by simpa using HM.size m) (hK _ _ (by simpa using h))
/-- A part of a block is loaded whole. -/
theorem m_loadAt {t : TypeId} {x : Operand} (ho : op.op = .load t x) (hw : Region.wanted op (yielded ops a.tmps) = true) {b o : Nat} (hx : a.eval x = .pointer (some ⟨b, o, none⟩)) (HM : Mem w0 w es) {cs : Array Value} {T : TypeId} (m : Ent.blk b cs T ∈ es)
    (vs : List Value) (hv : ∀ j v, vs[j]? = some v → cs[o + j]? = some v)
    {d : TypeDesc} (hu : Try.prog.underlying t = some d) (hd : d.isRow = true) (hi : (Try.prog.info? t).map (·.size) = some vs.length)
    (h : wpList Try.prog ops Q rest (a.put op.dst (.agg vs.toArray)) w) : wpList Try.prog ops Q (op :: rest) a w :=
  BigFrame.wpList_want hw fun K hK => wp_load_mid (P := Try.prog) t x ho b o hx vs d (fun j v hj => (blk_cell (HM.get m) (o + j)).trans (hv j v hj)) hu hd hi (hK _ _ h)
/-- One cell is loaded. -/
theorem m_cell {t : TypeId} {x : Operand} (ho : op.op = .load t x) (hw : Region.wanted op (yielded ops a.tmps) = true) {b i : Nat} (hx : a.eval x = .pointer (some ⟨b, i, none⟩)) (HM : Mem w0 w es) {cs : Array Value} {T : TypeId} (m : Ent.blk b cs T ∈ es)
    {v : Value} (hv : cs[i]? = some v) (hl : ∀ W : World, W.cell? ⟨b, i, none⟩ = some v → (loadVar t ⟨b, i, none⟩).run Try.prog W = .ok v W)
    (h : wpList Try.prog ops Q rest (a.put op.dst v) w) : wpList Try.prog ops Q (op :: rest) a w := by
  refine BigFrame.wpList_want hw fun K hK => ?_
  unfold Oper.wp
  have hrun := hl w ((blk_cell (HM.get m) i).trans hv)
  simp [execOp, ho, hx, Instr.loadAt, Instr.sureAddr, hrun, Result.andThen]
  exact hK _ _ h
/-- A block is stored whole. -/
theorem m_store {t : TypeId} {x y : Operand} (ho : op.op = .store t x y) (hw : Region.wanted op (yielded ops a.tmps) = true) {b : Nat} (hx : a.eval x = .pointer (some ⟨b, 0, none⟩)) {vs : Array Value} (hy : a.eval y = .agg vs) (HM : Mem w0 w es) {cs : Array Value}
    (u : Upd (.blk b cs t) (.blk b vs t) es es') (hi : (Try.prog.info? t).map (·.size) = some vs.size) (h1 : vs.all (·.oneCell') = true)
    (h : ∀ w1, Mem w0 w1 es' → wpList Try.prog ops Q rest (a.put op.dst undef) w1) : wpList Try.prog ops Q (op :: rest) a w := by
  have hs : vs.size = cs.size := by
    have h1 := HM.size u.mem
    rw [hi] at h1
    injection h1
  exact BigFrame.wpList_want hw fun K hK => wp_store_mid (P := Try.prog) t x y ho b 0 vs hx hy (by rw [hs]; exact there_block (HM.get u.mem)) (by rw [hs]; exact HM.size u.mem) h1 (hK _ _ (h _ (HM.store hs u)))
/-- A part of a block is stored whole. -/
theorem m_storeAt {t : TypeId} {x y : Operand} (ho : op.op = .store t x y) (hw : Region.wanted op (yielded ops a.tmps) = true) {b o : Nat} (hx : a.eval x = .pointer (some ⟨b, o, none⟩)) {vs : Array Value} (hy : a.eval y = .agg vs) (HM : Mem w0 w es) {cs cs' : Array Value} {T : TypeId}
    (u : Upd (.blk b cs T) (.blk b cs' T) es es') (hs : o + vs.size ≤ cs.size) (hc : cs' = (cs.toList.take o ++ vs.toList ++ cs.toList.drop (o + vs.size)).toArray) (hi : (Try.prog.info? t).map (·.size) = some vs.size) (h1 : vs.all (·.oneCell') = true)
    (h : ∀ w1, Mem w0 w1 es' → wpList Try.prog ops Q rest (a.put op.dst undef) w1) : wpList Try.prog ops Q (op :: rest) a w :=
  BigFrame.wpList_want hw fun K hK => wp_store_mid (P := Try.prog) t x y ho b o vs hx hy (fun j hj => ⟨by rw [blk_cell (HM.get u.mem)]; simp; omega, blk_frozen (HM.get u.mem) _⟩) hi h1
    (hK _ _ (h _ (HM.part o vs.toList (by simpa using hs) (by simpa using hc) u)))
/-- One cell is stored. -/
theorem m_put {t : TypeId} {x y : Operand} (ho : op.op = .store t x y) (hw : Region.wanted op (yielded ops a.tmps) = true) {b i : Nat} (hx : a.eval x = .pointer (some ⟨b, i, none⟩)) {v : Value} (hy : a.eval y = v) (HM : Mem w0 w es) {cs cs' : Array Value} {T : TypeId}
    (u : Upd (.blk b cs T) (.blk b cs' T) es es') {v0 : Value} (hc0 : cs[i]? = some v0) (hc : cs.setIfInBounds i v = cs')
    (hl : ∀ W : World, W.cell? ⟨b, i, none⟩ = some v0 → W.frozen? ⟨b, i, none⟩ = false → (storeVar t ⟨b, i, none⟩ v).run Try.prog W = .ok () (W.setCell ⟨b, i, none⟩ v))
    (h : ∀ w1, Mem w0 w1 es' → wpList Try.prog ops Q rest (a.put op.dst undef) w1) : wpList Try.prog ops Q (op :: rest) a w := by
  refine BigFrame.wpList_want hw fun K hK => ?_
  unfold Oper.wp
  have hrun := hl w ((blk_cell (HM.get u.mem) i).trans hc0) (blk_frozen (HM.get u.mem) i)
  simp [execOp, ho, hx, hy, Instr.storeAt, Instr.sureAddr, hrun, Result.andThen]
  exact hK _ _ (h _ (HM.cell i v hc u))
end
end Go.Proofs.Ytkfjobanbnokoaa.Mm

set_option linter.unusedSimpArgs false
set_option linter.unusedVariables false
set_option maxRecDepth 100000
namespace Go.Proofs.Ytkfjobanbnokoaa.Hd
open Go.RowKit Go.Proofs.YtkfjobanbnokoaaW.PrintWords Go.Proofs.Ytkfjobanbnokoaa.Bs Go.Proofs.Ytkfjobanbnokoaa.Av Go.Proofs.Ytkfjobanbnokoaa.Mm Go.Proofs.Ytkfjobanbnokoaa.Ad

def HV (ns : List Int) (a : Int) (x : List UInt8) (b : Int) (y : List UInt8) : Array Value := (ns.map (fun n : Int => Value.int .i64 n) ++ ((AV [a] x).toList ++ (AV [b] y).toList)).toArray
theorem HV_size (ns : List Int) (a : Int) (x : List UInt8) (b : Int) (y : List UInt8) (hx : x.length = 16) (hy : y.length = 16) : (HV ns a x b y).size = ns.length + 34 := by
  simp [HV, AV_size, hx, hy]
theorem HV_one (ns : List Int) (a : Int) (x : List UInt8) (b : Int) (y : List UInt8) : (HV ns a x b y).all (·.oneCell') = true := by
  have h1 := AV_one [a] x
  have h2 := AV_one [b] y
  rw [Array.all_eq_true_iff_forall_mem] at h1 h2 ⊢
  intro v hv
  simp only [HV, List.mem_toArray, List.mem_append, List.mem_map, Array.mem_toList_iff] at hv
  rcases hv with ⟨n, _, rfl⟩ | hv | hv
  · rfl
  · exact h1 v hv
  · exact h2 v hv
theorem HV_list (ns : List Int) (a : Int) (x : List UInt8) (b : Int) (y : List UInt8) : (HV ns a x b y).toList = ns.map (fun n : Int => Value.int .i64 n) ++ ((AV [a] x).toList ++ (AV [b] y).toList) := by simp [HV]
theorem HV_num (ns : List Int) (a : Int) (x : List UInt8) (b : Int) (y : List UInt8) (i : Nat) (n : Int) (h : ns[i]? = some n) : (HV ns a x b y)[i]? = some (.int .i64 n) := by
  obtain ⟨hi, h2⟩ := List.getElem?_eq_some_iff.1 h
  unfold HV
  rw [List.getElem?_toArray, List.getElem?_append_left (by simpa using hi), List.getElem?_map, h]
  rfl
theorem HV_src (ns : List Int) (a : Int) (x : List UInt8) (b : Int) (y : List UInt8) (i : Nat) (hi : i = ns.length) (hx : x.length = 16) : ∀ j v, (AV [a] x).toList[j]? = some v → (HV ns a x b y)[i + j]? = some v := by
  intro j v h
  obtain ⟨hj, h2⟩ := List.getElem?_eq_some_iff.1 h
  subst hi
  unfold HV
  rw [List.getElem?_toArray, List.getElem?_append_right (by simp), List.length_map, show ns.length + j - ns.length = j by omega, List.getElem?_append_left hj, h]
theorem HV_dst (ns : List Int) (a : Int) (x : List UInt8) (b : Int) (y : List UInt8) (i : Nat) (hi : i = ns.length + 17) (hx : x.length = 16) : ∀ j v, (AV [b] y).toList[j]? = some v → (HV ns a x b y)[i + j]? = some v := by
  intro j v h
  subst hi
  have e : (AV [a] x).toList.length = 17 := by rw [Array.length_toList, AV_size, hx]; rfl
  unfold HV
  rw [List.getElem?_toArray, List.getElem?_append_right (by simp; omega), List.length_map, show ns.length + 17 + j - ns.length = 17 + j by omega, List.getElem?_append_right (by rw [e]; omega), e, show 17 + j - 17 = j by omega, h]
theorem HV_set (ns : List Int) (a : Int) (x : List UInt8) (b : Int) (y : List UInt8) (i : Nat) (n : Int) (hi : i < ns.length) : (HV ns a x b y).setIfInBounds i (.int .i64 n) = HV (ns.set i n) a x b y := by
  unfold HV
  apply Array.ext'
  rw [Array.toList_setIfInBounds]
  simp only []
  rw [List.set_append_left _ _ (by simpa using hi), List.map_set]
theorem HV_set1 (ns : List Int) (a : Int) (x : List UInt8) (b : Int) (y : List UInt8) (i : Nat) (n : Int) (hi : decide (i < ns.length) = true) : (HV ns a x b y).setIfInBounds i (.int .i64 n) = HV (ns.set i n) a x b y := HV_set ns a x b y i n (of_decide_eq_true hi)
theorem HV_setSrc (ns : List Int) (a : Int) (x : List UInt8) (b : Int) (y : List UInt8) (a' : Int) (x' : List UInt8) (i : Nat) (hi : i = ns.length) (hx : x.length = 16) (hx' : x'.length = 16) :
    HV ns a' x' b y = ((HV ns a x b y).toList.take i ++ (AV [a'] x').toList ++ (HV ns a x b y).toList.drop (i + (AV [a'] x').size)).toArray := by
  subst hi
  rw [HV_list, AV_size, hx']
  unfold HV
  congr 1
  rw [List.take_append_of_le_length (by simp), List.take_of_length_le (by simp), List.append_assoc, List.drop_append, List.drop_of_length_le (by simp), List.nil_append, List.length_map]
  have e3 : (AV [a] x).toList.length = 17 := by rw [Array.length_toList, AV_size, hx]; rfl
  rw [List.drop_append, List.drop_of_length_le (by rw [e3]; simp), List.nil_append, e3]
  simp
theorem HV_setDst (ns : List Int) (a : Int) (x : List UInt8) (b : Int) (y : List UInt8) (b' : Int) (y' : List UInt8) (i : Nat) (hi : i = ns.length + 17) (hx : x.length = 16) (hy : y.length = 16) (hy' : y'.length = 16) :
    HV ns a x b' y' = ((HV ns a x b y).toList.take i ++ (AV [b'] y').toList ++ (HV ns a x b y).toList.drop (i + (AV [b'] y').size)).toArray := by
  subst hi
  have e : (AV [a] x).toList.length = 17 := by rw [Array.length_toList, AV_size, hx]; rfl
  have e2 : (AV [b] y).toList.length = 17 := by rw [Array.length_toList, AV_size, hy]; rfl
  rw [HV_list, AV_size, hy']
  unfold HV
  congr 1
  rw [← List.append_assoc, ← List.append_assoc]
  have hlen : (ns.map (fun n : Int => Value.int .i64 n) ++ (AV [a] x).toList).length = ns.length + 17 := by rw [List.length_append, List.length_map, e]
  rw [List.take_append_of_le_length (by rw [hlen]; exact Nat.le_refl _), List.take_of_length_le (by rw [hlen]; exact Nat.le_refl _)]
  rw [List.drop_of_length_le (by rw [List.length_append, hlen, e2]; simp), List.append_nil]
theorem HV_at9 (ns : List Int) (a : Int) (x : List UInt8) (b : Int) (y : List UInt8) (hn : ns.length = 9) : (HV ns a x b y)[9]? = some (.int .i64 a) := by
  unfold HV
  rw [List.getElem?_toArray, List.getElem?_append_right (by simp [hn]), List.length_map, hn, AV_list]
  rfl
theorem HV_at26 (ns : List Int) (a : Int) (x : List UInt8) (b : Int) (y : List UInt8) (hn : ns.length = 9) (hx : x.length = 16) : (HV ns a x b y)[26]? = some (.int .i64 b) := by
  have h := HV_dst ns a x b y 26 (by rw [hn]) hx 0 (.int .i64 b) (by rw [AV_list]; rfl)
  exact h
/-- The zero head. -/
def ZH : Array Value := HV [0, 0, 0, 0, 0, 0, 0, 0, 0] 0 (List.replicate 16 0) 0 (List.replicate 16 0)
theorem ZH_eq : ZH = HV [0, 0, 0, 0, 0, 0, 0, 0, 0] 0 (List.replicate 16 0) 0 (List.replicate 16 0) := rfl
theorem zeroH (W : World) : (zeroValue 67).run Try.prog W = .ok (.agg ZH) W := zero_of (by kernel_rfl) W
theorem ZH_size : ZH.size = 43 := by rw [ZH_eq, HV_size _ _ _ _ _ (by simp) (by simp)]; rfl
theorem infoH : (Try.prog.info? 67).map (·.size) = some 43 := by kernel_rfl
theorem info_HV (ns : List Int) (a : Int) (x : List UInt8) (b : Int) (y : List UInt8) (hn : ns.length = 9) (hx : x.length = 16) (hy : y.length = 16) : (Try.prog.info? 67).map (·.size) = some (HV ns a x b y).size := by
  rw [HV_size _ _ _ _ _ hx hy, hn]; exact infoH

theorem lits_head (d : Nat) (n0 n1 n2 n3 n4 n5 n6 n7 n8 a b : Int) (x y : List UInt8) (hx : x.length = 16) (hy : y.length = 16)
    (hb : ∀ n ∈ [n0, n1, n2, n3, n4, n5, n6, n7, n8, a, b], -9223372036854775808 ≤ n ∧ n ≤ 9223372036854775807) :
    Try.prog.keyLits (d + 4) 67 (HV [n0, n1, n2, n3, n4, n5, n6, n7, n8] a x b y).toList = some ([.int .i64 n0, .int .i64 n1, .int .i64 n2, .int .i64 n3, .int .i64 n4, .int .i64 n5, .int .i64 n6, .int .i64 n7, .int .i64 n8] ++ ((.int .i64 a :: x.map LB) ++ (.int .i64 b :: y.map LB))) := by
  have k0 : Try.prog.cellsOf 67 = 43 := by kernel_rfl
  have k1 : Try.prog.cellsOf 3 = 1 := by kernel_rfl
  have k2 : Try.prog.cellsOf 26 = 17 := by kernel_rfl
  have hs : (HV [n0, n1, n2, n3, n4, n5, n6, n7, n8] a x b y).toList.length = 43 := by rw [Array.length_toList, HV_size _ _ _ _ _ hx hy]; rfl
  have la : (AV [a] x).toList.length = 17 := by rw [Array.length_toList, AV_size, hx]; rfl
  have lb : (AV [b] y).toList.length = 17 := by rw [Array.length_toList, AV_size, hy]; rfl
  have e9 : ((HV [n0, n1, n2, n3, n4, n5, n6, n7, n8] a x b y).toList.drop 9).take 17 = (AV [a] x).toList := by
    rw [HV_list]
    show ((AV [a] x).toList ++ (AV [b] y).toList).take 17 = _
    rw [List.take_append_of_le_length (by rw [la]; exact Nat.le_refl _), List.take_of_length_le (by rw [la]; exact Nat.le_refl _)]
  have e26 : ((HV [n0, n1, n2, n3, n4, n5, n6, n7, n8] a x b y).toList.drop 26).take 17 = (AV [b] y).toList := by
    rw [HV_list]
    show (((AV [a] x).toList ++ (AV [b] y).toList).drop 17).take 17 = _
    rw [List.drop_append, List.drop_of_length_le (by rw [la]; exact Nat.le_refl _), List.nil_append, la, Nat.sub_self, List.drop_zero, List.take_of_length_le (by rw [lb]; exact Nat.le_refl _)]
  have r0 := lits_int (d + 2) n0 (hb n0 (by simp)).1 (hb n0 (by simp)).2
  have r1 := lits_int (d + 2) n1 (hb n1 (by simp)).1 (hb n1 (by simp)).2
  have r2 := lits_int (d + 2) n2 (hb n2 (by simp)).1 (hb n2 (by simp)).2
  have r3 := lits_int (d + 2) n3 (hb n3 (by simp)).1 (hb n3 (by simp)).2
  have r4 := lits_int (d + 2) n4 (hb n4 (by simp)).1 (hb n4 (by simp)).2
  have r5 := lits_int (d + 2) n5 (hb n5 (by simp)).1 (hb n5 (by simp)).2
  have r6 := lits_int (d + 2) n6 (hb n6 (by simp)).1 (hb n6 (by simp)).2
  have r7 := lits_int (d + 2) n7 (hb n7 (by simp)).1 (hb n7 (by simp)).2
  have r8 := lits_int (d + 2) n8 (hb n8 (by simp)).1 (hb n8 (by simp)).2
  have r9 := lits_addr d a x (hb a (by simp)).1 (hb a (by simp)).2 hx
  have r26 := lits_addr d b y (hb b (by simp)).1 (hb b (by simp)).2 hy
  have g : ∀ (i : Nat) (n : Int), [n0, n1, n2, n3, n4, n5, n6, n7, n8][i]? = some n → ((HV [n0, n1, n2, n3, n4, n5, n6, n7, n8] a x b y).toList.drop i).take 1 = [.int .i64 n] := fun i n h => by
    obtain ⟨hi, h2⟩ := List.getElem?_eq_some_iff.1 h
    have h3 := HV_num [n0, n1, n2, n3, n4, n5, n6, n7, n8] a x b y i n h
    have hi2 : i < (HV [n0, n1, n2, n3, n4, n5, n6, n7, n8] a x b y).toList.length := by rw [hs]; simp at hi; omega
    rw [List.drop_eq_getElem_cons hi2]
    have h4 : (HV [n0, n1, n2, n3, n4, n5, n6, n7, n8] a x b y).toList[i]? = some (.int .i64 n) := by simpa using h3
    rw [List.getElem?_eq_getElem hi2] at h4
    injection h4 with h4
    rw [h4]; rfl
  unfold Program.keyLits
  rw [Try.underlying67]
  simp only []
  rw [if_pos ⟨by rw [hs, k0], by kernel_rfl⟩]
  simp only [List.mapM_cons, List.mapM_nil, k1, k2, g 0 n0 rfl, g 1 n1 rfl, g 2 n2 rfl, g 3 n3 rfl, g 4 n4 rfl, g 5 n5 rfl, g 6 n6 rfl, g 7 n7 rfl, g 8 n8 rfl, e9, e26, r0, r1, r2, r3, r4, r5, r6, r7, r8, r9, r26]
  simp

/-- A head's numbers that a machine holds. -/
def Fits (ns : List Int) : Prop := ∀ n ∈ ns, -9223372036854775808 ≤ n ∧ n ≤ 9223372036854775807
theorem formed_head (ns : List Int) (a b : Int) (x y : List UInt8) (hn : ns.length = 9) (hx : x.length = 16) (hy : y.length = 16) : (Value.agg (HV ns a x b y)).formed Try.prog 67 = true := by
  unfold Value.formed
  rw [Try.underlying67]
  have k0 : Try.prog.cellsOf 67 = 43 := by kernel_rfl
  simp [k0, HV_size _ _ _ _ _ hx hy, hn]
theorem list9 {ns : List Int} (h : ns.length = 9) : ∃ a b c d e f g i j : Int, ns = [a, b, c, d, e, f, g, i, j] := by
  match ns, h with
  | [a, b, c, d, e, f, g, i, j], _ => exact ⟨a, b, c, d, e, f, g, i, j, rfl⟩
theorem eq_head (ns ms : List Int) (a b a' b' : Int) (x y x' y' : List UInt8) (hn : ns.length = 9) (hm : ms.length = 9) (hx : x.length = 16) (hy : y.length = 16) (hx' : x'.length = 16) (hy' : y'.length = 16)
    (h1 : Fits (ns ++ [a, b])) (h2 : Fits (ms ++ [a', b'])) (w : World) :
    (binOp .eql 67 (.agg (HV ns a x b y)) (.agg (HV ms a' x' b' y'))).run Try.prog w = .ok (.bool (ns == ms && a == a' && x == x' && b == b' && y == y')) w := by
  obtain ⟨n0, n1, n2, n3, n4, n5, n6, n7, n8, rfl⟩ := list9 hn
  obtain ⟨m0, m1, m2, m3, m4, m5, m6, m7, m8, rfl⟩ := list9 hm
  obtain ⟨r, hr, hi⟩ := run_equalIn_deep (P := Try.prog) 9996 4 67 (by kernel_rfl) w 4 4 (.agg (HV [n0, n1, n2, n3, n4, n5, n6, n7, n8] a x b y)) (.agg (HV [m0, m1, m2, m3, m4, m5, m6, m7, m8] a' x' b' y')) _ _ (formed_head _ _ _ _ _ rfl hx hy) (formed_head _ _ _ _ _ rfl hx' hy')
    (lits_head 0 n0 n1 n2 n3 n4 n5 n6 n7 n8 a b x y hx hy h1) (lits_head 0 m0 m1 m2 m3 m4 m5 m6 m7 m8 a' b' x' y' hx' hy' h2)
  rw [run_eql_struct, hr]
  show Result.ok (Value.bool r) w = _
  congr 2
  refine Bool.eq_iff_iff.2 (hi.trans ?_)
  have hl : (x.map LB).length = (x'.map LB).length := by simp [hx, hx']
  constructor
  · intro h
    injection h with e0 h; injection h with e1 h; injection h with e2 h; injection h with e3 h; injection h with e4 h; injection h with e5 h; injection h with e6 h; injection h with e7 h; injection h with e8 h
    injection e0 with _ e0; injection e1 with _ e1; injection e2 with _ e2; injection e3 with _ e3; injection e4 with _ e4; injection e5 with _ e5; injection e6 with _ e6; injection e7 with _ e7; injection e8 with _ e8
    have h' : (Lit.int .i64 a :: x.map LB) ++ (Lit.int .i64 b :: y.map LB) = (Lit.int .i64 a' :: x'.map LB) ++ (Lit.int .i64 b' :: y'.map LB) := h
    have hs := List.append_inj h' (by simp [hx, hx'])
    obtain ⟨g1, g2⟩ := hs
    injection g1 with ga gx
    injection g2 with gb gy
    injection ga with _ ga
    injection gb with _ gb
    simp [e0, e1, e2, e3, e4, e5, e6, e7, e8, ga, gb, LB_inj _ _ gx, LB_inj _ _ gy]
  · intro h
    simp only [Bool.and_eq_true, beq_iff_eq] at h
    obtain ⟨⟨⟨⟨h1, h2⟩, h3⟩, h4⟩, h5⟩ := h
    injection h1 with e0 h; injection h with e1 h; injection h with e2 h; injection h with e3 h; injection h with e4 h; injection h with e5 h; injection h with e6 h; injection h with e7 h; injection h with e8 h
    rw [e0, e1, e2, e3, e4, e5, e6, e7, e8, h2, h3, h4, h5]
end Go.Proofs.Ytkfjobanbnokoaa.Hd

set_option linter.unusedSimpArgs false
set_option linter.unusedVariables false
set_option maxRecDepth 100000
namespace Go.Proofs.Ytkfjobanbnokoaa.Mm
open Go.RowKit Go.Proofs.YtkfjobanbnokoaaW.PrintWords Go.Proofs.Ytkfjobanbnokoaa.Bs Go.Proofs.Ytkfjobanbnokoaa.Av Go.Proofs.Ytkfjobanbnokoaa.Ad Go.Proofs.Ytkfjobanbnokoaa.Hd

abbrev HMem (w0 w : World) (es : List Ent) : Prop := Hid (Mem w0 w es)
/-- So many cells as the type has, each of them one. -/
def Cells (t : TypeId) (vs : Array Value) : Prop := (Try.prog.info? t).map (·.size) = some vs.size ∧ vs.all (·.oneCell') = true
theorem cellsH (ns : List Int) (a : Int) (x : List UInt8) (b : Int) (y : List UInt8) (hn : ns.length = 9) (hx : x.length = 16) (hy : y.length = 16) : Cells 67 (HV ns a x b y) := ⟨info_HV ns a x b y hn hx hy, HV_one _ _ _ _ _⟩
theorem cellsZH : Cells 67 ZH := cellsH _ _ _ _ _ rfl rfl rfl
theorem cellsA (a : Int) (x : List UInt8) (hx : x.length = 16) : Cells 26 (AV [a] x) := ⟨info_AV a x hx, AV_one _ _⟩
theorem cellsZA : Cells 26 ZA := cellsA _ _ rfl
theorem run_loadI (W : World) (a : Addr) (v : Value) (hc : W.cell? a = some v) : (loadVar 3 a).run Try.prog W = .ok v W := by
  simp [loadVar, isAgg, run_underlying Try.underlying3, go_sem, hc]
theorem run_load8 (W : World) (a : Addr) (v : Value) (hc : W.cell? a = some v) : (loadVar 5 a).run Try.prog W = .ok v W := by
  simp [loadVar, isAgg, run_underlying Try.underlying5, go_sem, hc]
theorem run_storeI (W : World) (a : Addr) (n : Int) (v0 : Value) (hc : W.cell? a = some v0) (hf : W.frozen? a = false) : (storeVar 3 a (.int .i64 n)).run Try.prog W = .ok () (W.setCell a (.int .i64 n)) := by
  have hi : ∃ i, Try.prog.info? 3 = some i ∧ i.size = 1 := by
    have h : (Try.prog.info? 3).map (·.size) = some 1 := by kernel_rfl
    obtain ⟨i, hi, h⟩ := Option.map_eq_some_iff.1 h
    exact ⟨i, hi, h⟩
  obtain ⟨i, hi, h1⟩ := hi
  simp [storeVar, sizeOf, typeInfo, hi, h1, go_sem, hc, hf]
theorem add_zero (ad : Addr) : ad.add 0 = ad := by unfold Addr.add; simp
section
variable {ops : Array Oper} {rest : List Oper} {op : Oper} {a : Act} {Q : Exit → Act → World → Prop} {w0 w : World} {es es' : List Ent}
theorem m_alloc_ {t : TypeId} (ho : op.op = .alloc t) (hw : Region.wanted op (yielded ops a.tmps) = true) {cs : Array Value} (hz : ∀ W : World, (zeroValue t).run Try.prog W = .ok (.agg cs) W) (hc : Cells t cs) (HM : HMem w0 w es)
    (h : ∀ w1 b, HMem w0 w1 (.blk b cs t :: es) → Below w0.heap.size w0 w1 → wpList Try.prog ops Q rest (a.put op.dst (.pointer (some ⟨b, 0, none⟩))) w1) : wpList Try.prog ops Q (op :: rest) a w :=
  m_alloc ho hw hz hc.1 HM.out (fun w1 b hm => h w1 b (Lib.hid hm) hm.below)
theorem m_allocH (ho : op.op = .alloc 67) (hw : Region.wanted op (yielded ops a.tmps) = true) (HM : HMem w0 w es)
    (h : ∀ w1 b, HMem w0 w1 (.blk b ZH 67 :: es) → Below w0.heap.size w0 w1 → wpList Try.prog ops Q rest (a.put op.dst (.pointer (some ⟨b, 0, none⟩))) w1) : wpList Try.prog ops Q (op :: rest) a w := m_alloc_ ho hw zeroH cellsZH HM h
theorem m_allocA (ho : op.op = .alloc 26) (hw : Region.wanted op (yielded ops a.tmps) = true) (HM : HMem w0 w es)
    (h : ∀ w1 b, HMem w0 w1 (.blk b ZA 26 :: es) → Below w0.heap.size w0 w1 → wpList Try.prog ops Q rest (a.put op.dst (.pointer (some ⟨b, 0, none⟩))) w1) : wpList Try.prog ops Q (op :: rest) a w := m_alloc_ ho hw zeroA cellsZA HM h
theorem m_boxC {t : TypeId} {x : Operand} (ho : op.op = .box t x) (hw : Region.wanted op (yielded ops a.tmps) = true) {cs : Array Value} (hx : a.eval x = .agg cs) (hc : Cells t cs) (HM : HMem w0 w es)
    (h : ∀ w1 b, HMem w0 w1 (.blk b cs t :: es) → Below w0.heap.size w0 w1 → wpList Try.prog ops Q rest (a.put op.dst (.pointer (some ⟨b, 0, none⟩))) w1) : wpList Try.prog ops Q (op :: rest) a w :=
  m_box ho hw hx hc.1 HM.out (fun w1 b hm => h w1 b (Lib.hid hm) hm.below)
theorem step_buildW (hw : Region.wanted op (yielded ops a.tmps) = true) (t : TypeId) (ho : op.op = .build t #[]) (cs : Array Value)
    (hz : ∀ W : World, (Instr.build t #[]).run Try.prog W = .ok (.agg cs) W)
    (h : wpList Try.prog ops Q rest (a.put op.dst (.agg cs)) w) : wpList Try.prog ops Q (op :: rest) a w := by
  refine BigFrame.wpList_want hw fun K hK => ?_
  unfold Oper.wp
  simp [execOp, ho, hz, Result.andThen]
  exact hK _ _ h
theorem m_buildH0 (ho : op.op = .build 67 #[]) (hw : Region.wanted op (yielded ops a.tmps) = true) (h : wpList Try.prog ops Q rest (a.put op.dst (.agg ZH)) w) : wpList Try.prog ops Q (op :: rest) a w := step_buildW hw 67 ho ZH (fun W => by kernel_rfl) h
theorem m_buildA0 (ho : op.op = .build 26 #[]) (hw : Region.wanted op (yielded ops a.tmps) = true) (h : wpList Try.prog ops Q rest (a.put op.dst (.agg ZA)) w) : wpList Try.prog ops Q (op :: rest) a w := step_buildW hw 26 ho ZA (fun W => by kernel_rfl) h
theorem m_loadH {x : Operand} (ho : op.op = .load 67 x) (hw : Region.wanted op (yielded ops a.tmps) = true) {b : Nat} (hx : a.eval x = .pointer (some ⟨b, 0, none⟩)) (HM : HMem w0 w es) {cs : Array Value} (m : Ent.blk b cs 67 ∈ es)
    (h : wpList Try.prog ops Q rest (a.put op.dst (.agg cs)) w) : wpList Try.prog ops Q (op :: rest) a w := m_load ho hw hx HM.out m Try.underlying67 rfl h
theorem m_loadA {x : Operand} (ho : op.op = .load 26 x) (hw : Region.wanted op (yielded ops a.tmps) = true) {b : Nat} (hx : a.eval x = .pointer (some ⟨b, 0, none⟩)) (HM : HMem w0 w es) {cs : Array Value} (m : Ent.blk b cs 26 ∈ es)
    (h : wpList Try.prog ops Q rest (a.put op.dst (.agg cs)) w) : wpList Try.prog ops Q (op :: rest) a w := m_load ho hw hx HM.out m Try.underlying26 rfl h
/-- A head's own addresses. -/
theorem m_loadSrc {x : Operand} (ho : op.op = .load 26 x) (hw : Region.wanted op (yielded ops a.tmps) = true) {b : Nat} (hx : a.eval x = .pointer (some ⟨b, 9, none⟩)) (HM : HMem w0 w es) {ns : List Int} {p : Int} {u : List UInt8} {q : Int} {v : List UInt8} {T : TypeId} (m : Ent.blk b (HV ns p u q v) T ∈ es) (hn : ns.length = 9) (hu : u.length = 16)
    (h : wpList Try.prog ops Q rest (a.put op.dst (.agg (AV [p] u))) w) : wpList Try.prog ops Q (op :: rest) a w :=
  m_loadAt ho hw hx HM.out m (AV [p] u).toList (HV_src ns p u q v 9 hn.symm hu) Try.underlying26 rfl (by rw [Array.length_toList]; exact info_AV p u hu) (by simpa using h)
theorem m_loadDst {x : Operand} (ho : op.op = .load 26 x) (hw : Region.wanted op (yielded ops a.tmps) = true) {b : Nat} (hx : a.eval x = .pointer (some ⟨b, 26, none⟩)) (HM : HMem w0 w es) {ns : List Int} {p : Int} {u : List UInt8} {q : Int} {v : List UInt8} {T : TypeId} (m : Ent.blk b (HV ns p u q v) T ∈ es) (hn : ns.length = 9) (hu : u.length = 16) (hv : v.length = 16)
    (h : wpList Try.prog ops Q rest (a.put op.dst (.agg (AV [q] v))) w) : wpList Try.prog ops Q (op :: rest) a w :=
  m_loadAt ho hw hx HM.out m (AV [q] v).toList (HV_dst ns p u q v 26 (by rw [hn]) hu) Try.underlying26 rfl (by rw [Array.length_toList]; exact info_AV q v hv) (by simpa using h)
theorem m_storeC {t : TypeId} {x y : Operand} (ho : op.op = .store t x y) (hw : Region.wanted op (yielded ops a.tmps) = true) {b : Nat} (hx : a.eval x = .pointer (some ⟨b, 0, none⟩)) {vs : Array Value} (hy : a.eval y = .agg vs) (HM : HMem w0 w es) {cs : Array Value}
    (u : Upd (.blk b cs t) (.blk b vs t) es es') (hc : Cells t vs)
    (h : ∀ w1, HMem w0 w1 es' → Below w0.heap.size w0 w1 → wpList Try.prog ops Q rest (a.put op.dst undef) w1) : wpList Try.prog ops Q (op :: rest) a w :=
  m_store ho hw hx hy HM.out u hc.1 hc.2 (fun w1 hm => h w1 (Lib.hid hm) hm.below)
theorem m_int {x : Operand} (ho : op.op = .load 3 x) (hw : Region.wanted op (yielded ops a.tmps) = true) {b i : Nat} (hx : a.eval x = .pointer (some ⟨b, i, none⟩)) (HM : HMem w0 w es) {cs : Array Value} {T : TypeId} (m : Ent.blk b cs T ∈ es)
    {v : Value} (hv : cs[i]? = some v) (h : wpList Try.prog ops Q rest (a.put op.dst v) w) : wpList Try.prog ops Q (op :: rest) a w :=
  m_cell ho hw hx HM.out m hv (fun W hc => run_loadI W _ _ hc) h
theorem m_u8 {x : Operand} (ho : op.op = .load 5 x) (hw : Region.wanted op (yielded ops a.tmps) = true) {b i : Nat} (hx : a.eval x = .pointer (some ⟨b, i, none⟩)) (HM : HMem w0 w es) {cs : Array Value} {T : TypeId} (m : Ent.blk b cs T ∈ es)
    {v : Value} (hv : cs[i]? = some v) (h : wpList Try.prog ops Q rest (a.put op.dst v) w) : wpList Try.prog ops Q (op :: rest) a w :=
  m_cell ho hw hx HM.out m hv (fun W hc => run_load8 W _ _ hc) h
theorem m_putI {x y : Operand} (ho : op.op = .store 3 x y) (hw : Region.wanted op (yielded ops a.tmps) = true) {b i : Nat} (hx : a.eval x = .pointer (some ⟨b, i, none⟩)) {n : Int} (hy : a.eval y = .int .i64 n) (HM : HMem w0 w es) {cs cs' : Array Value} {T : TypeId}
    (u : Upd (.blk b cs T) (.blk b cs' T) es es') {v0 : Value} (hc0 : cs[i]? = some v0) (hc : cs.setIfInBounds i (.int .i64 n) = cs')
    (h : ∀ w1, HMem w0 w1 es' → Below w0.heap.size w0 w1 → wpList Try.prog ops Q rest (a.put op.dst undef) w1) : wpList Try.prog ops Q (op :: rest) a w :=
  m_put ho hw hx hy HM.out u hc0 hc (fun W h1 h2 => run_storeI W _ _ _ h1 h2) (fun w1 hm => h w1 (Lib.hid hm) hm.below)
end
section
variable {R : Ending → World → Prop} {fn : Func} {a : Act} {w0 w : World} {es : List Ent}
/-- The results: a block's cells; or these and one more value. -/
theorem m_ret_c {r : Tmp} {t : TypeId} (h : fn.results = #[.cell r t]) (hd : a.defers = []) {b : Nat} (ha : a.tmps.getD r undef = .pointer (some ⟨b, 0, none⟩)) (HM : HMem w0 w es) {cs : Array Value} (m : Ent.blk b cs t ∈ es)
    {d : TypeDesc} (hu : Try.prog.underlying t = some d) (hr : d.isRow = true) (hR : R (.returned (.agg cs)) w) : bodyPost Try.prog fn R .ret a w :=
  bodyPost_ret (results_c h _ _ _ b cs ha (load_block (HM.out.get m) t d hu hr (HM.out.size m))) hd hR
theorem m_ret_c1 {r p : Tmp} {t : TypeId} (h : fn.results = #[.cell r t, .tmp p]) (hd : a.defers = []) {b : Nat} (ha : a.tmps.getD r undef = .pointer (some ⟨b, 0, none⟩)) (HM : HMem w0 w es) {cs : Array Value} (m : Ent.blk b cs t ∈ es)
    {d : TypeDesc} (hu : Try.prog.underlying t = some d) (hr : d.isRow = true) (hR : R (.returned (.tuple #[.agg cs, a.tmps.getD p undef])) w) : bodyPost Try.prog fn R .ret a w :=
  bodyPost_ret (results_c1 h _ _ _ b cs ha (load_block (HM.out.get m) t d hu hr (HM.out.size m))) hd hR
end
end Go.Proofs.Ytkfjobanbnokoaa.Mm
namespace Go.Proofs.Ytkfjobanbnokoaa.Bs
open Go.RowKit Go.Proofs.YtkfjobanbnokoaaW.PrintWords Go.Proofs.Ytkfjobanbnokoaa.Mm
/-- A byte of a slice that came in, in whatever world of the call's. -/
theorem RB.byte {w0 : World} {ad : Addr} {c : Nat} {l : List UInt8} (h : RB w0 (.slice (some ad) l.length c) l) (k : Nat) (hk : k < l.length) : ∀ W : World, Below w0.heap.size w0 W → W.cell? (ad.add k) = some (.int .u8 ((l.getD k 0).toNat : Int)) := fun W hb => by
  obtain ⟨A', c', e, _, hr⟩ := h.below hb
  injection e with e1 e2 e3
  subst e1
  obtain ⟨ad2, e4, hc⟩ := reads_cell hr k hk
  injection e4 with e4
  subst e4
  exact hc
theorem RB.some {w : World} {A : Option Addr} {n c : Nat} {l : List UInt8} (h : RB w (.slice A n c) l) (hl : 0 < l.length) : ∃ ad, A = .some ad := by
  obtain ⟨A', c', e, _, hr⟩ := h
  injection e with e1 e2 e3
  subst e1
  obtain ⟨ad, e, _⟩ := hr.2.2 hl
  exact ⟨ad, e⟩
/-- 'b[k:h]', 'b[k:]' of a slice that is there. -/
theorem run_cut (ad : Addr) (n c : Nat) (lo hi : Int) (k m : Nat) (hk : lo = (k : Int)) (hh : hi = ((k + m : Nat) : Int)) (h2 : k + m ≤ c) (h3 : k < c) (W : World) :
    (Instr.slice 22 (.slice (.some ad) n c) (.some (.int .i64 lo)) (.some (.int .i64 hi)) none).run Try.prog W = .ok (.slice (.some (ad.add k)) m (c - k)) W := by
  subst hk hh
  obtain ⟨i8, hi8, hs8⟩ := info8'
  rw [run_slice_lh W 22 (.some ad) n c under8 .i64 .i64 (k : Int) ((k + m : Nat) : Int) (by omega) (by omega) (by omega), elem8]
  have e : ((k + m : Nat) : Int).toNat - k = m := by omega
  rw [Int.natCast_add] at e
  simp [sizeOf, typeInfo, hi8, hs8, sliced, Result.andThen, show ¬ c = k by omega, e]
theorem run_from (ad : Addr) (n c : Nat) (lo : Int) (k : Nat) (hk : lo = (k : Int)) (h2 : k ≤ n) (hc : n ≤ c) (h3 : k < c) (W : World) :
    (Instr.slice 22 (.slice (.some ad) n c) (.some (.int .i64 lo)) none none).run Try.prog W = .ok (.slice (.some (ad.add k)) (n - k) (c - k)) W := by
  subst hk
  obtain ⟨i8, hi8, hs8⟩ := info8'
  rw [run_slice_l W 22 (.some ad) n c under8 .i64 (k : Int) (by omega) (by omega), elem8]
  simp [sizeOf, typeInfo, hi8, hs8, sliced, Result.andThen, show ¬ c = k by omega]
/-- A part of a slice of bytes. -/
theorem RB.sub {w : World} {ad : Addr} {n c : Nat} {l : List UInt8} (h : RB w (.slice (.some ad) n c) l) (k m c' : Nat) (hk : k + m ≤ l.length) (hc : m ≤ c') : RB w (.slice (.some (ad.add k)) m c') ((l.drop k).take m) := by
  obtain ⟨A', c0, e, hc0, hr⟩ := h
  injection e with e1 e2 e3
  subst e1
  have e : ((l.drop k).take m).length = m := by simp; omega
  refine ⟨.some (ad.add k), c', by rw [e], by omega, rfl, by have := hr.2.1; omega, fun hp => ⟨_, rfl, fun j hj => ?_⟩⟩
  obtain ⟨ad2, e2, hcell⟩ := hr.2.2 (by omega)
  injection e2 with e2
  subst e2
  rw [add_add, hcell (k + j) (by omega)]
  congr 1
  simp [List.getD_eq_getElem?_getD, List.getElem?_take, List.getElem?_drop, show j < m by omega]
theorem RB.front {w : World} {ad : Addr} {n c : Nat} {l : List UInt8} (h : RB w (.slice (.some ad) n c) l) (m c' : Nat) (hk : m ≤ l.length) (hc : m ≤ c') : RB w (.slice (.some ad) m c') (l.take m) := by
  have := h.sub 0 m c' (by omega) hc
  rwa [add_zero, List.drop_zero] at this
end Go.Proofs.Ytkfjobanbnokoaa.Bs

set_option linter.unusedSimpArgs false
set_option linter.unusedVariables false
set_option maxRecDepth 100000
namespace Go.Proofs.Ytkfjobanbnokoaa.Mm
open Go.RowKit Go.Proofs.YtkfjobanbnokoaaW.PrintWords Go.Proofs.Ytkfjobanbnokoaa.Bs Go.Proofs.Ytkfjobanbnokoaa.Av Go.Proofs.Ytkfjobanbnokoaa.Ad Go.Proofs.Ytkfjobanbnokoaa.Hd

theorem wrapI {x : Int} (h0 : -9223372036854775808 ≤ x) (h1 : x ≤ 9223372036854775807) : IntKind.i64.wrap x = x := by rw [IntKind.wrap_i64]; omega
theorem tmodI {x y : Int} (h0 : 0 ≤ x) : x.tmod y = x % y := Int.tmod_eq_emod_of_nonneg h0
theorem tdivI {x y : Int} (h0 : 0 ≤ x) : x.tdiv y = x / y := Int.tdiv_eq_ediv_of_nonneg h0
/-- An array of bytes out of what came in. -/
theorem yields_arr {ops : Array Oper} {op : Oper} {a : Act} {w0 : World} {t : TypeId} {x : Operand} (ho : op.op = .load t x) {ad : Addr} {k : Nat} (hx : a.eval x = .pointer (some (ad.add k))) {l : List UInt8} {c : Nat} (HR : RB w0 (.slice (some ad) l.length c) l)
    (n : Nat) (hk : k ≠ 0) (hn : k + n ≤ l.length) (hu : Try.prog.underlying t = some (.array n 5)) (hi : (Try.prog.info? t).map (·.size) = some n) (S : World → Prop) (hS : ∀ w', S w' → Below w0.heap.size w0 w') (hw : Region.wanted op (yielded ops a.tmps) = true) :
    YieldsIf Try.prog ops S op (.agg (encs B ((l.drop k).take n)).toArray) a := by
  have hl : (encs B ((l.drop k).take n)).length = n := by rw [encs_length]; simp; omega
  refine yieldsIf_load_mid hw t x ho ad.block (ad.off + k) (by rw [hx, add_lit _ _ hk]) (encs B ((l.drop k).take n)) _ (fun w' hS' j v hv => ?_) hu rfl (by rw [hl]; exact hi)
  obtain ⟨hj, _⟩ := List.getElem?_eq_some_iff.1 hv
  rw [hl] at hj
  rw [encs_get (d := 0) _ j (by simp; omega)] at hv
  have h1 := HR.byte (k + j) (by omega) w' (hS w' hS')
  rw [add_lit _ _ (by omega)] at h1
  rw [← hv, Nat.add_assoc, h1]
  congr 1
  unfold B
  congr 2
  simp [List.getD_eq_getElem?_getD, List.getElem?_take, List.getElem?_drop, hj]

theorem yields_build {ops : Array Oper} {op : Oper} {a : Act} {S : World → Prop} {t : TypeId} {ps : Array (Nat × Operand)} (ho : op.op = .build t ps) (qs : Array (Nat × Value)) (hq : ps.toList.map (fun p => (p.1, a.eval p.2)) = qs.toList) {v : Value}
    (hz : ∀ W : World, (Instr.build t qs).run Try.prog W = .ok v W) (hw : Region.wanted op (yielded ops a.tmps) = true) : YieldsIf Try.prog ops S op v a :=
  .inl ⟨hw, fun w _ => by
    have hq2 : ps.map (fun p => (p.1, a.eval p.2)) = qs := Array.ext' (by rw [Array.toList_map]; exact hq)
    subst hq2
    have := hz w
    simp [execOp, ho, resolve, this, Result.andThen]⟩
theorem build_head (n0 n1 n2 n3 n4 n7 n8 p q : Int) (x y : List UInt8) (hx : x.length = 16) (hy : y.length = 16) (W : World) :
    (Instr.build 67 #[(0, .int .i64 n0), (1, .int .i64 n1), (2, .int .i64 n2), (3, .int .i64 n3), (4, .int .i64 n4), (7, .int .i64 n7), (8, .int .i64 n8), (9, .agg (AV [p] x)), (10, .agg (AV [q] y))]).run Try.prog W = .ok (.agg (HV [n0, n1, n2, n3, n4, 0, 0, n7, n8] p x q y)) W := by
  obtain ⟨x0, x1, x2, x3, x4, x5, x6, x7, x8, x9, xa, xb, xc, xd, xe, xf, rfl⟩ := list16 hx
  obtain ⟨y0, y1, y2, y3, y4, y5, y6, y7, y8, y9, ya, yb, yc, yd, ye, yf, rfl⟩ := list16 hy
  kernel_rfl
theorem build_head9 (n0 n1 n2 n3 n4 n5 n6 n7 n8 p q : Int) (x y : List UInt8) (hx : x.length = 16) (hy : y.length = 16) (W : World) :
    (Instr.build 67 #[(0, .int .i64 n0), (1, .int .i64 n1), (2, .int .i64 n2), (3, .int .i64 n3), (4, .int .i64 n4), (5, .int .i64 n5), (6, .int .i64 n6), (7, .int .i64 n7), (8, .int .i64 n8), (9, .agg (AV [p] x)), (10, .agg (AV [q] y))]).run Try.prog W = .ok (.agg (HV [n0, n1, n2, n3, n4, n5, n6, n7, n8] p x q y)) W := by
  obtain ⟨x0, x1, x2, x3, x4, x5, x6, x7, x8, x9, xa, xb, xc, xd, xe, xf, rfl⟩ := list16 hx
  obtain ⟨y0, y1, y2, y3, y4, y5, y6, y7, y8, y9, ya, yb, yc, yd, ye, yf, rfl⟩ := list16 hy
  kernel_rfl
theorem refOf16 (v : Value) (l : List UInt8) (w : World) (hr : RB w v l) (hl : l.length = 16) :
    Calls Try.prog 72 #[v] w fun e w' => e = .returned (.tuple #[.agg (AV [6] l), .bool true]) ∧ Below w.heap.size w w' := by
  have h := refOf_at16 v l w hr hl
  rwa [List.replicate_zero, List.append_nil] at h

section
variable {ops : Array Oper} {op : Oper} {a : Act} {K : Act → World → Prop} {Q : Exit → Act → World → Prop} {E : Prop} {w0 w : World} {es es' : List Ent}
theorem s_storeAt (hw : Region.wanted op (yielded ops a.tmps) = true) {t : TypeId} {x y : Operand} (ho : op.op = .store t x y) {b o : Nat} (hx : a.eval x = .pointer (some ⟨b, o, none⟩)) {vs : Array Value} (hy : a.eval y = .agg vs) (HM : HMem w0 w es) {cs cs' : Array Value} {T : TypeId}
    (u : Upd (.blk b cs T) (.blk b cs' T) es es') (hs : o + vs.size ≤ cs.size) (hc : cs' = (cs.toList.take o ++ vs.toList ++ cs.toList.drop (o + vs.size)).toArray) (hi : (Try.prog.info? t).map (·.size) = some vs.size) (h1 : vs.all (·.oneCell') = true)
    (h : ∀ w1, HMem w0 w1 es' → Below w0.heap.size w0 w1 → K (a.put op.dst undef) w1) : if Region.wanted op (yielded ops a.tmps) = true then Oper.wp Try.prog op a w K Q else E := by
  rw [if_pos hw]
  have hm := HM.out.part o vs.toList (by simpa using hs) (by simpa using hc) u
  exact wp_store_mid (P := Try.prog) t x y ho b o vs hx hy (fun j hj => ⟨by rw [blk_cell (HM.out.get u.mem)]; simp; omega, blk_frozen (HM.out.get u.mem) _⟩) hi h1 (h _ (Lib.hid hm) hm.below)
theorem s_src (hw : Region.wanted op (yielded ops a.tmps) = true) {x y : Operand} (ho : op.op = .store 26 x y) {b : Nat} (hx : a.eval x = .pointer (some ⟨b, 9, none⟩)) {p' : Int} {u' : List UInt8} (hy : a.eval y = .agg (AV [p'] u')) (HM : HMem w0 w es)
    {ns : List Int} {p : Int} {u : List UInt8} {q : Int} {v : List UInt8} (m : Upd (.blk b (HV ns p u q v) 67) (.blk b (HV ns p' u' q v) 67) es es') (hn : ns.length = 9) (hu : u.length = 16) (hv : v.length = 16) (hu' : u'.length = 16)
    (h : ∀ w1, HMem w0 w1 es' → Below w0.heap.size w0 w1 → K (a.put op.dst undef) w1) : if Region.wanted op (yielded ops a.tmps) = true then Oper.wp Try.prog op a w K Q else E :=
  s_storeAt hw ho hx hy HM m (by rw [AV_size, HV_size _ _ _ _ _ hu hv, hn, hu']; simp) (HV_setSrc ns p u q v p' u' 9 hn.symm hu hu') (info_AV _ _ hu') (AV_one _ _) h
theorem s_dst (hw : Region.wanted op (yielded ops a.tmps) = true) {x y : Operand} (ho : op.op = .store 26 x y) {b : Nat} (hx : a.eval x = .pointer (some ⟨b, 26, none⟩)) {p' : Int} {u' : List UInt8} (hy : a.eval y = .agg (AV [p'] u')) (HM : HMem w0 w es)
    {ns : List Int} {p : Int} {u : List UInt8} {q : Int} {v : List UInt8} (m : Upd (.blk b (HV ns p u q v) 67) (.blk b (HV ns p u p' u') 67) es es') (hn : ns.length = 9) (hu : u.length = 16) (hv : v.length = 16) (hu' : u'.length = 16)
    (h : ∀ w1, HMem w0 w1 es' → Below w0.heap.size w0 w1 → K (a.put op.dst undef) w1) : if Region.wanted op (yielded ops a.tmps) = true then Oper.wp Try.prog op a w K Q else E :=
  s_storeAt hw ho hx hy HM m (by rw [AV_size, HV_size _ _ _ _ _ hu hv, hn, hu']; simp) (HV_setDst ns p u q v p' u' 26 (by rw [hn]) hu hv hu') (info_AV _ _ hu') (AV_one _ _) h
theorem s_storeC (hw : Region.wanted op (yielded ops a.tmps) = true) {t : TypeId} {x y : Operand} (ho : op.op = .store t x y) {b : Nat} (hx : a.eval x = .pointer (some ⟨b, 0, none⟩)) {vs : Array Value} (hy : a.eval y = .agg vs) (HM : HMem w0 w es) {cs : Array Value}
    (u : Upd (.blk b cs t) (.blk b vs t) es es') (hc : Cells t vs)
    (h : ∀ w1, HMem w0 w1 es' → Below w0.heap.size w0 w1 → K (a.put op.dst undef) w1) : if Region.wanted op (yielded ops a.tmps) = true then Oper.wp Try.prog op a w K Q else E := by
  have hs : vs.size = cs.size := by
    have h1 := HM.out.size u.mem
    rw [hc.1] at h1
    injection h1
  rw [if_pos hw]
  have hm := HM.out.store hs u
  exact wp_store_mid (P := Try.prog) t x y ho b 0 vs hx hy (by rw [hs]; exact there_block (HM.out.get u.mem)) (by rw [hs]; exact HM.out.size u.mem) hc.2 (h _ (Lib.hid hm) hm.below)
theorem s_allocC (hw : Region.wanted op (yielded ops a.tmps) = true) {t : TypeId} (ho : op.op = .alloc t) {cs : Array Value} (hz : ∀ W : World, (zeroValue t).run Try.prog W = .ok (.agg cs) W) (hc : Cells t cs) (HM : HMem w0 w es)
    (h : ∀ w1 b, HMem w0 w1 (.blk b cs t :: es) → Below w0.heap.size w0 w1 → K (a.put op.dst (.pointer (some ⟨b, 0, none⟩))) w1) : if Region.wanted op (yielded ops a.tmps) = true then Oper.wp Try.prog op a w K Q else E := by
  rw [if_pos hw]
  unfold Oper.wp
  simp [execOp, ho, Instr.alloc, hz, newVar, newRow, Result.andThen, Value.cells]
  have hm := HM.out.alloc cs t hc.1
  exact h _ _ (Lib.hid hm) hm.below
/-- A whole load in a region that draws. -/
theorem yields_own {t : TypeId} {x : Operand} (ho : op.op = .load t x) {b : Nat} (hx : a.eval x = .pointer (some ⟨b, 0, none⟩)) {S : World → Prop} (hS : ∀ w', S w' → Mem w0 w' es) {cs : Array Value} (m : Ent.blk b cs t ∈ es)
    {d : TypeDesc} (hu : Try.prog.underlying t = some d) (hd : d.isRow = true) (hi : (Try.prog.info? t).map (·.size) = some cs.size) (hw : Region.wanted op (yielded ops a.tmps) = true) : YieldsIf Try.prog ops S op (.agg cs) a := by
  have h := yieldsIf_load_mid (P := Try.prog) hw t x ho b 0 hx cs.toList d (S := S) (fun w' h => range_block ((hS w' h).get m)) hu hd (by simpa using hi)
  simpa using h
theorem yields_at {t : TypeId} {x : Operand} (ho : op.op = .load t x) {b o : Nat} (hx : a.eval x = .pointer (some ⟨b, o, none⟩)) {S : World → Prop} (hS : ∀ w', S w' → Mem w0 w' es) {cs : Array Value} {T : TypeId} (m : Ent.blk b cs T ∈ es)
    (vs : Array Value) (hv : ∀ j v, vs.toList[j]? = some v → cs[o + j]? = some v) {d : TypeDesc} (hu : Try.prog.underlying t = some d) (hd : d.isRow = true) (hi : (Try.prog.info? t).map (·.size) = some vs.size) (hw : Region.wanted op (yielded ops a.tmps) = true) : YieldsIf Try.prog ops S op (.agg vs) a := by
  have h := yieldsIf_load_mid (P := Try.prog) hw t x ho b o hx vs.toList d (S := S) (fun w' h j v hj => (blk_cell ((hS w' h).get m) (o + j)).trans (hv j v hj)) hu hd (by simpa using hi)
  simpa using h
end
end Go.Proofs.Ytkfjobanbnokoaa.Mm

set_option linter.unusedSimpArgs false
set_option linter.unusedVariables false
set_option maxRecDepth 100000
namespace Go.Proofs.Ytkfjobanbnokoaa.Mm
open Go.RowKit Go.Proofs.YtkfjobanbnokoaaW.PrintWords Go.Proofs.Ytkfjobanbnokoaa.Bs Go.Proofs.Ytkfjobanbnokoaa.Co

theorem slices1 (a1 : Option Addr) (n1 c1 : Nat) (W : World) : (Instr.buildSlice 42 1 #[(0, .slice a1 n1 c1)]).run Try.prog W = .ok (.slice (some ⟨W.heap.size, 0, none⟩) 1 1) (W.alloc (.cells #[.slice a1 n1 c1] 22)) := by kernel_rfl
theorem slices2 (a1 a2 : Option Addr) (n1 c1 n2 c2 : Nat) (W : World) : (Instr.buildSlice 42 2 #[(0, .slice a1 n1 c1), (1, .slice a2 n2 c2)]).run Try.prog W = .ok (.slice (some ⟨W.heap.size, 0, none⟩) 2 2) (W.alloc (.cells #[.slice a1 n1 c1, .slice a2 n2 c2] 22)) := by kernel_rfl
theorem slices3 (a1 a2 a3 : Option Addr) (n1 c1 n2 c2 n3 c3 : Nat) (W : World) : (Instr.buildSlice 42 3 #[(0, .slice a1 n1 c1), (1, .slice a2 n2 c2), (2, .slice a3 n3 c3)]).run Try.prog W = .ok (.slice (some ⟨W.heap.size, 0, none⟩) 3 3) (W.alloc (.cells #[.slice a1 n1 c1, .slice a2 n2 c2, .slice a3 n3 c3] 22)) := by kernel_rfl
theorem slices4 (a1 a2 a3 a4 : Option Addr) (n1 c1 n2 c2 n3 c3 n4 c4 : Nat) (W : World) : (Instr.buildSlice 42 4 #[(0, .slice a1 n1 c1), (1, .slice a2 n2 c2), (2, .slice a3 n3 c3), (3, .slice a4 n4 c4)]).run Try.prog W = .ok (.slice (some ⟨W.heap.size, 0, none⟩) 4 4) (W.alloc (.cells #[.slice a1 n1 c1, .slice a2 n2 c2, .slice a3 n3 c3, .slice a4 n4 c4] 22)) := by kernel_rfl
section
variable {ops : Array Oper} {op : Oper} {a : Act} {K : Act → World → Prop} {Q : Exit → Act → World → Prop} {E : Prop} {w0 w : World} {es es' : List Ent}
theorem s_build (hw : Region.wanted op (yielded ops a.tmps) = true) {t : TypeId} {n : Nat} {ps : Array (Nat × Operand)} (ho : op.op = .buildSlice t n ps) {qs : Array (Nat × Value)} {cs : Array Value} {T : TypeId}
    (hz : ∀ W : World, (Instr.buildSlice t n qs).run Try.prog W = .ok (.slice (some ⟨W.heap.size, 0, none⟩) n n) (W.alloc (.cells cs T))) (hq : ps.toList.map (fun p => (p.1, a.eval p.2)) = qs.toList) (HM : HMem w0 w es)
    (h : ∀ w1 b, HMem w0 w1 (.raw b cs T :: es) → Below w0.heap.size w0 w1 → K (a.put op.dst (.slice (some ⟨b, 0, none⟩) n n)) w1) : if Region.wanted op (yielded ops a.tmps) = true then Oper.wp Try.prog op a w K Q else E := by
  rw [if_pos hw]
  have hq2 : ps.map (fun p => (p.1, a.eval p.2)) = qs := Array.ext' (by rw [Array.toList_map]; exact hq)
  subst hq2
  unfold Oper.wp
  have := hz w
  simp [execOp, ho, resolve, this, Result.andThen]
  have hm := HM.out.allocRaw cs T
  exact h _ _ (Lib.hid hm) hm.below
variable {rest : List Oper}
theorem m_build (hw : Region.wanted op (yielded ops a.tmps) = true) {t : TypeId} {n : Nat} {ps : Array (Nat × Operand)} (ho : op.op = .buildSlice t n ps) {qs : Array (Nat × Value)} {cs : Array Value} {T : TypeId}
    (hz : ∀ W : World, (Instr.buildSlice t n qs).run Try.prog W = .ok (.slice (some ⟨W.heap.size, 0, none⟩) n n) (W.alloc (.cells cs T))) (hq : ps.toList.map (fun p => (p.1, a.eval p.2)) = qs.toList) (HM : HMem w0 w es)
    (h : ∀ w1 b, HMem w0 w1 (.raw b cs T :: es) → Below w0.heap.size w0 w1 → wpList Try.prog ops Q rest (a.put op.dst (.slice (some ⟨b, 0, none⟩) n n)) w1) : wpList Try.prog ops Q (op :: rest) a w := by
  refine BigFrame.wpList_want hw fun K hK => ?_
  have h2 := s_build (K := K) (Q := Q) (E := True) hw ho hz hq HM (fun w1 b h1 h3 => hK _ _ (h w1 b h1 h3))
  rwa [if_pos hw] at h2
theorem s_slices1 {x1 : Operand} (ho : op.op = .buildSlice 42 1 #[(0, x1)]) (hw : Region.wanted op (yielded ops a.tmps) = true) {a1 : Option Addr} {n1 c1 : Nat} (h1 : a.eval x1 = .slice a1 n1 c1) (HM : HMem w0 w es)
    (h : ∀ w1 b, HMem w0 w1 (.raw b #[.slice a1 n1 c1] 22 :: es) → Below w0.heap.size w0 w1 → K (a.put op.dst (.slice (some ⟨b, 0, none⟩) 1 1)) w1) : if Region.wanted op (yielded ops a.tmps) = true then Oper.wp Try.prog op a w K Q else E :=
  s_build hw ho (slices1 a1 n1 c1) (by simp only [List.map_cons, List.map_nil, h1]) HM h
theorem m_slices1 {x1 : Operand} (ho : op.op = .buildSlice 42 1 #[(0, x1)]) (hw : Region.wanted op (yielded ops a.tmps) = true) {a1 : Option Addr} {n1 c1 : Nat} (h1 : a.eval x1 = .slice a1 n1 c1) (HM : HMem w0 w es)
    (h : ∀ w1 b, HMem w0 w1 (.raw b #[.slice a1 n1 c1] 22 :: es) → Below w0.heap.size w0 w1 → wpList Try.prog ops Q rest (a.put op.dst (.slice (some ⟨b, 0, none⟩) 1 1)) w1) : wpList Try.prog ops Q (op :: rest) a w :=
  m_build hw ho (slices1 a1 n1 c1) (by simp only [List.map_cons, List.map_nil, h1]) HM h
theorem s_slices2 {x1 x2 : Operand} (ho : op.op = .buildSlice 42 2 #[(0, x1), (1, x2)]) (hw : Region.wanted op (yielded ops a.tmps) = true) {a1 : Option Addr} {n1 c1 : Nat} (h1 : a.eval x1 = .slice a1 n1 c1) {a2 : Option Addr} {n2 c2 : Nat} (h2 : a.eval x2 = .slice a2 n2 c2) (HM : HMem w0 w es)
    (h : ∀ w1 b, HMem w0 w1 (.raw b #[.slice a1 n1 c1, .slice a2 n2 c2] 22 :: es) → Below w0.heap.size w0 w1 → K (a.put op.dst (.slice (some ⟨b, 0, none⟩) 2 2)) w1) : if Region.wanted op (yielded ops a.tmps) = true then Oper.wp Try.prog op a w K Q else E :=
  s_build hw ho (slices2 a1 a2 n1 c1 n2 c2) (by simp only [List.map_cons, List.map_nil, h1, h2]) HM h
theorem m_slices2 {x1 x2 : Operand} (ho : op.op = .buildSlice 42 2 #[(0, x1), (1, x2)]) (hw : Region.wanted op (yielded ops a.tmps) = true) {a1 : Option Addr} {n1 c1 : Nat} (h1 : a.eval x1 = .slice a1 n1 c1) {a2 : Option Addr} {n2 c2 : Nat} (h2 : a.eval x2 = .slice a2 n2 c2) (HM : HMem w0 w es)
    (h : ∀ w1 b, HMem w0 w1 (.raw b #[.slice a1 n1 c1, .slice a2 n2 c2] 22 :: es) → Below w0.heap.size w0 w1 → wpList Try.prog ops Q rest (a.put op.dst (.slice (some ⟨b, 0, none⟩) 2 2)) w1) : wpList Try.prog ops Q (op :: rest) a w :=
  m_build hw ho (slices2 a1 a2 n1 c1 n2 c2) (by simp only [List.map_cons, List.map_nil, h1, h2]) HM h
theorem s_slices3 {x1 x2 x3 : Operand} (ho : op.op = .buildSlice 42 3 #[(0, x1), (1, x2), (2, x3)]) (hw : Region.wanted op (yielded ops a.tmps) = true) {a1 : Option Addr} {n1 c1 : Nat} (h1 : a.eval x1 = .slice a1 n1 c1) {a2 : Option Addr} {n2 c2 : Nat} (h2 : a.eval x2 = .slice a2 n2 c2) {a3 : Option Addr} {n3 c3 : Nat} (h3 : a.eval x3 = .slice a3 n3 c3) (HM : HMem w0 w es)
    (h : ∀ w1 b, HMem w0 w1 (.raw b #[.slice a1 n1 c1, .slice a2 n2 c2, .slice a3 n3 c3] 22 :: es) → Below w0.heap.size w0 w1 → K (a.put op.dst (.slice (some ⟨b, 0, none⟩) 3 3)) w1) : if Region.wanted op (yielded ops a.tmps) = true then Oper.wp Try.prog op a w K Q else E :=
  s_build hw ho (slices3 a1 a2 a3 n1 c1 n2 c2 n3 c3) (by simp only [List.map_cons, List.map_nil, h1, h2, h3]) HM h
theorem m_slices3 {x1 x2 x3 : Operand} (ho : op.op = .buildSlice 42 3 #[(0, x1), (1, x2), (2, x3)]) (hw : Region.wanted op (yielded ops a.tmps) = true) {a1 : Option Addr} {n1 c1 : Nat} (h1 : a.eval x1 = .slice a1 n1 c1) {a2 : Option Addr} {n2 c2 : Nat} (h2 : a.eval x2 = .slice a2 n2 c2) {a3 : Option Addr} {n3 c3 : Nat} (h3 : a.eval x3 = .slice a3 n3 c3) (HM : HMem w0 w es)
    (h : ∀ w1 b, HMem w0 w1 (.raw b #[.slice a1 n1 c1, .slice a2 n2 c2, .slice a3 n3 c3] 22 :: es) → Below w0.heap.size w0 w1 → wpList Try.prog ops Q rest (a.put op.dst (.slice (some ⟨b, 0, none⟩) 3 3)) w1) : wpList Try.prog ops Q (op :: rest) a w :=
  m_build hw ho (slices3 a1 a2 a3 n1 c1 n2 c2 n3 c3) (by simp only [List.map_cons, List.map_nil, h1, h2, h3]) HM h
theorem s_slices4 {x1 x2 x3 x4 : Operand} (ho : op.op = .buildSlice 42 4 #[(0, x1), (1, x2), (2, x3), (3, x4)]) (hw : Region.wanted op (yielded ops a.tmps) = true) {a1 : Option Addr} {n1 c1 : Nat} (h1 : a.eval x1 = .slice a1 n1 c1) {a2 : Option Addr} {n2 c2 : Nat} (h2 : a.eval x2 = .slice a2 n2 c2) {a3 : Option Addr} {n3 c3 : Nat} (h3 : a.eval x3 = .slice a3 n3 c3) {a4 : Option Addr} {n4 c4 : Nat} (h4 : a.eval x4 = .slice a4 n4 c4) (HM : HMem w0 w es)
    (h : ∀ w1 b, HMem w0 w1 (.raw b #[.slice a1 n1 c1, .slice a2 n2 c2, .slice a3 n3 c3, .slice a4 n4 c4] 22 :: es) → Below w0.heap.size w0 w1 → K (a.put op.dst (.slice (some ⟨b, 0, none⟩) 4 4)) w1) : if Region.wanted op (yielded ops a.tmps) = true then Oper.wp Try.prog op a w K Q else E :=
  s_build hw ho (slices4 a1 a2 a3 a4 n1 c1 n2 c2 n3 c3 n4 c4) (by simp only [List.map_cons, List.map_nil, h1, h2, h3, h4]) HM h
theorem m_slices4 {x1 x2 x3 x4 : Operand} (ho : op.op = .buildSlice 42 4 #[(0, x1), (1, x2), (2, x3), (3, x4)]) (hw : Region.wanted op (yielded ops a.tmps) = true) {a1 : Option Addr} {n1 c1 : Nat} (h1 : a.eval x1 = .slice a1 n1 c1) {a2 : Option Addr} {n2 c2 : Nat} (h2 : a.eval x2 = .slice a2 n2 c2) {a3 : Option Addr} {n3 c3 : Nat} (h3 : a.eval x3 = .slice a3 n3 c3) {a4 : Option Addr} {n4 c4 : Nat} (h4 : a.eval x4 = .slice a4 n4 c4) (HM : HMem w0 w es)
    (h : ∀ w1 b, HMem w0 w1 (.raw b #[.slice a1 n1 c1, .slice a2 n2 c2, .slice a3 n3 c3, .slice a4 n4 c4] 22 :: es) → Below w0.heap.size w0 w1 → wpList Try.prog ops Q rest (a.put op.dst (.slice (some ⟨b, 0, none⟩) 4 4)) w1) : wpList Try.prog ops Q (op :: rest) a w :=
  m_build hw ho (slices4 a1 a2 a3 a4 n1 c1 n2 c2 n3 c3 n4 c4) (by simp only [List.map_cons, List.map_nil, h1, h2, h3, h4]) HM h
end
/-- A block of slices' values reads as lists. -/
theorem Mem.rbs {w0 w : World} {es : List Ent} (h : Mem w0 w es) {b : Nat} {vs : List Value} {T : TypeId} (m : Ent.raw b vs.toArray T ∈ es) {ls : List (List UInt8)} (hl : ls.length = vs.length) (h63 : ls.length ≤ 9223372036854775807) (hr : ∀ j, j < ls.length → RB w (vs.getD j undef) (ls.getD j [])) : RBS w (some ⟨b, 0, none⟩) ls :=
  RBS.block (h.getRaw m) hl h63 hr
theorem Mem.rbs1 {w0 w : World} {es : List Ent} (h : Mem w0 w es) {b : Nat} {v1 : Value} {T : TypeId} (m : Ent.raw b #[v1] T ∈ es) {l1 : List UInt8} (h1 : RB w v1 l1) : RBS w (some ⟨b, 0, none⟩) [l1] :=
  h.rbs (vs := [v1]) m rfl (by simp) (fun j hj => by
    match j, hj with
    | 0, _ => exact h1)
theorem Mem.rbs2 {w0 w : World} {es : List Ent} (h : Mem w0 w es) {b : Nat} {v1 v2 : Value} {T : TypeId} (m : Ent.raw b #[v1, v2] T ∈ es) {l1 l2 : List UInt8} (h1 : RB w v1 l1) (h2 : RB w v2 l2) : RBS w (some ⟨b, 0, none⟩) [l1, l2] :=
  h.rbs (vs := [v1, v2]) m rfl (by simp) (fun j hj => by
    match j, hj with
    | 0, _ => exact h1
    | 1, _ => exact h2)
theorem Mem.rbs3 {w0 w : World} {es : List Ent} (h : Mem w0 w es) {b : Nat} {v1 v2 v3 : Value} {T : TypeId} (m : Ent.raw b #[v1, v2, v3] T ∈ es) {l1 l2 l3 : List UInt8} (h1 : RB w v1 l1) (h2 : RB w v2 l2) (h3 : RB w v3 l3) : RBS w (some ⟨b, 0, none⟩) [l1, l2, l3] :=
  h.rbs (vs := [v1, v2, v3]) m rfl (by simp) (fun j hj => by
    match j, hj with
    | 0, _ => exact h1
    | 1, _ => exact h2
    | 2, _ => exact h3)
theorem Mem.rbs4 {w0 w : World} {es : List Ent} (h : Mem w0 w es) {b : Nat} {v1 v2 v3 v4 : Value} {T : TypeId} (m : Ent.raw b #[v1, v2, v3, v4] T ∈ es) {l1 l2 l3 l4 : List UInt8} (h1 : RB w v1 l1) (h2 : RB w v2 l2) (h3 : RB w v3 l3) (h4 : RB w v4 l4) : RBS w (some ⟨b, 0, none⟩) [l1, l2, l3, l4] :=
  h.rbs (vs := [v1, v2, v3, v4]) m rfl (by simp) (fun j hj => by
    match j, hj with
    | 0, _ => exact h1
    | 1, _ => exact h2
    | 2, _ => exact h3
    | 3, _ => exact h4)
end Go.Proofs.Ytkfjobanbnokoaa.Mm

set_option linter.unusedSimpArgs false
set_option linter.unusedVariables false
set_option maxRecDepth 100000
namespace Go.Proofs.Ytkfjobanbnokoaa.Mm
open Go.RowKit Go.Proofs.YtkfjobanbnokoaaW.PrintWords Go.Proofs.Ytkfjobanbnokoaa.Bs Go.Proofs.Ytkfjobanbnokoaa.Co

inductive Del (e : Ent) : List Ent → List Ent → Prop
  | head (r : List Ent) : Del e (e :: r) r
  | tail (x : Ent) {es r : List Ent} : Del e es r → Del e (x :: es) (x :: r)
theorem Del.perm {e : Ent} : ∀ {es r : List Ent}, Del e es r → es.Perm (e :: r)
  | _, _, .head r => List.Perm.refl _
  | _, _, .tail x h => (List.Perm.cons x h.perm).trans (List.Perm.swap e x _)
theorem Apart.symm {a b : Ent} (h : Apart a b) : Apart b a := fun k hb ha => h k ha hb
theorem Mem.perm {w0 w : World} {es es' : List Ent} (h : Mem w0 w es) (hp : es.Perm es') : Mem w0 w es' :=
  ⟨h.below, fun e he => h.all e (hp.mem_iff.2 he), (hp.pairwise_iff (fun h => Apart.symm h)).1 h.apart⟩
theorem Mem.swap {w0 w : World} {e f : Ent} {r : List Ent} (h : Mem w0 w (e :: f :: r)) : Mem w0 w (f :: e :: r) := h.perm (List.Perm.swap f e r)

section
variable {ops : Array Oper} {rest : List Oper} {op : Oper} {a : Act} {Q : Exit → Act → World → Prop} {w0 w : World} {es es' : List Ent}
/-- append(v, u...) on a row of the call's own. -/
theorem m_append (ho1 : op.guard = none) {s x : Operand} (ho : op.op = .call { callee := .builtin .append, args := #[s, x], argTypes := #[22, 22] }) {v u : Value} (hs : a.eval s = v) (hx : a.eval x = u) (HM : HMem w0 w es) {xs ys : List UInt8}
    (m : Del (.row v xs) es es') (HR : RB w u ys) {n : Nat} (hn : xs.length + ys.length = n) (hl : n ≤ 140737488355328)
    (h : ∀ w1 A1 c1, HMem w0 w1 (.row (.slice A1 n c1) (xs ++ ys) :: es') → Below w0.heap.size w0 w1 → wpList Try.prog ops Q rest (a.put op.dst (.slice A1 n c1)) w1) : wpList Try.prog ops Q (op :: rest) a w := by
  subst hn
  have hm := HM.out.perm m.perm
  refine append_bytes (w0 := w0) w0.heap.size ho1 s x ho v u xs ys hs hx (hm.ob (List.mem_cons_self ..)) HR HM.out.below HM.out.below.size hl (fun v1 w1 ho hb hg hown => ?_)
  have hm1 : Mem w0 w1 (.row v1 (xs ++ ys) :: es') := hm.turn (Upd.head _) hg ho (fun k hk => by
    rcases hown with e | ⟨b, e, hb⟩
    · exact .inl (by rw [← hk]; exact e.symm)
    · refine .inr ?_
      have : v1.ownBlock = some k := hk
      rw [e] at this
      injection this with this
      omega)
  obtain ⟨A1, c1, rfl, _⟩ := (hm1.rb (List.mem_cons_self ..))
  rw [List.length_append] at hm1
  rw [List.length_append]
  exact h w1 A1 c1 (Lib.hid hm1) hm1.below
/-- A literal of bytes. -/
theorem m_lit (hw : Region.wanted op (yielded ops a.tmps) = true) {n : Nat} {ps : Array (Nat × Operand)} (ho : op.op = .buildSlice 22 n ps) {qs : Array (Nat × Value)} {cs : Array Value} (l : List UInt8) (hl : l.length = n) (hn : n ≤ 1000) (hcs : (encs B l).toArray = cs)
    (hz : ∀ W : World, (Instr.buildSlice 22 n qs).run Try.prog W = .ok (.slice (some ⟨W.heap.size, 0, none⟩) n n) (W.alloc (.cells cs 5))) (hq : ps.toList.map (fun p => (p.1, a.eval p.2)) = qs.toList) (HM : HMem w0 w es)
    (h : ∀ w1 b, HMem w0 w1 (.row (.slice (some ⟨b, 0, none⟩) n n) l :: es) → Below w0.heap.size w0 w1 → wpList Try.prog ops Q rest (a.put op.dst (.slice (some ⟨b, 0, none⟩) n n)) w1) : wpList Try.prog ops Q (op :: rest) a w := by
  refine BigFrame.wpList_want hw fun K hK => ?_
  have hq2 : ps.map (fun p => (p.1, a.eval p.2)) = qs := Array.ext' (by rw [Array.toList_map]; exact hq)
  subst hq2
  unfold Oper.wp
  have := hz w
  simp [execOp, ho, resolve, this, Result.andThen]
  have hm : Mem w0 (w.alloc (.cells cs 5)) (.row (.slice (some ⟨w.heap.size, 0, none⟩) n n) l :: es) := by
    refine HM.out.row (below_alloc (Below.refl _ _) _) ?_
    have h2 := OB.lit w w.heap.size l (Nat.le_refl _) (by omega)
    rw [hcs, hl] at h2
    exact h2
  exact hK _ _ (h _ _ (Lib.hid hm) hm.below)
end
theorem bytes8 (x0 x1 x2 x3 x4 x5 x6 x7 : Int) (W : World) : (Instr.buildSlice 22 8 #[(0, .int .u8 x0), (1, .int .u8 x1), (2, .int .u8 x2), (3, .int .u8 x3), (4, .int .u8 x4), (5, .int .u8 x5), (6, .int .u8 x6), (7, .int .u8 x7)]).run Try.prog W = .ok (.slice (some ⟨W.heap.size, 0, none⟩) 8 8) (W.alloc (.cells #[.int .u8 x0, .int .u8 x1, .int .u8 x2, .int .u8 x3, .int .u8 x4, .int .u8 x5, .int .u8 x6, .int .u8 x7] 5)) := by kernel_rfl
theorem bytes12 (x0 x1 x2 x3 x4 x5 x6 x7 x8 x9 x10 x11 : Int) (W : World) : (Instr.buildSlice 22 12 #[(0, .int .u8 x0), (1, .int .u8 x1), (2, .int .u8 x2), (3, .int .u8 x3), (4, .int .u8 x4), (5, .int .u8 x5), (6, .int .u8 x6), (7, .int .u8 x7), (8, .int .u8 x8), (9, .int .u8 x9), (10, .int .u8 x10), (11, .int .u8 x11)]).run Try.prog W = .ok (.slice (some ⟨W.heap.size, 0, none⟩) 12 12) (W.alloc (.cells #[.int .u8 x0, .int .u8 x1, .int .u8 x2, .int .u8 x3, .int .u8 x4, .int .u8 x5, .int .u8 x6, .int .u8 x7, .int .u8 x8, .int .u8 x9, .int .u8 x10, .int .u8 x11] 5)) := by kernel_rfl
theorem B_ofNat (n : Nat) (h : n < 256) : B (UInt8.ofNat n) = .int .u8 (n : Int) := (B_nat n h).symm
end Go.Proofs.Ytkfjobanbnokoaa.Mm

set_option linter.unusedSimpArgs false
set_option linter.unusedVariables false
set_option maxRecDepth 100000
namespace Go.Proofs.Ytkfjobanbnokoaa.Mm
open Go.RowKit Go.Proofs.YtkfjobanbnokoaaW.PrintWords Go.Proofs.Ytkfjobanbnokoaa.Bs Go.Proofs.Ytkfjobanbnokoaa.Co Go.Proofs.Ytkfjobanbnokoaa.Hd Go.Proofs.Ytkfjobanbnokoaa.Av Go.Proofs.Ytkfjobanbnokoaa.Ad

section
variable {ops : Array Oper} {rest : List Oper} {op : Oper} {a : Act} {Q : Exit → Act → World → Prop} {w : World}
/-- Gates: which kind of operation stands next. -/
theorem g_load {t : TypeId} {x : Operand} (_ho : op.op = .load t x) (h : wpList Try.prog ops Q (op :: rest) a w) : wpList Try.prog ops Q (op :: rest) a w := h
theorem g_store {t : TypeId} {x y : Operand} (_ho : op.op = .store t x y) (h : wpList Try.prog ops Q (op :: rest) a w) : wpList Try.prog ops Q (op :: rest) a w := h
theorem g_alloc {t : TypeId} (_ho : op.op = .alloc t) (h : wpList Try.prog ops Q (op :: rest) a w) : wpList Try.prog ops Q (op :: rest) a w := h
theorem g_box {t : TypeId} {x : Operand} (_ho : op.op = .box t x) (h : wpList Try.prog ops Q (op :: rest) a w) : wpList Try.prog ops Q (op :: rest) a w := h
theorem g_build {t : TypeId} {ps : Array (Nat × Operand)} (_ho : op.op = .build t ps) (h : wpList Try.prog ops Q (op :: rest) a w) : wpList Try.prog ops Q (op :: rest) a w := h
theorem g_buildSlice {t : TypeId} {n : Nat} {ps : Array (Nat × Operand)} (_ho : op.op = .buildSlice t n ps) (h : wpList Try.prog ops Q (op :: rest) a w) : wpList Try.prog ops Q (op :: rest) a w := h
theorem g_builtin {b : Builtin} {xs : Array Operand} {ts : Array TypeId} (_ho : op.op = .call { callee := .builtin b, args := xs, argTypes := ts }) (h : wpList Try.prog ops Q (op :: rest) a w) : wpList Try.prog ops Q (op :: rest) a w := h
theorem g_eql {t u : TypeId} {x y : Operand} (_ho : op.op = .binOp .eql t x y u) (h : wpList Try.prog ops Q (op :: rest) a w) : wpList Try.prog ops Q (op :: rest) a w := h
theorem g_neq {t u : TypeId} {x y : Operand} (_ho : op.op = .binOp .neq t x y u) (h : wpList Try.prog ops Q (op :: rest) a w) : wpList Try.prog ops Q (op :: rest) a w := h
end
/-- A composite literal's value. -/
def Built (t : TypeId) (qs : Array (Nat × Value)) (v : Value) : Prop := ∀ W : World, (Instr.build t qs).run Try.prog W = .ok v W
/-- A literal of bytes: what its cells are, and its run. -/
def LitOf (n : Nat) (qs : Array (Nat × Value)) (l : List UInt8) : Prop := l.length = n ∧ n ≤ 1000 ∧ ∀ W : World, (Instr.buildSlice 22 n qs).run Try.prog W = .ok (.slice (some ⟨W.heap.size, 0, none⟩) n n) (W.alloc (.cells (encs B l).toArray 5))
/-- What '==' says of two structs' values. -/
def EqlOf (t : TypeId) (vx vy : Array Value) (r : Bool) : Prop := ∀ W : World, (binOp .eql t (.agg vx) (.agg vy)).run Try.prog W = .ok (.bool r) W
theorem run_neq_of {t : TypeId} {vx vy : Array Value} {r : Bool} (h : EqlOf t vx vy r) (W : World) : (binOp .neq t (.agg vx) (.agg vy)).run Try.prog W = .ok (.bool (!r)) W := by
  have h1 := h W
  simp only [binOp, Sem.run_bind] at h1 ⊢
  cases hq : (Op.equal t (.agg vx) (.agg vy)).run Try.prog W with
  | ok b w' =>
    rw [hq] at h1
    simp [Result.andThen] at h1 ⊢
    exact ⟨by rw [h1.1], h1.2⟩
  | halt e w' => rw [hq] at h1; simp [Result.andThen] at h1
section
variable {ops : Array Oper} {rest : List Oper} {op : Oper} {a : Act} {Q : Exit → Act → World → Prop} {w0 w : World} {es es' : List Ent}
theorem m_buildV {t : TypeId} {ps : Array (Nat × Operand)} (ho : op.op = .build t ps) (hw : Region.wanted op (yielded ops a.tmps) = true) {qs : Array (Nat × Value)} {v : Value} (hz : Built t qs v) (hq : ps.toList.map (fun p => (p.1, a.eval p.2)) = qs.toList)
    (h : wpList Try.prog ops Q rest (a.put op.dst v) w) : wpList Try.prog ops Q (op :: rest) a w := by
  refine BigFrame.wpList_want hw fun K hK => ?_
  have hq2 : ps.map (fun p => (p.1, a.eval p.2)) = qs := Array.ext' (by rw [Array.toList_map]; exact hq)
  subst hq2
  unfold Oper.wp
  have := hz w
  simp [execOp, ho, resolve, this, Result.andThen]
  exact hK _ _ h
theorem m_litV {n : Nat} {ps : Array (Nat × Operand)} (ho : op.op = .buildSlice 22 n ps) (hw : Region.wanted op (yielded ops a.tmps) = true) {qs : Array (Nat × Value)} {l : List UInt8} (hL : LitOf n qs l) (hq : ps.toList.map (fun p => (p.1, a.eval p.2)) = qs.toList) (HM : HMem w0 w es)
    (h : ∀ w1 b, HMem w0 w1 (.row (.slice (some ⟨b, 0, none⟩) n n) l :: es) → Below w0.heap.size w0 w1 → wpList Try.prog ops Q rest (a.put op.dst (.slice (some ⟨b, 0, none⟩) n n)) w1) : wpList Try.prog ops Q (op :: rest) a w :=
  m_lit hw ho l hL.1 hL.2.1 rfl hL.2.2 hq HM h
theorem m_eqV {t u : TypeId} {x y : Operand} (ho : op.op = .binOp .eql t x y u) (hw : Region.wanted op (yielded ops a.tmps) = true) {vx vy : Array Value} (hx : a.eval x = .agg vx) (hy : a.eval y = .agg vy) {r : Bool} (he : EqlOf t vx vy r) (hgt : Try.prog.eqGuardType Try.prog.depth t = false)
    (h : wpList Try.prog ops Q rest (a.put op.dst (.bool r)) w) : wpList Try.prog ops Q (op :: rest) a w := by
  refine BigFrame.wpList_want hw fun K hK => ?_
  unfold Oper.wp
  have := he w
  have hg : (eqGuard .eql t x y (.agg vx) (.agg vy)).run Try.prog w = .ok () w := by simp [eqGuard, hgt]
  simp [execOp, ho, resolve, hx, hy, hg, this, Result.andThen]
  exact hK _ _ h
theorem m_neV {t u : TypeId} {x y : Operand} (ho : op.op = .binOp .neq t x y u) (hw : Region.wanted op (yielded ops a.tmps) = true) {vx vy : Array Value} (hx : a.eval x = .agg vx) (hy : a.eval y = .agg vy) {r : Bool} (he : EqlOf t vx vy r) (hgt : Try.prog.eqGuardType Try.prog.depth t = false)
    (h : wpList Try.prog ops Q rest (a.put op.dst (.bool (!r))) w) : wpList Try.prog ops Q (op :: rest) a w := by
  refine BigFrame.wpList_want hw fun K hK => ?_
  unfold Oper.wp
  have := run_neq_of he w
  have hg : (eqGuard .neq t x y (.agg vx) (.agg vy)).run Try.prog w = .ok () w := by simp [eqGuard, hgt]
  simp [execOp, ho, resolve, hx, hy, hg, this, Result.andThen]
  exact hK _ _ h
end
section
variable {ops : Array Oper} {op : Oper} {a : Act} {K : Act → World → Prop} {Q : Exit → Act → World → Prop} {E : Prop} {w0 w : World} {es es' : List Ent}
theorem s_putI (hw : Region.wanted op (yielded ops a.tmps) = true) {x y : Operand} (ho : op.op = .store 3 x y) {b i : Nat} (hx : a.eval x = .pointer (some ⟨b, i, none⟩)) {n : Int} (hy : a.eval y = .int .i64 n) (HM : HMem w0 w es) {cs cs' : Array Value} {T : TypeId}
    (u : Upd (.blk b cs T) (.blk b cs' T) es es') {v0 : Value} (hc0 : cs[i]? = some v0) (hc : cs.setIfInBounds i (.int .i64 n) = cs')
    (h : ∀ w1, HMem w0 w1 es' → Below w0.heap.size w0 w1 → K (a.put op.dst undef) w1) : if Region.wanted op (yielded ops a.tmps) = true then Oper.wp Try.prog op a w K Q else E := by
  rw [if_pos hw]
  unfold Oper.wp
  have hrun := run_storeI w ⟨b, i, none⟩ n v0 ((blk_cell (HM.out.get u.mem) i).trans hc0) (blk_frozen (HM.out.get u.mem) i)
  simp [execOp, ho, hx, hy, Instr.storeAt, Instr.sureAddr, hrun, Result.andThen]
  have hm := HM.out.cell i (.int .i64 n) hc u
  exact h _ (Lib.hid hm) hm.below
end
theorem built_six (l : List UInt8) (h : l.length = 16) : Built 26 #[(0, .int .i64 6), (1, .agg (encs B l).toArray)] (.agg (AV [6] l)) := buildSix l h
theorem built_four (l : List UInt8) (h : l.length = 16) : Built 26 #[(0, .int .i64 4), (1, .agg (encs B l).toArray)] (.agg (AV [4] l)) := fun W => by
  obtain ⟨a, b, c, d, e, f, g, h, i, j, k, m, n, o, p, q, rfl⟩ := list16 h
  kernel_rfl
theorem built_zero4 : Built 26 #[(0, .int .i64 4)] (.agg (AV [4] (List.replicate 16 0))) := buildFour
theorem built_zero6 : Built 26 #[(0, .int .i64 6)] (.agg (AV [6] (List.replicate 16 0))) := fun W => by kernel_rfl
theorem built_ends (p q : Int) (x y : List UInt8) (hx : x.length = 16) (hy : y.length = 16) : Built 67 #[(9, .agg (AV [p] x)), (10, .agg (AV [q] y))] (.agg (HV [0, 0, 0, 0, 0, 0, 0, 0, 0] p x q y)) := fun W => by
  obtain ⟨x0, x1, x2, x3, x4, x5, x6, x7, x8, x9, xa, xb, xc, xd, xe, xf, rfl⟩ := list16 hx
  obtain ⟨y0, y1, y2, y3, y4, y5, y6, y7, y8, y9, ya, yb, yc, yd, ye, yf, rfl⟩ := list16 hy
  kernel_rfl
theorem eql_head_self (ns : List Int) (a b : Int) (x y : List UInt8) (hn : ns.length = 9) (hx : x.length = 16) (hy : y.length = 16) (h : Fits (ns ++ [a, b])) : EqlOf 67 (HV ns a x b y) (HV ns a x b y) true := fun W => by
  rw [eq_head ns ns a b a b x y x y hn hn hx hy hx hy h h W]
  simp
end Go.Proofs.Ytkfjobanbnokoaa.Mm

set_option linter.unusedSimpArgs false
set_option linter.unusedVariables false
set_option maxRecDepth 100000
namespace Go.Proofs.Ytkfjobanbnokoaa.Mm
open Go.RowKit Go.Proofs.YtkfjobanbnokoaaW.PrintWords Go.Proofs.Ytkfjobanbnokoaa.Bs Go.Proofs.Ytkfjobanbnokoaa.Co

theorem run_store8 (W : World) (a : Addr) (n : Int) (v0 : Value) (hc : W.cell? a = some v0) (hf : W.frozen? a = false) : (storeVar 5 a (.int .u8 n)).run Try.prog W = .ok () (W.setCell a (.int .u8 n)) := by
  have hi : ∃ i, Try.prog.info? 5 = some i ∧ i.size = 1 := by
    have h : (Try.prog.info? 5).map (·.size) = some 1 := by kernel_rfl
    obtain ⟨i, hi, h⟩ := Option.map_eq_some_iff.1 h
    exact ⟨i, hi, h⟩
  obtain ⟨i, hi, h1⟩ := hi
  simp [storeVar, sizeOf, typeInfo, hi, h1, go_sem, hc, hf]
theorem Mem.putRow {w0 w : World} {es es' : List Ent} (h : Mem w0 w es) {g k cap j : Nat} {l : List UInt8} {n : Int} (h0 : 0 ≤ n) (h1 : n < 256) (u : Upd (.row (.slice (some ⟨g, 0, none⟩) k cap) l) (.row (.slice (some ⟨g, 0, none⟩) k cap) (l.set j (UInt8.ofNat n.toNat))) es es') : Mem w0 (w.setCell ⟨g, j, none⟩ (.int .u8 n)) es' :=
  h.turn u (grown_set w g j _) ((h.ob u.mem).store j n h0 h1) (fun k hk => .inl hk)
section
variable {ops : Array Oper} {rest : List Oper} {op : Oper} {a : Act} {Q : Exit → Act → World → Prop} {w0 w : World} {es es' : List Ent}
theorem m_putRow {x y : Operand} (ho : op.op = .store 5 x y) (hw : Region.wanted op (yielded ops a.tmps) = true) {g j : Nat} (hx : a.eval x = .pointer (some ⟨g, j, none⟩)) {n : Int} (hy : a.eval y = .int .u8 n) (HM : HMem w0 w es) {k cap : Nat} {l : List UInt8}
    (u : Upd (.row (.slice (some ⟨g, 0, none⟩) k cap) l) (.row (.slice (some ⟨g, 0, none⟩) k cap) (l.set j (UInt8.ofNat n.toNat))) es es') (hj : decide (j < k) = true) (hn : 0 ≤ n ∧ n < 256)
    (h : ∀ w1, HMem w0 w1 es' → Below w0.heap.size w0 w1 → wpList Try.prog ops Q rest (a.put op.dst undef) w1) : wpList Try.prog ops Q (op :: rest) a w := by
  refine BigFrame.wpList_want hw fun K hK => ?_
  unfold Oper.wp
  have hob := HM.out.ob u.mem
  have hat := hob.at_ j (by have := of_decide_eq_true hj; rw [← hob.size]; exact this)
  have hrun := run_store8 w ⟨g, j, none⟩ n _ hat.1 hat.2
  simp [execOp, ho, hx, hy, Instr.storeAt, Instr.sureAddr, hrun, Result.andThen]
  have hm := HM.out.putRow hn.1 hn.2 u
  exact hK _ _ (h _ (Lib.hid hm) hm.below)
end
theorem Mem.form {w0 w : World} {es : List Ent} (h : Mem w0 w es) {v : Value} {l : List UInt8} (m : Ent.row v l ∈ es) (hp : 0 < l.length) : ∃ g cap, v = .slice (some ⟨g, 0, none⟩) l.length cap ∧ l.length ≤ cap := by
  obtain ⟨g, cap, e, _, _, hc⟩ := (h.ob m).form hp
  exact ⟨g, cap, e, hc⟩
theorem i64_join (h l k : Nat) (hl : l < 2 ^ k) (hs : h * 2 ^ k + l < 9223372036854775808) : bits .or .i64 ((h * 2 ^ k : Nat) : Int) (l : Int) = ((h * 2 ^ k + l : Nat) : Int) := by
  have hh : h * 2 ^ k < 2 ^ 63 := by omega
  have hl2 : l < 2 ^ 63 := by omega
  rw [bits_join .i64 63 (by decide) (fun n h0 h1 => by rw [IntKind.wrap_i64]; omega) k _ _ (by omega) (by exact_mod_cast Nat.mul_mod_left h (2 ^ k)) (by exact_mod_cast hh) (by omega) (by exact_mod_cast hl) (by exact_mod_cast hl2)]
  omega
end Go.Proofs.Ytkfjobanbnokoaa.Mm

set_option linter.unusedSimpArgs false
set_option linter.unusedVariables false
set_option maxRecDepth 100000
namespace Go.Proofs.Ytkfjobanbnokoaa.Mm
open Go.RowKit Go.Proofs.YtkfjobanbnokoaaW.PrintWords Go.Proofs.Ytkfjobanbnokoaa.Bs Go.Proofs.Ytkfjobanbnokoaa.Co Go.Proofs.Ytkfjobanbnokoaa.Hd Go.Proofs.Ytkfjobanbnokoaa.Av Go.Proofs.Ytkfjobanbnokoaa.Ad

/-- 'b[:h]' of a slice that is there. -/
theorem run_to (ad : Addr) (n c : Nat) (hi : Int) (m : Nat) (hh : hi = (m : Int)) (h2 : m ≤ c) (h3 : 0 < c) (W : World) :
    (Instr.slice 22 (.slice (.some ad) n c) none (.some (.int .i64 hi)) none).run Try.prog W = .ok (.slice (.some ad) m c) W := by
  subst hh
  obtain ⟨i8, hi8, hs8⟩ := info8'
  rw [run_slice_h W 22 (.some ad) n c under8 .i64 (m : Int) (by omega) (by omega), elem8]
  simp [sizeOf, typeInfo, hi8, hs8, sliced, Result.andThen, show ¬ c = 0 by omega, add_zero]
/-- An operation that leaves the world as it is, and what it hands over. -/
structure Rd (w0 : World) (es : List Ent) (op : Oper) (a : Act) (v : Value) : Prop where
  run : ∀ (w : World) (K : Act → World → Prop) (Q : Exit → Act → World → Prop), Mem w0 w es → K (a.put op.dst v) w → Oper.wp Try.prog op a w K Q
/-- An operation that turns what the call owns. -/
structure Wr (w0 : World) (es : List Ent) (op : Oper) (a : Act) (v : Nat → Value) (es' : Nat → List Ent) : Prop where
  run : ∀ (w : World) (K : Act → World → Prop) (Q : Exit → Act → World → Prop), Mem w0 w es → (∀ w1 b, Mem w0 w1 (es' b) → K (a.put op.dst (v b)) w1) → Oper.wp Try.prog op a w K Q
theorem run_load1 {t : TypeId} (hu : (Try.prog.underlying t).map (·.isRow) = some false) (W : World) (a : Addr) (v : Value) (hc : W.cell? a = some v) : (loadVar t a).run Try.prog W = .ok v W := by
  obtain ⟨d, hd, hr⟩ := Option.map_eq_some_iff.1 hu
  cases d <;> first | (simp [TypeDesc.isRow] at hr; done) | simp [loadVar, isAgg, run_underlying hd, go_sem, hc]
section
variable {w0 : World} {es es' : List Ent} {op : Oper} {a : Act}
theorem Rd.cell {t : TypeId} {x : Operand} (ho : op.op = .load t x) (hu : (Try.prog.underlying t).map (·.isRow) = some false) {b i : Nat} (hx : a.eval x = .pointer (some ⟨b, i, none⟩)) {cs : Array Value} {T : TypeId} (m : Ent.blk b cs T ∈ es) {v : Value} (hv : cs[i]? = some v) : Rd w0 es op a v := .mk fun w K Q HM hK => by
  unfold Oper.wp
  have hrun := run_load1 hu w _ v ((blk_cell (HM.get m) i).trans hv)
  simp [execOp, ho, hx, Instr.loadAt, Instr.sureAddr, hrun, Result.andThen]
  exact hK
theorem Rd.int {x : Operand} (ho : op.op = .load 3 x) {b i : Nat} (hx : a.eval x = .pointer (some ⟨b, i, none⟩)) {cs : Array Value} {T : TypeId} (m : Ent.blk b cs T ∈ es) {v : Value} (hv : cs[i]? = some v) : Rd w0 es op a v := Rd.cell ho (by kernel_rfl) hx m hv
theorem Rd.whole {t : TypeId} {x : Operand} (ho : op.op = .load t x) (hu : (Try.prog.underlying t).map (·.isRow) = some true) {b : Nat} (hx : a.eval x = .pointer (some ⟨b, 0, none⟩)) {cs : Array Value} (m : Ent.blk b cs t ∈ es) : Rd w0 es op a (.agg cs) := .mk fun w K Q HM hK => by
  obtain ⟨d, hd, hr⟩ := Option.map_eq_some_iff.1 hu
  exact wp_load_mid (P := Try.prog) t x ho b 0 hx cs.toList d (range_block (HM.get m)) hd hr (by simpa using HM.size m) (by simpa using hK)
theorem Rd.part {t : TypeId} {x : Operand} (ho : op.op = .load t x) {b o : Nat} (hx : a.eval x = .pointer (some ⟨b, o, none⟩)) {cs : Array Value} {T : TypeId} (m : Ent.blk b cs T ∈ es) {vs : Array Value} (hv : ∀ j v, vs.toList[j]? = some v → cs[o + j]? = some v)
    (hi : (Try.prog.info? t).map (·.size) = some vs.size) (hu : (Try.prog.underlying t).map (·.isRow) = some true) : Rd w0 es op a (.agg vs) := .mk fun w K Q HM hK => by
  obtain ⟨d, hd, hr⟩ := Option.map_eq_some_iff.1 hu
  exact wp_load_mid (P := Try.prog) t x ho b o hx vs.toList d (fun j v hj => (blk_cell (HM.get m) (o + j)).trans (hv j v hj)) hd hr (by simpa using hi) (by simpa using hK)
theorem Rd.src {x : Operand} (ho : op.op = .load 26 x) {b : Nat} (hx : a.eval x = .pointer (some ⟨b, 9, none⟩)) {ns : List Int} {p : Int} {u : List UInt8} {q : Int} {v : List UInt8} {T : TypeId} (m : Ent.blk b (HV ns p u q v) T ∈ es) (hn : ns.length = 9) (hu : u.length = 16) : Rd w0 es op a (.agg (AV [p] u)) :=
  Rd.part ho hx m (HV_src ns p u q v 9 hn.symm hu) (info_AV p u hu) (by kernel_rfl)
theorem Rd.dst {x : Operand} (ho : op.op = .load 26 x) {b : Nat} (hx : a.eval x = .pointer (some ⟨b, 26, none⟩)) {ns : List Int} {p : Int} {u : List UInt8} {q : Int} {v : List UInt8} {T : TypeId} (m : Ent.blk b (HV ns p u q v) T ∈ es) (hn : ns.length = 9) (hu : u.length = 16) (hv : v.length = 16) : Rd w0 es op a (.agg (AV [q] v)) :=
  Rd.part ho hx m (HV_dst ns p u q v 26 (by rw [hn]) hu) (info_AV q v hv) (by kernel_rfl)
theorem Rd.build {t : TypeId} {ps : Array (Nat × Operand)} (ho : op.op = .build t ps) {qs : Array (Nat × Value)} {v : Value} (hz : Built t qs v) (hq : ps.toList.map (fun p => (p.1, a.eval p.2)) = qs.toList) : Rd w0 es op a v := .mk fun w K Q HM hK => by
  have hq2 : ps.map (fun p => (p.1, a.eval p.2)) = qs := Array.ext' (by rw [Array.toList_map]; exact hq)
  subst hq2
  unfold Oper.wp
  have := hz w
  simp [execOp, ho, resolve, this, Result.andThen]
  exact hK
theorem built_zeroH : Built 67 #[] (.agg ZH) := fun W => by kernel_rfl
theorem built_zeroA : Built 26 #[] (.agg ZA) := fun W => by kernel_rfl
theorem Rd.eql {t u : TypeId} {x y : Operand} (ho : op.op = .binOp .eql t x y u) {vx vy : Array Value} (hx : a.eval x = .agg vx) (hy : a.eval y = .agg vy) {r : Bool} (he : EqlOf t vx vy r) (hgt : Try.prog.eqGuardType Try.prog.depth t = false) : Rd w0 es op a (.bool r) := .mk fun w K Q HM hK => by
  unfold Oper.wp
  have := he w
  have hg : (eqGuard .eql t x y (.agg vx) (.agg vy)).run Try.prog w = .ok () w := by simp [eqGuard, hgt]
  simp [execOp, ho, resolve, hx, hy, hg, this, Result.andThen]
  exact hK
theorem Rd.neq {t u : TypeId} {x y : Operand} (ho : op.op = .binOp .neq t x y u) {vx vy : Array Value} (hx : a.eval x = .agg vx) (hy : a.eval y = .agg vy) {r : Bool} (he : EqlOf t vx vy r) (hgt : Try.prog.eqGuardType Try.prog.depth t = false) : Rd w0 es op a (.bool (!r)) := .mk fun w K Q HM hK => by
  unfold Oper.wp
  have := run_neq_of he w
  have hg : (eqGuard .neq t x y (.agg vx) (.agg vy)).run Try.prog w = .ok () w := by simp [eqGuard, hgt]
  simp [execOp, ho, resolve, hx, hy, hg, this, Result.andThen]
  exact hK
theorem Rd.g_load {v : Value} {t : TypeId} {x : Operand} (_ho : op.op = .load t x) (h : Rd w0 es op a v) : Rd w0 es op a v := h
theorem Rd.g_build {v : Value} {t : TypeId} {ps : Array (Nat × Operand)} (_ho : op.op = .build t ps) (h : Rd w0 es op a v) : Rd w0 es op a v := h

theorem Wr.alloc {t : TypeId} (ho : op.op = .alloc t) {z : Array Value} (hz : ∀ W : World, (zeroValue t).run Try.prog W = .ok (.agg z) W) (hi : Cells t z) : Wr w0 es op a (fun b => .pointer (some ⟨b, 0, none⟩)) (fun b => .blk b z t :: es) := .mk fun w K Q HM hK => by
  unfold Oper.wp
  simp [execOp, ho, Instr.alloc, hz, newVar, newRow, Result.andThen]
  exact hK _ _ (HM.alloc _ _ hi.1)
theorem Wr.box {t : TypeId} {x : Operand} (ho : op.op = .box t x) {cs : Array Value} (hx : a.eval x = .agg cs) (hi : Cells t cs) : Wr w0 es op a (fun b => .pointer (some ⟨b, 0, none⟩)) (fun b => .blk b cs t :: es) := .mk fun w K Q HM hK => by
  unfold Oper.wp
  simp [execOp, ho, newVar, newRow, Result.andThen, hx]
  exact hK _ _ (HM.alloc _ _ hi.1)
theorem Wr.put {x y : Operand} (ho : op.op = .store 3 x y) {b i : Nat} (hx : a.eval x = .pointer (some ⟨b, i, none⟩)) {n : Int} (hy : a.eval y = .int .i64 n) {cs cs' : Array Value} {T : TypeId}
    (u : Upd (.blk b cs T) (.blk b cs' T) es es') {v0 : Value} (hc0 : cs[i]? = some v0) (hc : cs.setIfInBounds i (.int .i64 n) = cs') : Wr w0 es op a (fun _ => undef) (fun _ => es') := .mk fun w K Q HM hK => by
  unfold Oper.wp
  have hrun := run_storeI w _ n v0 ((blk_cell (HM.get u.mem) i).trans hc0) (blk_frozen (HM.get u.mem) i)
  simp [execOp, ho, hx, hy, Instr.storeAt, Instr.sureAddr, hrun, Result.andThen]
  exact hK _ 0 (HM.cell i _ hc u)
theorem Wr.putRow {x y : Operand} (ho : op.op = .store 5 x y) {g j : Nat} (hx : a.eval x = .pointer (some ⟨g, j, none⟩)) {n : Int} (hy : a.eval y = .int .u8 n) {k cap : Nat} {l : List UInt8}
    (u : Upd (.row (.slice (some ⟨g, 0, none⟩) k cap) l) (.row (.slice (some ⟨g, 0, none⟩) k cap) (l.set j (UInt8.ofNat n.toNat))) es es') (hj : decide (j < k) = true) (hn : 0 ≤ n ∧ n < 256) : Wr w0 es op a (fun _ => undef) (fun _ => es') := .mk fun w K Q HM hK => by
  unfold Oper.wp
  have hob := HM.ob u.mem
  have hat := hob.at_ j (by have := of_decide_eq_true hj; rw [← hob.size]; exact this)
  have hrun := run_store8 w ⟨g, j, none⟩ n _ hat.1 hat.2
  simp [execOp, ho, hx, hy, Instr.storeAt, Instr.sureAddr, hrun, Result.andThen]
  exact hK _ 0 (HM.putRow hn.1 hn.2 u)
theorem Wr.whole {t : TypeId} {x y : Operand} (ho : op.op = .store t x y) {b : Nat} (hx : a.eval x = .pointer (some ⟨b, 0, none⟩)) {vs : Array Value} (hy : a.eval y = .agg vs) {cs : Array Value}
    (u : Upd (.blk b cs t) (.blk b vs t) es es') (hc : Cells t vs) : Wr w0 es op a (fun _ => undef) (fun _ => es') := .mk fun w K Q HM hK => by
  have hs : vs.size = cs.size := by
    have h1 := HM.size u.mem
    rw [hc.1] at h1
    injection h1
  exact wp_store_mid (P := Try.prog) t x y ho b 0 vs hx hy (by rw [hs]; exact there_block (HM.get u.mem)) (by rw [hs]; exact HM.size u.mem) hc.2 (hK _ 0 (HM.store hs u))
theorem Wr.lit {n : Nat} {ps : Array (Nat × Operand)} (ho : op.op = .buildSlice 22 n ps) {qs : Array (Nat × Value)} {l : List UInt8} (hL : LitOf n qs l) (hq : ps.toList.map (fun p => (p.1, a.eval p.2)) = qs.toList) :
    Wr w0 es op a (fun b => .slice (some ⟨b, 0, none⟩) n n) (fun b => .row (.slice (some ⟨b, 0, none⟩) n n) l :: es) := .mk fun w K Q HM hK => by
  obtain ⟨hl, hn, hz⟩ := hL
  have hq2 : ps.map (fun p => (p.1, a.eval p.2)) = qs := Array.ext' (by rw [Array.toList_map]; exact hq)
  subst hq2
  unfold Oper.wp
  have := hz w
  simp [execOp, ho, resolve, this, Result.andThen]
  refine hK _ _ (HM.row (below_alloc (Below.refl _ _) _) ?_)
  have h2 := OB.lit w w.heap.size l (Nat.le_refl _) (by omega)
  rw [hl] at h2
  exact h2
theorem Wr.slices {t : TypeId} {n : Nat} {ps : Array (Nat × Operand)} (ho : op.op = .buildSlice t n ps) {qs : Array (Nat × Value)} {cs : Array Value} {T : TypeId}
    (hz : ∀ W : World, (Instr.buildSlice t n qs).run Try.prog W = .ok (.slice (some ⟨W.heap.size, 0, none⟩) n n) (W.alloc (.cells cs T))) (hq : ps.toList.map (fun p => (p.1, a.eval p.2)) = qs.toList) :
    Wr w0 es op a (fun b => .slice (some ⟨b, 0, none⟩) n n) (fun b => .raw b cs T :: es) := .mk fun w K Q HM hK => by
  have hq2 : ps.map (fun p => (p.1, a.eval p.2)) = qs := Array.ext' (by rw [Array.toList_map]; exact hq)
  subst hq2
  unfold Oper.wp
  have := hz w
  simp [execOp, ho, resolve, this, Result.andThen]
  exact hK _ _ (HM.allocRaw cs T)
theorem Wr.sl1 {x1 : Operand} (ho : op.op = .buildSlice 42 1 #[(0, x1)]) {a1 : Option Addr} {n1 c1 : Nat} (h1 : a.eval x1 = .slice a1 n1 c1) :
    Wr w0 es op a (fun b => .slice (some ⟨b, 0, none⟩) 1 1) (fun b => .raw b #[.slice a1 n1 c1] 22 :: es) :=
  Wr.slices ho (slices1 a1 n1 c1) (by simp [h1])
theorem Wr.sl2 {x1 x2 : Operand} (ho : op.op = .buildSlice 42 2 #[(0, x1), (1, x2)]) {a1 : Option Addr} {n1 c1 : Nat} (h1 : a.eval x1 = .slice a1 n1 c1) {a2 : Option Addr} {n2 c2 : Nat} (h2 : a.eval x2 = .slice a2 n2 c2) :
    Wr w0 es op a (fun b => .slice (some ⟨b, 0, none⟩) 2 2) (fun b => .raw b #[.slice a1 n1 c1, .slice a2 n2 c2] 22 :: es) :=
  Wr.slices ho (slices2 a1 a2 n1 c1 n2 c2) (by simp [h1, h2])
theorem Wr.sl3 {x1 x2 x3 : Operand} (ho : op.op = .buildSlice 42 3 #[(0, x1), (1, x2), (2, x3)]) {a1 : Option Addr} {n1 c1 : Nat} (h1 : a.eval x1 = .slice a1 n1 c1) {a2 : Option Addr} {n2 c2 : Nat} (h2 : a.eval x2 = .slice a2 n2 c2) {a3 : Option Addr} {n3 c3 : Nat} (h3 : a.eval x3 = .slice a3 n3 c3) :
    Wr w0 es op a (fun b => .slice (some ⟨b, 0, none⟩) 3 3) (fun b => .raw b #[.slice a1 n1 c1, .slice a2 n2 c2, .slice a3 n3 c3] 22 :: es) :=
  Wr.slices ho (slices3 a1 a2 a3 n1 c1 n2 c2 n3 c3) (by simp [h1, h2, h3])
theorem Wr.sl4 {x1 x2 x3 x4 : Operand} (ho : op.op = .buildSlice 42 4 #[(0, x1), (1, x2), (2, x3), (3, x4)]) {a1 : Option Addr} {n1 c1 : Nat} (h1 : a.eval x1 = .slice a1 n1 c1) {a2 : Option Addr} {n2 c2 : Nat} (h2 : a.eval x2 = .slice a2 n2 c2) {a3 : Option Addr} {n3 c3 : Nat} (h3 : a.eval x3 = .slice a3 n3 c3) {a4 : Option Addr} {n4 c4 : Nat} (h4 : a.eval x4 = .slice a4 n4 c4) :
    Wr w0 es op a (fun b => .slice (some ⟨b, 0, none⟩) 4 4) (fun b => .raw b #[.slice a1 n1 c1, .slice a2 n2 c2, .slice a3 n3 c3, .slice a4 n4 c4] 22 :: es) :=
  Wr.slices ho (slices4 a1 a2 a3 a4 n1 c1 n2 c2 n3 c3 n4 c4) (by simp [h1, h2, h3, h4])
theorem Wr.make {n : Nat} {x y : Operand} (ho : op.op = .makeSlice 22 x y) (hx : a.eval x = .int .i64 (n : Int)) (hy : a.eval y = .int .i64 (n : Int)) (hn : n ≤ 1000) :
    Wr w0 es op a (fun b => .slice (some ⟨b, 0, none⟩) n n) (fun b => .row (.slice (some ⟨b, 0, none⟩) n n) (List.replicate n 0) :: es) := .mk fun w K Q HM hK => by
  unfold Oper.wp
  have := make_bytes n (by omega) w
  simp [execOp, ho, resolve, hx, hy, this, Result.andThen]
  exact hK _ _ (HM.row (below_alloc (Below.refl _ _) _) (OB.made w w.heap.size n (Nat.le_refl _) (by omega)))
theorem Wr.g_store {v : Nat → Value} {e : Nat → List Ent} {t : TypeId} {x y : Operand} (_ho : op.op = .store t x y) (h : Wr w0 es op a v e) : Wr w0 es op a v e := h
theorem Wr.g_slice {v : Nat → Value} {e : Nat → List Ent} {t : TypeId} {n : Nat} {ps : Array (Nat × Operand)} (_ho : op.op = .buildSlice t n ps) (h : Wr w0 es op a v e) : Wr w0 es op a v e := h
end
section
variable {ops : Array Oper} {rest : List Oper} {op : Oper} {a : Act} {Q : Exit → Act → World → Prop} {w0 w : World} {es : List Ent}
theorem m_rd {v : Value} (k : wpList Try.prog ops Q rest (a.put op.dst v) w) (HM : HMem w0 w es := by first | exact HM | fail)
    (h : Rd w0 es op a v := by first
      | ((with_reducible apply Rd.g_load); (next => with_reducible exact rfl); first
        | ((with_reducible apply Rd.int); (next => with_reducible exact rfl); (next => exact rfl); (next => (first | ((repeat (first | with_reducible exact List.Mem.head _ | with_reducible apply List.Mem.tail)); done) | ((repeat (first | exact List.Mem.head _ | apply List.Mem.tail)); done))); (next => first | exact HV_num _ _ _ _ _ _ _ rfl | exact AV_num _ _ _ | exact HV_at9 _ _ _ _ _ rfl | exact HV_at26 _ _ _ _ _ rfl HX.out))
        | ((with_reducible apply Rd.whole); (next => with_reducible exact rfl); (next => kernel_rfl); (next => exact rfl); (next => (first | ((repeat (first | with_reducible exact List.Mem.head _ | with_reducible apply List.Mem.tail)); done) | ((repeat (first | exact List.Mem.head _ | apply List.Mem.tail)); done))))
        | ((with_reducible apply Rd.src); (next => with_reducible exact rfl); (next => exact rfl); (next => (first | ((repeat (first | with_reducible exact List.Mem.head _ | with_reducible apply List.Mem.tail)); done) | ((repeat (first | exact List.Mem.head _ | apply List.Mem.tail)); done))); (next => exact rfl); (next => exact HX.out))
        | ((with_reducible apply Rd.dst); (next => with_reducible exact rfl); (next => exact rfl); (next => (first | ((repeat (first | with_reducible exact List.Mem.head _ | with_reducible apply List.Mem.tail)); done) | ((repeat (first | exact List.Mem.head _ | apply List.Mem.tail)); done))); (next => exact rfl); (next => exact HX.out); (next => exact HY.out)))
      | ((with_reducible apply Rd.g_build); (next => with_reducible exact rfl); apply Rd.build; (next => with_reducible exact rfl); first
        | ((next => exact BH1.out); (next => exact rfl)) | ((next => exact BH2.out); (next => exact rfl)) | ((next => exact BH3.out); (next => exact rfl)) | ((next => exact BH4.out); (next => exact rfl)) | ((next => exact BH5.out); (next => exact rfl)) | ((next => exact BH6.out); (next => exact rfl)) | ((next => exact built_zeroH); (next => exact rfl)) | ((next => exact built_zeroA); (next => exact rfl)))
      | ((with_reducible apply Rd.eql); (next => with_reducible exact rfl); (next => exact rfl); (next => exact rfl); (next => first | exact EQ1.out | exact EQ2.out | exact EQ3.out | exact EQ4.out); (next => kernel_rfl))
      | ((with_reducible apply Rd.neq); (next => with_reducible exact rfl); (next => exact rfl); (next => exact rfl); (next => first | exact EQ1.out | exact EQ2.out | exact EQ3.out | exact EQ4.out); (next => kernel_rfl))
      | fail)
    (hw : Region.wanted op (yielded ops a.tmps) = true := by first | kernel_rfl | fail) : wpList Try.prog ops Q (op :: rest) a w :=
  BigFrame.wpList_want hw fun K hK => h.run w K Q HM.out (hK _ _ k)
theorem m_wr {v : Nat → Value} {e : Nat → List Ent} (k : ∀ w1 b, HMem w0 w1 (e b) → Below w0.heap.size w0 w1 → wpList Try.prog ops Q rest (a.put op.dst (v b)) w1) (HM : HMem w0 w es := by first | exact HM | fail)
    (h : Wr w0 es op a v e := by first
      | ((with_reducible apply Wr.g_store); (next => with_reducible exact rfl); first
        | ((with_reducible apply Wr.put); (next => with_reducible exact rfl); (next => exact rfl); (next => exact rfl); (next => (first | ((repeat (first | with_reducible exact Upd.head _ | with_reducible apply Upd.tail)); done) | ((repeat (first | exact Upd.head _ | apply Upd.tail)); done))); (next => exact HV_num _ _ _ _ _ _ _ rfl); (next => exact HV_set1 _ _ _ _ _ _ _ rfl))
        | ((with_reducible apply Wr.putRow); (next => with_reducible exact rfl); (next => exact rfl); (next => exact rfl); (next => (first | ((repeat (first | with_reducible exact Upd.head _ | with_reducible apply Upd.tail)); done) | ((repeat (first | exact Upd.head _ | apply Upd.tail)); done))); (next => first | exact rfl | exact decide_eq_true (by omega)); (next => exact ⟨by omega, by omega⟩))
        | ((with_reducible apply Wr.whole); (next => with_reducible exact rfl); (next => exact rfl); (next => exact rfl); (next => (first | ((repeat (first | with_reducible exact Upd.head _ | with_reducible apply Upd.tail)); done) | ((repeat (first | exact Upd.head _ | apply Upd.tail)); done))); (next => (first | with_reducible exact cellsZH | with_reducible exact cellsZA | with_reducible exact HC.out | exact (show Hid (Cells _ _) by assumption).out))))
      | ((with_reducible apply Wr.g_slice); (next => with_reducible exact rfl); first
        | ((with_reducible apply Wr.lit); (next => with_reducible exact rfl); first | ((next => exact LT1.out); (next => exact rfl)) | ((next => exact LT2.out); (next => exact rfl)) | ((next => exact LT3.out); (next => exact rfl)))
        | ((with_reducible apply Wr.sl1); (next => with_reducible exact rfl); (next => exact rfl))
        | ((with_reducible apply Wr.sl2); (next => with_reducible exact rfl); (next => exact rfl); (next => exact rfl))
        | ((with_reducible apply Wr.sl3); (next => with_reducible exact rfl); (next => exact rfl); (next => exact rfl); (next => exact rfl))
        | ((with_reducible apply Wr.sl4); (next => with_reducible exact rfl); (next => exact rfl); (next => exact rfl); (next => exact rfl); (next => exact rfl)))
      | ((with_reducible apply Wr.make); (next => with_reducible exact rfl); (next => exact rfl); (next => exact rfl); (next => omega))
      | ((with_reducible apply Wr.alloc); (next => with_reducible exact rfl); first | ((next => exact zeroH); (next => exact cellsZH)) | ((next => exact zeroA); (next => exact cellsZA)))
      | ((with_reducible apply Wr.box); (next => with_reducible exact rfl); (next => exact rfl); (next => (first | with_reducible exact cellsZH | with_reducible exact cellsZA | with_reducible exact HC.out | exact (show Hid (Cells _ _) by assumption).out)))
      | fail)
    (hw : Region.wanted op (yielded ops a.tmps) = true := by first | kernel_rfl | fail) : wpList Try.prog ops Q (op :: rest) a w :=
  BigFrame.wpList_want hw fun K hK => h.run w K Q HM.out (fun w1 b hm => hK _ _ (k w1 b (Lib.hid hm) hm.below))
/-- append on a row of the call's own. -/
theorem m_ap {es' : List Ent} {s x : Operand} {v u : Value} {xs ys : List UInt8} {n : Nat} (k : ∀ w1 A1 c1, HMem w0 w1 (.row (.slice A1 n c1) (xs ++ ys) :: es') → Below w0.heap.size w0 w1 → wpList Try.prog ops Q rest (a.put op.dst (.slice A1 n c1)) w1)
    (ho : op.op = .call { callee := .builtin .append, args := #[s, x], argTypes := #[22, 22] } := by first | with_reducible exact rfl | fail)
    (hg : op.guard = none := by first | with_reducible exact rfl | fail) (hs : a.eval s = v := by first | exact rfl | fail) (hx : a.eval x = u := by first | exact rfl | fail) (HM : HMem w0 w es := by first | exact HM | fail)
    (m : Del (.row v xs) es es' := by first | (first | ((repeat (first | with_reducible exact Del.head _ | with_reducible apply Del.tail)); done) | ((repeat (first | exact Del.head _ | apply Del.tail)); done)) | fail) (HR : RB w u ys := by first | (apply Mem.rb HM.out; (first | ((repeat (first | with_reducible exact List.Mem.head _ | with_reducible apply List.Mem.tail)); done) | ((repeat (first | exact List.Mem.head _ | apply List.Mem.tail)); done))) | exact HR.out.below HB | exact HA.out.below HB | fail)
    (hn : xs.length + ys.length = n := by first | exact HN1.out | exact HN2.out | exact HN3.out | exact HN4.out | fail) (hl : n ≤ 140737488355328 := by first | omega | fail) : wpList Try.prog ops Q (op :: rest) a w :=
  m_append hg ho hs hx HM m HR hn hl k
end
section
variable {md : Region.Mode} {ops : Array Oper} {Q : Exit → Act → World → Prop} {S : World → Prop} {fuel : Nat} {listed : Array Bool} {a a' : Act} {w : World}
/-- In a region that draws: an operation is taken first; its value is found by running it. -/
theorem tk (i d : Nat) {v : Value} {oi : Oper} (k : wpAnyH Try.prog md ops Q S fuel (listed.setIfInBounds i true) a' w) (hi : ops[i]? = some oi := by first | exact rfl | fail) (hd : oi.dst = some d := by first | exact rfl | fail)
    (hs : Region.noSelect ops = true := by first | kernel_rfl | fail) (hf : Region.free md ops listed i = true := by first | kernel_rfl | fail) (hr : (Region.ready md ops listed).contains i = true := by first | kernel_rfl | fail)
    (hw : Region.wanted oi (yielded ops a.tmps) = true := by first | kernel_rfl | fail)
    (hv : ∀ w', S w' → (execOp a.eval oi).run Try.prog w' = .ok (.value v) w' := by first | (intro w' hw; (try dsimp only at hw); (try have hwb := Mem.below hw); go_simp; (try (rw [if_pos (by omega)])); (try simp (disch := omega) only [wrapI, tmodI, tdivI]); (try with_reducible rfl)) | fail)
    (hS : S w := by first | exact hS | fail) (ha : a.put (some d) v = a' := by first | (simp only [Act.put, List.setIfInBounds_toArray, List.set_cons_zero, List.set_cons_succ]; done) | (simp only [Act.put, List.setIfInBounds_toArray, List.set_cons_zero, List.set_cons_succ]; exact rfl) | exact rfl | fail)
    (hQ : ∀ c a w, Q (.panic c) (a.put (some d) v) w → Q (.panic c) a w := by first | exact fun _ _ _ h => h | fail) : wpAnyH Try.prog md ops Q S (fuel + 1) listed a w := by
  subst ha
  exact take_at i d v hi hd hs hf hr hQ (.inl ⟨hw, hv⟩) hS k
/-- Its value is told. -/
theorem tkv (i d : Nat) (v : Value) {oi : Oper} (hi : ops[i]? = some oi) (hy : YieldsIf Try.prog ops S oi v a) (k : wpAnyH Try.prog md ops Q S fuel (listed.setIfInBounds i true) a' w) (hd : oi.dst = some d := by first | exact rfl | fail)
    (hs : Region.noSelect ops = true := by first | kernel_rfl | fail) (hf : Region.free md ops listed i = true := by first | kernel_rfl | fail) (hr : (Region.ready md ops listed).contains i = true := by first | kernel_rfl | fail)
    (hS : S w := by first | exact hS | fail) (ha : a.put (some d) v = a' := by first | (simp only [Act.put, List.setIfInBounds_toArray, List.set_cons_zero, List.set_cons_succ]; done) | (simp only [Act.put, List.setIfInBounds_toArray, List.set_cons_zero, List.set_cons_succ]; exact rfl) | exact rfl | fail)
    (hQ : ∀ c a w, Q (.panic c) (a.put (some d) v) w → Q (.panic c) a w := by first | exact fun _ _ _ h => h | fail) : wpAnyH Try.prog md ops Q S (fuel + 1) listed a w := by
  subst ha
  exact take_at i d v hi hd hs hf hr hQ hy hS k
/-- Its guard fails. -/
theorem tku (i d : Nat) {oi : Oper} (k : wpAnyH Try.prog md ops Q S fuel (listed.setIfInBounds i true) a' w) (hi : ops[i]? = some oi := by first | exact rfl | fail) (hd : oi.dst = some d := by first | exact rfl | fail)
    (hs : Region.noSelect ops = true := by first | kernel_rfl | fail) (hf : Region.free md ops listed i = true := by first | kernel_rfl | fail) (hr : (Region.ready md ops listed).contains i = true := by first | kernel_rfl | fail)
    (hw : Region.wanted oi (yielded ops a.tmps) = false := by first | kernel_rfl | fail)
    (hS : S w := by first | exact hS | fail) (ha : a.put (some d) undef = a' := by first | (simp only [Act.put, List.setIfInBounds_toArray, List.set_cons_zero, List.set_cons_succ]; done) | (simp only [Act.put, List.setIfInBounds_toArray, List.set_cons_zero, List.set_cons_succ]; exact rfl) | exact rfl | fail)
    (hQ : ∀ c a w, Q (.panic c) (a.put (some d) undef) w → Q (.panic c) a w := by first | exact fun _ _ _ h => h | fail) : wpAnyH Try.prog md ops Q S (fuel + 1) listed a w := by
  subst ha
  exact take_at i d undef hi hd hs hf hr hQ (.inr ⟨hw, rfl⟩) hS k
/-- One operation alone may come up: it is run. -/
theorem rone (i : Nat) {oi : Oper} (hi : ops.toList[i]? = some oi) (k : ∀ K' : Act → World → Prop, Shut (∀ a w, S w → (S w → wpAnyH Try.prog md ops Q S fuel (listed.setIfInBounds i true) a w) → K' a w) → if Region.wanted oi (yielded ops a.tmps) = true then Oper.wp Try.prog oi a w K' Q else K' (a.put oi.dst undef) w)
    (hr : Region.ready md ops listed = [i] := by first | kernel_rfl | fail) : wpAnyH Try.prog md ops Q S (fuel + 1) listed a w :=
  wpAnyH_ready hr (by simp) (AllReadyH.cons (by rw [← hi]; simp) k AllReadyH.nil)
end
theorem s_wr {ops : Array Oper} {op : Oper} {a : Act} {K : Act → World → Prop} {Q : Exit → Act → World → Prop} {E : Prop} {w0 w : World} {es : List Ent} {v : Nat → Value} {e : Nat → List Ent}
    (k : ∀ w1 b, HMem w0 w1 (e b) → Below w0.heap.size w0 w1 → K (a.put op.dst (v b)) w1) (HM : HMem w0 w es) (h : Wr w0 es op a v e) (hw : Region.wanted op (yielded ops a.tmps) = true) : if Region.wanted op (yielded ops a.tmps) = true then Oper.wp Try.prog op a w K Q else E := by
  rw [if_pos hw]
  exact h.run w K Q HM.out (fun w1 b hm => k w1 b (Lib.hid hm) hm.below)
theorem Mem.keep {w0 w : World} {es : List Ent} (h : Mem w0 w es) {e : Ent} (m : e ∈ es) : Mem w0 w [e] := h.sub (List.singleton_sublist.2 m)
end Go.Proofs.Ytkfjobanbnokoaa.Mm

set_option linter.unusedSimpArgs false
set_option linter.unusedVariables false
set_option maxRecDepth 100000
namespace Go.Proofs.Ytkfjobanbnokoaa.Ip
open Go Go.Proofs.Ytkfjobanbnokoaa.Le Go.Proofs.Ytkfjobanbnokoaa.Os

def gb (l : List UInt8) (i : Nat) : Nat := (l.getD i 0).toNat
theorem gb_lt (l : List UInt8) (i : Nat) : gb l i < 256 := (l.getD i 0).toNat_lt
theorem gb_getD (l : List UInt8) (i : Nat) : (l.getD i 0).toNat = gb l i := rfl

/-! Family 6. -/
def tot6 (l : List UInt8) : Nat := 40 + (256 * gb l 4 + gb l 5)
def bad6 (l : List UInt8) : Nat := if l.length < 40 then 3 else if gb l 0 / 16 ≠ 6 then 9 else if l.length < tot6 l then 3 else 0
def ns6 (l : List UInt8) : List Int := [6, 40, (tot6 l : Nat), ((16 * (gb l 0 % 16) + gb l 1 / 16 : Nat) : Int), ((65536 * (gb l 1 % 16) + 256 * gb l 2 + gb l 3 : Nat) : Int), 0, 0, (gb l 7 : Nat), (gb l 6 : Nat)]
theorem bad6_cases (l : List UInt8) : bad6 l = 3 ∧ l.length < 40 ∨ bad6 l = 9 ∧ 40 ≤ l.length ∧ gb l 0 / 16 ≠ 6 ∨ bad6 l = 3 ∧ 40 ≤ l.length ∧ gb l 0 / 16 = 6 ∧ l.length < tot6 l ∨ bad6 l = 0 ∧ 40 ≤ l.length ∧ gb l 0 / 16 = 6 ∧ tot6 l ≤ l.length := by
  unfold bad6
  by_cases h1 : l.length < 40
  · exact .inl ⟨if_pos h1, h1⟩
  · rw [if_neg h1]
    by_cases h2 : gb l 0 / 16 ≠ 6
    · exact .inr (.inl ⟨if_pos h2, by omega, h2⟩)
    · rw [if_neg h2]
      by_cases h3 : l.length < tot6 l
      · exact .inr (.inr (.inl ⟨if_pos h3, by omega, by omega, h3⟩))
      · exact .inr (.inr (.inr ⟨if_neg h3, by omega, by omega, by omega⟩))
theorem take_eight (b : List UInt8) (h : 8 ≤ b.length) : b.take 8 = [b.getD 0 0, b.getD 1 0, b.getD 2 0, b.getD 3 0, b.getD 4 0, b.getD 5 0, b.getD 6 0, b.getD 7 0] := by
  match b, h with
  | a0 :: a1 :: a2 :: a3 :: a4 :: a5 :: a6 :: a7 :: r, _ => rfl
theorem take_two (b : List UInt8) (i : Nat) (h : i + 2 ≤ b.length) : (b.drop i).take 2 = [b.getD i 0, b.getD (i + 1) 0] := by
  rw [List.drop_eq_getElem_cons (by omega), List.drop_eq_getElem_cons (by omega)]
  show [_, _] = _
  simp [List.getD_eq_getElem?_getD, List.getElem?_eq_getElem (show i < b.length by omega), List.getElem?_eq_getElem (show i + 1 < b.length by omega)]
/-- The first eight bytes as one number. -/
def top8 (l : List UInt8) : Nat := ofLe (l.take 8).reverse
theorem top8_eq (l : List UInt8) (h : 8 ≤ l.length) : top8 l = 72057594037927936 * gb l 0 + 281474976710656 * gb l 1 + 1099511627776 * gb l 2 + 4294967296 * gb l 3 + 16777216 * gb l 4 + 65536 * gb l 5 + 256 * gb l 6 + gb l 7 := by
  unfold top8 gb
  rw [take_eight l h]
  simp only [List.reverse_cons, List.reverse_nil, List.nil_append, List.cons_append, ofLe]
  omega
theorem top8_lt (l : List UInt8) (h : 8 ≤ l.length) : top8 l < 18446744073709551616 := by
  have := ofLe_lt (l.take 8).reverse
  rw [List.length_reverse, List.length_take, Nat.min_eq_left h] at this
  exact this
theorem two_eq (l : List UInt8) (i : Nat) (h : i + 2 ≤ l.length) : ofLe ((l.drop i).take 2).reverse = 256 * gb l i + gb l (i + 1) := by
  rw [take_two l i h]
  unfold gb
  simp only [List.reverse_cons, List.reverse_nil, List.nil_append, List.cons_append, ofLe]
  omega
theorem top8_parts (l : List UInt8) (h : 8 ≤ l.length) : top8 l / 65536 % 65536 = 256 * gb l 4 + gb l 5 ∧ top8 l / 4503599627370496 % 256 = 16 * (gb l 0 % 16) + gb l 1 / 16 ∧ top8 l / 4294967296 % 1048576 = 65536 * (gb l 1 % 16) + 256 * gb l 2 + gb l 3 ∧ top8 l / 256 % 256 = gb l 6 ∧ top8 l % 256 = gb l 7 := by
  have e := top8_eq l h
  have h0 := gb_lt l 0
  have h1 := gb_lt l 1
  have h2 := gb_lt l 2
  have h3 := gb_lt l 3
  have h4 := gb_lt l 4
  have h5 := gb_lt l 5
  have h6 := gb_lt l 6
  have h7 := gb_lt l 7
  generalize gb l 0 = a0 at *
  generalize gb l 1 = a1 at *
  generalize gb l 2 = a2 at *
  generalize gb l 3 = a3 at *
  generalize gb l 4 = a4 at *
  generalize gb l 5 = a5 at *
  generalize gb l 6 = a6 at *
  generalize gb l 7 = a7 at *
  generalize top8 l = F at *
  refine ⟨?_, ?_, ?_, ?_, ?_⟩ <;> omega

/-! Family 4. -/
def siz4 (l : List UInt8) : Nat := 4 * (gb l 0 % 16)
def tot4 (l : List UInt8) : Nat := 256 * gb l 2 + gb l 3
/-- Why there is no size. -/
def badS (l : List UInt8) : Nat :=
  if l.length < 20 then 3 else if gb l 0 / 16 ≠ 4 then 9 else if siz4 l < 20 then 5 else if l.length < siz4 l then 3 else if tot4 l < siz4 l then 5 else if l.length < tot4 l then 3 else 0
def bad4 (l : List UInt8) : Nat := if badS l ≠ 0 then badS l else if sum16 (l.take (siz4 l)) ≠ 65535 then 11 else 0
def ns4 (l : List UInt8) : List Int := [4, (siz4 l : Nat), (tot4 l : Nat), (gb l 1 : Nat), ((256 * gb l 4 + gb l 5 : Nat) : Int), ((gb l 6 / 32 : Nat) : Int), (((256 * gb l 6 + gb l 7) % 8192 : Nat) : Int), (gb l 8 : Nat), (gb l 9 : Nat)]
theorem badS_cases (l : List UInt8) : badS l = 3 ∧ l.length < 20 ∨ badS l = 9 ∧ 20 ≤ l.length ∧ gb l 0 / 16 ≠ 4 ∨ badS l = 5 ∧ 20 ≤ l.length ∧ gb l 0 / 16 = 4 ∧ siz4 l < 20 ∨ badS l = 3 ∧ 20 ≤ l.length ∧ gb l 0 / 16 = 4 ∧ 20 ≤ siz4 l ∧ l.length < siz4 l ∨
    badS l = 5 ∧ 20 ≤ l.length ∧ gb l 0 / 16 = 4 ∧ 20 ≤ siz4 l ∧ siz4 l ≤ l.length ∧ tot4 l < siz4 l ∨ badS l = 3 ∧ 20 ≤ l.length ∧ gb l 0 / 16 = 4 ∧ 20 ≤ siz4 l ∧ siz4 l ≤ l.length ∧ siz4 l ≤ tot4 l ∧ l.length < tot4 l ∨
    badS l = 0 ∧ 20 ≤ l.length ∧ gb l 0 / 16 = 4 ∧ 20 ≤ siz4 l ∧ siz4 l ≤ l.length ∧ siz4 l ≤ tot4 l ∧ tot4 l ≤ l.length := by
  by_cases h1 : l.length < 20
  · have e : badS l = 3 := by unfold badS; rw [if_pos h1]
    exact .inl ⟨e, h1⟩
  by_cases h2 : gb l 0 / 16 ≠ 4
  · have e : badS l = 9 := by unfold badS; rw [if_neg h1, if_pos h2]
    exact .inr (.inl ⟨e, by omega, h2⟩)
  by_cases h3 : siz4 l < 20
  · have e : badS l = 5 := by unfold badS; rw [if_neg h1, if_neg h2, if_pos h3]
    exact .inr (.inr (.inl ⟨e, by omega, by omega, h3⟩))
  by_cases h4 : l.length < siz4 l
  · have e : badS l = 3 := by unfold badS; rw [if_neg h1, if_neg h2, if_neg h3, if_pos h4]
    exact .inr (.inr (.inr (.inl ⟨e, by omega, by omega, by omega, h4⟩)))
  by_cases h5 : tot4 l < siz4 l
  · have e : badS l = 5 := by unfold badS; rw [if_neg h1, if_neg h2, if_neg h3, if_neg h4, if_pos h5]
    exact .inr (.inr (.inr (.inr (.inl ⟨e, by omega, by omega, by omega, by omega, h5⟩))))
  by_cases h6 : l.length < tot4 l
  · have e : badS l = 3 := by unfold badS; rw [if_neg h1, if_neg h2, if_neg h3, if_neg h4, if_neg h5, if_pos h6]
    exact .inr (.inr (.inr (.inr (.inr (.inl ⟨e, by omega, by omega, by omega, by omega, by omega, h6⟩)))))
  have e : badS l = 0 := by unfold badS; rw [if_neg h1, if_neg h2, if_neg h3, if_neg h4, if_neg h5, if_neg h6]
  exact .inr (.inr (.inr (.inr (.inr (.inr ⟨e, by omega, by omega, by omega, by omega, by omega, by omega⟩)))))

/-! The bytes of a head of family 6. -/
def raw6 (c i n p t : Nat) : List UInt8 := [UInt8.ofNat (96 + c / 16), UInt8.ofNat (16 * (c % 16) + i / 65536), UInt8.ofNat (i / 256 % 256), UInt8.ofNat (i % 256), UInt8.ofNat (n / 256), UInt8.ofNat (n % 256), UInt8.ofNat p, UInt8.ofNat t]
theorem leB8 (F : Nat) : (leB 8 F).reverse = [UInt8.ofNat (F / 256 / 256 / 256 / 256 / 256 / 256 / 256 % 256), UInt8.ofNat (F / 256 / 256 / 256 / 256 / 256 / 256 % 256), UInt8.ofNat (F / 256 / 256 / 256 / 256 / 256 % 256), UInt8.ofNat (F / 256 / 256 / 256 / 256 % 256), UInt8.ofNat (F / 256 / 256 / 256 % 256), UInt8.ofNat (F / 256 / 256 % 256), UInt8.ofNat (F / 256 % 256), UInt8.ofNat (F % 256)] := rfl
theorem raw6_of (F c i n p t : Nat) (hF : F = 6917529027641081856 + c * 4503599627370496 + i * 4294967296 + n * 65536 + p * 256 + t) (hc : c < 256) (hi : i < 1048576) (hn : n < 65536) (hp : p < 256) (ht : t < 256) :
    (leB 8 F).reverse = raw6 c i n p t := by
  have e0 : F / 256 / 256 / 256 / 256 / 256 / 256 / 256 % 256 = 96 + c / 16 := by omega
  have e1 : F / 256 / 256 / 256 / 256 / 256 / 256 % 256 = 16 * (c % 16) + i / 65536 := by omega
  have e2 : F / 256 / 256 / 256 / 256 / 256 % 256 = i / 256 % 256 := by omega
  have e3 : F / 256 / 256 / 256 / 256 % 256 = i % 256 := by omega
  have e4 : F / 256 / 256 / 256 % 256 = n / 256 := by omega
  have e5 : F / 256 / 256 % 256 = n % 256 := by omega
  have e6 : F / 256 % 256 = p := by omega
  have e7 : F % 256 = t := by omega
  rw [leB8, e0, e1, e2, e3, e4, e5, e6, e7]
  rfl
theorem raw6_big (c i n p t : Nat) (hc : c < 256) (hi : i < 1048576) (hn : n < 65536) (hp : p < 256) (ht : t < 256) :
    (leB 8 (6917529027641081856 + c * 4503599627370496 + i * 4294967296 + n * 65536 + p * 256 + t)).reverse = raw6 c i n p t := raw6_of _ c i n p t rfl hc hi hn hp ht
/-- Two numbers that share no bit. -/
theorem or_apart (h l k : Nat) (hl : l < 2 ^ k) (hs : h * 2 ^ k + l < 18446744073709551616) : bits .or .u64 ((h * 2 ^ k : Nat) : Int) (l : Int) = ((h * 2 ^ k + l : Nat) : Int) := by
  rw [u64_or_nat (h * 2 ^ k) l (by omega) (by omega), nat_join k (h * 2 ^ k) l (Nat.mul_mod_left _ _) hl]
theorem raw6_or (c i n p t : Nat) (hc : c < 256) (hi : i < 1048576) (hn : n < 65536) (hp : p < 256) (ht : t < 256) :
    bits .or .u64 6917529027641081856 ((c * 4503599627370496 : Nat) : Int) = ((6917529027641081856 + c * 4503599627370496 : Nat) : Int) ∧
    bits .or .u64 ((6917529027641081856 + c * 4503599627370496 : Nat) : Int) ((i * 4294967296 : Nat) : Int) = ((6917529027641081856 + c * 4503599627370496 + i * 4294967296 : Nat) : Int) ∧
    bits .or .u64 ((6917529027641081856 + c * 4503599627370496 + i * 4294967296 : Nat) : Int) ((n * 65536 : Nat) : Int) = ((6917529027641081856 + c * 4503599627370496 + i * 4294967296 + n * 65536 : Nat) : Int) ∧
    bits .or .u64 ((6917529027641081856 + c * 4503599627370496 + i * 4294967296 + n * 65536 : Nat) : Int) ((p * 256 : Nat) : Int) = ((6917529027641081856 + c * 4503599627370496 + i * 4294967296 + n * 65536 + p * 256 : Nat) : Int) ∧
    bits .or .u64 ((6917529027641081856 + c * 4503599627370496 + i * 4294967296 + n * 65536 + p * 256 : Nat) : Int) (t : Int) = ((6917529027641081856 + c * 4503599627370496 + i * 4294967296 + n * 65536 + p * 256 + t : Nat) : Int) := by
  have p60 : (2 : Nat) ^ 60 = 1152921504606846976 := by decide
  have p52 : (2 : Nat) ^ 52 = 4503599627370496 := by decide
  have p32 : (2 : Nat) ^ 32 = 4294967296 := by decide
  have p16 : (2 : Nat) ^ 16 = 65536 := by decide
  have p8 : (2 : Nat) ^ 8 = 256 := by decide
  have g1 := or_apart 6 (c * 4503599627370496) 60 (by omega) (by omega)
  have g2 := or_apart (1536 + c) (i * 4294967296) 52 (by omega) (by omega)
  have g3 := or_apart (1610612736 + c * 1048576 + i) (n * 65536) 32 (by omega) (by omega)
  have g4 := or_apart (105553116266496 + c * 68719476736 + i * 65536 + n) (p * 256) 16 (by omega) (by omega)
  have g5 := or_apart (27021597764222976 + c * 17592186044416 + i * 16777216 + n * 256 + p) t 8 (by omega) (by omega)
  rw [p60] at g1
  rw [p52, show (1536 + c) * 4503599627370496 = 6917529027641081856 + c * 4503599627370496 by omega] at g2
  rw [p32, show (1610612736 + c * 1048576 + i) * 4294967296 = 6917529027641081856 + c * 4503599627370496 + i * 4294967296 by omega] at g3
  rw [p16, show (105553116266496 + c * 68719476736 + i * 65536 + n) * 65536 = 6917529027641081856 + c * 4503599627370496 + i * 4294967296 + n * 65536 by omega] at g4
  rw [p8, show (27021597764222976 + c * 17592186044416 + i * 16777216 + n * 256 + p) * 256 = 6917529027641081856 + c * 4503599627370496 + i * 4294967296 + n * 65536 + p * 256 by omega] at g5
  exact ⟨g1, g2, g3, g4, g5⟩
def all6 (c i p t : Nat) (x y body : List UInt8) : List UInt8 := raw6 c i body.length p t ++ x ++ y ++ body
theorem gb_ofNat (n : Nat) (h : n < 256) : (UInt8.ofNat n).toNat = n := by simp only [UInt8.toNat_ofNat']; omega
theorem all6_back (c i p t : Nat) (x y body : List UInt8) (hc : c < 256) (hi : i < 1048576) (hn : body.length < 65536) (hp : p < 256) (ht : t < 256) (hx : x.length = 16) (hy : y.length = 16) :
    bad6 (all6 c i p t x y body) = 0 ∧ ns6 (all6 c i p t x y body) = [6, 40, ((40 + body.length : Nat) : Int), (c : Int), (i : Int), 0, 0, (t : Int), (p : Int)] ∧ ((all6 c i p t x y body).drop 8).take 16 = x ∧ ((all6 c i p t x y body).drop 24).take 16 = y ∧ (all6 c i p t x y body).length = 40 + body.length := by
  have hl : (all6 c i p t x y body).length = 40 + body.length := by simp [all6, raw6, hx, hy]; omega
  have q0 : gb (all6 c i p t x y body) 0 = 96 + c / 16 := gb_ofNat _ (by omega)
  have q1 : gb (all6 c i p t x y body) 1 = 16 * (c % 16) + i / 65536 := gb_ofNat _ (by omega)
  have q2 : gb (all6 c i p t x y body) 2 = i / 256 % 256 := gb_ofNat _ (by omega)
  have q3 : gb (all6 c i p t x y body) 3 = i % 256 := gb_ofNat _ (by omega)
  have q4 : gb (all6 c i p t x y body) 4 = body.length / 256 := gb_ofNat _ (by omega)
  have q5 : gb (all6 c i p t x y body) 5 = body.length % 256 := gb_ofNat _ (by omega)
  have q6 : gb (all6 c i p t x y body) 6 = p := gb_ofNat _ hp
  have q7 : gb (all6 c i p t x y body) 7 = t := gb_ofNat _ ht
  have ht6 : tot6 (all6 c i p t x y body) = 40 + body.length := by unfold tot6; rw [q4, q5]; omega
  refine ⟨?_, ?_, ?_, ?_, hl⟩
  · rcases bad6_cases (all6 c i p t x y body) with ⟨h, h1⟩ | ⟨h, h1, h2⟩ | ⟨h, h1, h2, h3⟩ | ⟨h, _⟩
    · omega
    · rw [q0] at h2; omega
    · omega
    · exact h
  · unfold ns6
    rw [ht6, q0, q1, q2, q3, q6, q7]
    congr 4
    · congr 1
      omega
    · congr 1
      · congr 1; omega
  · show ((x ++ y ++ body).take 16) = x
    rw [List.append_assoc, List.take_append_of_le_length (by omega), List.take_of_length_le (by omega)]
  · show (((x ++ y ++ body).drop 16).take 16) = y
    rw [List.append_assoc, List.drop_append, List.drop_of_length_le (by omega), List.nil_append, hx, Nat.sub_self, List.drop_zero, List.take_append_of_le_length (by omega), List.take_of_length_le (by omega)]

/-! The bytes of a head of family 4. -/
def raw4 (c n i f r t p : Nat) : List UInt8 := [69, UInt8.ofNat c, UInt8.ofNat (n / 256), UInt8.ofNat (n % 256), UInt8.ofNat (i / 256), UInt8.ofNat (i % 256), UInt8.ofNat ((8192 * f + r) / 256), UInt8.ofNat ((8192 * f + r) % 256), UInt8.ofNat t, UInt8.ofNat p, 0, 0]
/-- The head without its check. -/
def bare4 (c n i f r t p : Nat) (x y : List UInt8) : List UInt8 := raw4 c n i f r t p ++ x ++ y
def head4 (c n i f r t p : Nat) (x y : List UInt8) : List UInt8 := filled (bare4 c n i f r t p x y) 5 (65535 - sum16 (bare4 c n i f r t p x y))
theorem bare4_length (c n i f r t p : Nat) (x y : List UInt8) (hx : x.length = 4) (hy : y.length = 4) : (bare4 c n i f r t p x y).length = 20 := by simp [bare4, raw4, hx, hy]
theorem bare4_blank (c n i f r t p : Nat) (x y : List UInt8) : Os.blank (bare4 c n i f r t p x y) 5 = bare4 c n i f r t p x y := by
  unfold Os.blank bare4 raw4
  rfl
theorem list4 {l : List UInt8} (h : l.length = 4) : ∃ a b c d : UInt8, l = [a, b, c, d] := by
  match l, h with
  | [a, b, c, d], _ => exact ⟨a, b, c, d, rfl⟩
theorem head4_form (c n i f r t p : Nat) (x y : List UInt8) : head4 c n i f r t p x y = ((raw4 c n i f r t p).take 10).append ([UInt8.ofNat ((65535 - sum16 (bare4 c n i f r t p x y)) / 256), UInt8.ofNat ((65535 - sum16 (bare4 c n i f r t p x y)) % 256)] ++ (x ++ y)) := by
  unfold head4
  generalize 65535 - sum16 (bare4 c n i f r t p x y) = s
  unfold filled
  rw [bare4_blank]
  rfl
def all4 (c i f r t p : Nat) (x y body : List UInt8) : List UInt8 := head4 c (20 + body.length) i f r t p x y ++ body
theorem all4_back (c i f r t p : Nat) (x y body : List UInt8) (hc : c < 256) (hi : i < 65536) (hn : 20 + body.length < 65536) (hf : f < 8) (hr : r < 8192) (ht : t < 256) (hp : p < 256) (hx : x.length = 4) (hy : y.length = 4) :
    bad4 (all4 c i f r t p x y body) = 0 ∧ ns4 (all4 c i f r t p x y body) = [4, 20, ((20 + body.length : Nat) : Int), (c : Int), (i : Int), (f : Int), (r : Int), (t : Int), (p : Int)] ∧ ((all4 c i f r t p x y body).drop 12).take 4 = x ∧ ((all4 c i f r t p x y body).drop 16).take 4 = y ∧ (all4 c i f r t p x y body).length = 20 + body.length ∧ siz4 (all4 c i f r t p x y body) = 20 := by
  have hb := bare4_length c (20 + body.length) i f r t p x y hx hy
  have hg := (filled_good (bare4 c (20 + body.length) i f r t p x y) 5 (by rw [hb]; decide)).2.2
  rw [bare4_blank] at hg
  change sum16 (head4 c (20 + body.length) i f r t p x y) = 65535 at hg
  have h20 : (head4 c (20 + body.length) i f r t p x y).length = 20 := by unfold head4; rw [filled_length, hb]
  have hl : (all4 c i f r t p x y body).length = 20 + body.length := by unfold all4; rw [List.length_append, h20]
  have hform := head4_form c (20 + body.length) i f r t p x y
  generalize 65535 - sum16 (bare4 c (20 + body.length) i f r t p x y) = s at hform
  have hall : all4 c i f r t p x y body = (((raw4 c (20 + body.length) i f r t p).take 10).append ([UInt8.ofNat (s / 256), UInt8.ofNat (s % 256)] ++ (x ++ y))) ++ body := by unfold all4; rw [hform]
  have q0 : gb (all4 c i f r t p x y body) 0 = 69 := by rw [hall]; rfl
  have q1 : gb (all4 c i f r t p x y body) 1 = c := by rw [hall]; exact gb_ofNat _ hc
  have q2 : gb (all4 c i f r t p x y body) 2 = (20 + body.length) / 256 := by rw [hall]; exact gb_ofNat _ (by omega)
  have q3 : gb (all4 c i f r t p x y body) 3 = (20 + body.length) % 256 := by rw [hall]; exact gb_ofNat _ (by omega)
  have q4 : gb (all4 c i f r t p x y body) 4 = i / 256 := by rw [hall]; exact gb_ofNat _ (by omega)
  have q5 : gb (all4 c i f r t p x y body) 5 = i % 256 := by rw [hall]; exact gb_ofNat _ (by omega)
  have q6 : gb (all4 c i f r t p x y body) 6 = (8192 * f + r) / 256 := by rw [hall]; exact gb_ofNat _ (by omega)
  have q7 : gb (all4 c i f r t p x y body) 7 = (8192 * f + r) % 256 := by rw [hall]; exact gb_ofNat _ (by omega)
  have q8 : gb (all4 c i f r t p x y body) 8 = t := by rw [hall]; exact gb_ofNat _ ht
  have q9 : gb (all4 c i f r t p x y body) 9 = p := by rw [hall]; exact gb_ofNat _ hp
  have e1 : siz4 (all4 c i f r t p x y body) = 20 := by unfold siz4; rw [q0]
  have e2 : tot4 (all4 c i f r t p x y body) = 20 + body.length := by unfold tot4; rw [q2, q3]; omega
  have e3 : (all4 c i f r t p x y body).take 20 = head4 c (20 + body.length) i f r t p x y := by unfold all4; rw [List.take_append_of_le_length (by omega), List.take_of_length_le (by omega)]
  have e4 : badS (all4 c i f r t p x y body) = 0 := by
    rcases badS_cases (all4 c i f r t p x y body) with h | h | h | h | h | h | h
    all_goals (clear hall hform hr hf; generalize siz4 (all4 c i f r t p x y body) = u1 at *; generalize tot4 (all4 c i f r t p x y body) = u2 at *; generalize gb (all4 c i f r t p x y body) 0 = u3 at *; omega)
  refine ⟨?_, ?_, ?_, ?_, hl, e1⟩
  · unfold bad4
    rw [if_neg (by rw [e4]; simp), e1, e3, if_neg (by rw [hg]; simp)]
  · unfold ns4
    rw [e1, e2, q1, q4, q5, q6, q7, q8, q9]
    rw [show 256 * (i / 256) + i % 256 = i by omega, show (8192 * f + r) / 256 / 32 = f by omega, show (256 * ((8192 * f + r) / 256) + (8192 * f + r) % 256) % 8192 = r by omega]
    rfl
  · rw [hall]
    show ((x ++ y ++ body).take 4) = x
    rw [List.append_assoc, List.take_append_of_le_length (by omega), List.take_of_length_le (by omega)]
  · rw [hall]
    obtain ⟨a, b, c', d, rfl⟩ := list4 hx
    show ((y ++ body).take 4) = y
    rw [List.take_append_of_le_length (by omega), List.take_of_length_le (by omega)]
end Go.Proofs.Ytkfjobanbnokoaa.Ip
