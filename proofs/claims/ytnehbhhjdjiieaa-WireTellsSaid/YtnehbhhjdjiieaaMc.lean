/- Package cookie and its reference: the bytes of a message. -/
import Derived.Test.YtnehbhhjdjiieaaMp
import Derived.Test.YtnehbhhjdjiieaaMq
import Derived.Test.YtnehbhhjdjiieaaTk
import Derived.Deep.RegionHeld3
import Derived.RegionTactic
import Derived.ChangeAlike
set_option linter.unusedSimpArgs false
set_option linter.unusedVariables false
set_option maxRecDepth 100000
namespace Go.Proofs.Ytnehbhhjdjiieaa.Mc
open Go.RowKit Go.Proofs.YtnehbhhjdjiieaaW.PrintWords Go.Proofs.Ytnehbhhjdjiieaa.Bs Go.Proofs.Ytnehbhhjdjiieaa.Le Go.Proofs.Ytnehbhhjdjiieaa.Mv

set_option maxHeartbeats 4000000 in
theorem refBytes_any (n : Nat) (L : List UInt8) (w : World) (hn : n < 4294967296) (hL : L.length = 56) :
    Calls Try.prog 21 #[.agg (MV [n] L)] w (Row w (raw1 3 n L)) := by
  have hc : ∀ o, ((w.alloc (.cells (MV [n] L) 26)).alloc o).cell? ⟨w.heap.size, 0, none⟩ = some (.int .u32 (n : Int)) := fun o => (blk_cell (blk_old (blk_new w _) o) 0).trans (MV_num n _ L)
  have HL := Lib.hid hL
  clear hL
  go_enter Try.func21, Try.ntmps21
  go_wp2_with fail
  refine (En.put_any n 4 _ (by omega) (by omega) (by omega) (fun _ => by show n < 256 ^ 4; omega)).mono ?_
  rintro e w1 ⟨v, rfl, hv, hb⟩
  have HO : Hid (OB (w.alloc (.cells (MV [n] L) 26)).heap.size w1 (.slice (some ⟨w.heap.size + 1, 0, none⟩) 4 4) [3, 0, 0, 0]) := Lib.hid (by
    have h := OB.lit (w.alloc (.cells (MV [n] L) 26)) (w.alloc (.cells (MV [n] L) 26)).heap.size [3, 0, 0, 0] (Nat.le_refl _) (by decide)
    rw [size_push] at h ⊢
    exact h.below hb)
  have HV := Lib.hid hv.rb
  have HB : Hid (Below (w.alloc (.cells (MV [n] L) 26)).heap.size (w.alloc (.cells (MV [n] L) 26)) w1) := Lib.hid (below_comp (below_alloc (Below.refl _ _) _) hb)
  have HBX : Hid ((w.alloc (.cells (MV [n] L) 26)).heap[w.heap.size]? = some (.cells (MV [n] L) 26 (0, 0))) := Lib.hid (blk_new w _)
  have HW : Hid (Below w.heap.size w (w.alloc (.cells (MV [n] L) 26))) := Lib.hid (below_alloc (Below.refl _ _) _)
  have HSZ : Hid ((w.alloc (.cells (MV [n] L) 26)).heap.size = w.heap.size + 1) := Lib.hid (size_push _ _)
  clear hv hb hc
  generalize (w.alloc (.cells (MV [n] L) 26)) = w0 at HO HB HBX HW HSZ
  go_wp2_with (first | ((with_reducible refine is_builtin (b := .append) (xs := #[.tmp 16, .tmp 17]) rfl ?_); refine append_bytes (w0 := w0) (w0).heap.size rfl (.tmp 16) (.tmp 17) rfl (.slice (some ⟨w.heap.size + 1, 0, none⟩) 4 4) v [3, 0, 0, 0] (leB 4 n) rfl rfl ?aO ?aR ?aB ?aS ?aL ?_; (case aO => exact HO.out); (case aR => exact HV.out); (case aB => exact HB.out); (case aS => exact (HB.out).size); (case aL => simp [leB_length]); intro v1 w1 ho hb1 _ _; have HO1 := Lib.hid ho; have HB1 := Lib.hid hb1; clear ho hb1))
  go_loopw [3, 6] (fun v3 v6 wr => ∃ i : Nat, i ≤ 24 ∧ v6 = .int .i64 i ∧ Hid (OB w0.heap.size wr v3 (([3, 0, 0, 0] ++ leB 4 n) ++ L.take (0 + i))) ∧ Hid (Below w0.heap.size w0 wr)) (fun _ v6 _ => 24 - (intOf v6).toNat)
  case atStart => exact ⟨0, Nat.zero_le _, rfl, (Lib.hid (by rw [Nat.add_zero, List.take_zero, List.append_nil]; exact HO1.out)), HB1⟩
  case round =>
    obtain ⟨i, hi, rfl, HO, HB⟩ := hrel
    have hil : i < 24 → 0 + i < L.length := fun h => by have := HL.out; omega
    by_cases hlt : i < 24
    · have hcell : wr.cell? ⟨w.heap.size, 1 + i, none⟩ = some (.int .u8 ((L.getD (0 + i) 0).toNat : Int)) := by
        refine (HB.out.cell (by show w.heap.size < w0.heap.size; rw [HSZ.out]; omega)).trans ((blk_cell HBX.out _).trans ?_)
        exact MV_at [n] L _ (0 + i) (by (try simp only [List.length_cons, List.length_nil]); omega) (hil hlt)
      have hby := byte_lt (L.getD (0 + i) 0)
      have HF : Hid (([3, 0, 0, 0] ++ leB 4 n) ++ L.take (0 + i) ++ [UInt8.ofNat (((L.getD (0 + i) 0).toNat : Int)).toNat] = ([3, 0, 0, 0] ++ leB 4 n) ++ L.take (0 + (i + 1))) := Lib.hid (by
        rw [List.append_assoc, ← Nat.add_assoc, take_snoc L _ (hil hlt), Int.toNat_natCast]; simp)
      have HLN : Hid ((([3, 0, 0, 0] ++ leB 4 n) ++ L.take (0 + i)).length + 1 ≤ 140737488355328) := Lib.hid (by have := HL.out; simp only [List.length_append, List.length_take, List.length_cons, List.length_nil, leB_length]; omega)
      generalize (L.getD (0 + i) 0).toNat = x at hcell hby HF
      clear hil
      go_wp2_with (first | ((with_reducible refine is_builtin (b := .append) (xs := #[.tmp 23, .tmp 28]) rfl ?_); refine append_byte (w0 := w0) (w0).heap.size rfl (.tmp 23) (.tmp 28) rfl u3 (([3, 0, 0, 0] ++ leB 4 n) ++ L.take (0 + i)) x ?n0 ?n1 rfl rfl ?aO ?aB ?aS ?aL ?_; (case n0 => omega); (case n1 => exact hby); (case aO => exact HO.out); (case aB => exact HB.out); (case aS => exact (HB.out).size); (case aL => exact HLN.out); intro v1 w1 ho hb1 _ _; have HO1 := Lib.hid ho; have HB1 := Lib.hid hb1; clear ho hb1))
      go_roundw
      case rel => exact ⟨i + 1, by omega, by go_num, Lib.hid (by rw [← HF.out]; exact HO1.out), HB1⟩
      case measure => (simp [intOf]) <;> omega
    · have hi0 : i = 24 := by omega
      have HO1 := HO
      have HB1 := HB
      rw [hi0] at HO1
      clear HO HB hil hi0
      go_wp2
      go_loopw [3, 7] (fun v3 v7 wr => ∃ i : Nat, i ≤ 32 ∧ v7 = .int .i64 i ∧ Hid (OB w0.heap.size wr v3 (([3, 0, 0, 0] ++ leB 4 n) ++ L.take (24 + i))) ∧ Hid (Below w0.heap.size w0 wr)) (fun _ v7 _ => 32 - (intOf v7).toNat)
      case atStart => exact ⟨0, Nat.zero_le _, rfl, HO1, HB1⟩
      case round =>
        obtain ⟨i, hi, rfl, HO, HB⟩ := hrel
        have hil : i < 32 → 24 + i < L.length := fun h => by have := HL.out; omega
        by_cases hlt : i < 32
        · have hcell : wr.cell? ⟨w.heap.size, 25 + i, none⟩ = some (.int .u8 ((L.getD (24 + i) 0).toNat : Int)) := by
            refine (HB.out.cell (by show w.heap.size < w0.heap.size; rw [HSZ.out]; omega)).trans ((blk_cell HBX.out _).trans ?_)
            exact MV_at [n] L _ (24 + i) (by (try simp only [List.length_cons, List.length_nil]); omega) (hil hlt)
          have hby := byte_lt (L.getD (24 + i) 0)
          have HF : Hid (([3, 0, 0, 0] ++ leB 4 n) ++ L.take (24 + i) ++ [UInt8.ofNat (((L.getD (24 + i) 0).toNat : Int)).toNat] = ([3, 0, 0, 0] ++ leB 4 n) ++ L.take (24 + (i + 1))) := Lib.hid (by
            rw [List.append_assoc, ← Nat.add_assoc, take_snoc L _ (hil hlt), Int.toNat_natCast]; simp)
          have HLN : Hid ((([3, 0, 0, 0] ++ leB 4 n) ++ L.take (24 + i)).length + 1 ≤ 140737488355328) := Lib.hid (by have := HL.out; simp only [List.length_append, List.length_take, List.length_cons, List.length_nil, leB_length]; omega)
          generalize (L.getD (24 + i) 0).toNat = x at hcell hby HF
          clear hil
          go_wp2_with (first | ((with_reducible refine is_builtin (b := .append) (xs := #[.tmp 34, .tmp 39]) rfl ?_); refine append_byte (w0 := w0) (w0).heap.size rfl (.tmp 34) (.tmp 39) rfl u3 (([3, 0, 0, 0] ++ leB 4 n) ++ L.take (24 + i)) x ?n0 ?n1 rfl rfl ?aO ?aB ?aS ?aL ?_; (case n0 => omega); (case n1 => exact hby); (case aO => exact HO.out); (case aB => exact HB.out); (case aS => exact (HB.out).size); (case aL => exact HLN.out); intro v1 w1 ho hb1 _ _; have HO1 := Lib.hid ho; have HB1 := Lib.hid hb1; clear ho hb1))
          go_roundw
          case rel => exact ⟨i + 1, by omega, by go_num, Lib.hid (by rw [← HF.out]; exact HO1.out), HB1⟩
          case measure => (simp [intOf]) <;> omega
        · have hi1 : i = 32 := by omega
          go_wp2
          go_ret
          exact ⟨_, rfl, by have h := HO.out; rw [hi1] at h; rw [List.take_of_length_le (by have := HL.out; omega)] at h; exact h.weaken HW.out.size, HW.out.trans (HB.out.mono HW.out.size)⟩

set_option maxHeartbeats 4000000 in
theorem bytes_any (n : Nat) (L : List UInt8) (w : World) (hn : n < 4294967296) (hL : L.length = 56) :
    Calls Try.prog 18 #[.agg (MV [n] L)] w (Row w (raw1 3 n L)) := by
  have hc0 : ∀ o, ((w.alloc (.cells (MV [n] L) 26)).alloc o).cell? ⟨w.heap.size, 0, none⟩ = some (.int .u32 (n : Int)) := fun o => (blk_cell (blk_old (blk_new w _) o) 0).trans (MV_num n _ L)
  have hmk : ∀ W : World, (Instr.makeSlice 27 (.int .i64 4) (.int .i64 64)).run Try.prog W = .ok (.slice (some ⟨W.heap.size, 0, none⟩) 4 64) (W.alloc (.cells (madeCells #[.int .u8 0] 64) 5)) := make_cap 4 64 (by decide) (by decide)
  have hm0 : (madeCells #[Value.int .u8 0] 64)[0]? = some (.int .u8 0) := by kernel_rfl
  have HL := Lib.hid hL
  clear hL
  go_enter Try.func18, Try.ntmps18
  go_wp2_with fail
  have HO1 : Hid (OB (w.alloc (.cells (MV [n] L) 26)).heap.size (((w.alloc (.cells (MV [n] L) 26)).alloc (.cells ((madeCells #[Value.int .u8 0] 64).setIfInBounds 0 (.int .u8 3)) 5)).alloc (.cells #[.int .u32 (n : Int)] 22)) (.slice (some ⟨w.heap.size + 1, 0, none⟩) 4 64) [3, 0, 0, 0]) := Lib.hid ⟨by rfl, .inr ⟨w.heap.size + 1, 64, _, rfl, (by rw [size_push]; exact Nat.le_refl _), blk_old (blk_new1 w _ _) _, by decide, by decide, by kernel_rfl, by kernel_rfl⟩⟩
  have HB1 : Hid (Below (w.alloc (.cells (MV [n] L) 26)).heap.size (w.alloc (.cells (MV [n] L) 26)) (((w.alloc (.cells (MV [n] L) 26)).alloc (.cells ((madeCells #[Value.int .u8 0] 64).setIfInBounds 0 (.int .u8 3)) 5)).alloc (.cells #[.int .u32 (n : Int)] 22))) := Lib.hid (below_alloc (below_alloc (Below.refl _ _) _) _)
  have HN1 : Hid ((((w.alloc (.cells (MV [n] L) 26)).alloc (.cells ((madeCells #[Value.int .u8 0] 64).setIfInBounds 0 (.int .u8 3)) 5)).alloc (.cells #[.int .u32 (n : Int)] 22)).heap[w.heap.size + 1 + 1]? = some (.cells #[.int .u32 (n : Int)] 22 (0, 0))) := Lib.hid (by have h := blk_new1 (w.alloc (.cells (MV [n] L) 26)) (.cells ((madeCells #[Value.int .u8 0] 64).setIfInBounds 0 (.int .u8 3)) 5) (.cells #[.int .u32 (n : Int)] 22); rwa [size_push] at h)
  have HBX : Hid ((w.alloc (.cells (MV [n] L) 26)).heap[w.heap.size]? = some (.cells (MV [n] L) 26 (0, 0))) := Lib.hid (blk_new w _)
  have HW : Hid (Below w.heap.size w (w.alloc (.cells (MV [n] L) 26))) := Lib.hid (below_alloc (Below.refl _ _) _)
  have HSZ : Hid ((w.alloc (.cells (MV [n] L) 26)).heap.size = w.heap.size + 1) := Lib.hid (size_push _ _)
  clear hmk hm0 hc0
  generalize (w.alloc (.cells (MV [n] L) 26)) = w0 at HO1 HB1 HN1 HBX HW HSZ ⊢
  generalize ((w0.alloc (.cells ((madeCells #[Value.int .u8 0] 64).setIfInBounds 0 (.int .u8 3)) 5)).alloc (.cells #[.int .u32 (n : Int)] 22)) = w1 at HO1 HB1 HN1 ⊢
  go_loopw [3, 17] (fun v3 v17 wr => ∃ j : Nat, j ≤ 1 ∧ v17 = .int .i64 j ∧ Hid (OB w0.heap.size wr v3 ([3, 0, 0, 0] ++ flat ([n].take j))) ∧ Hid (Below w0.heap.size w0 wr) ∧ Hid (wr.heap[w.heap.size + 1 + 1]? = some (.cells #[.int .u32 (n : Int)] 22 (0, 0))) ∧ Hid (some (w.heap.size + 1 + 1) ≠ v3.ownBlock)) (fun _ v17 _ => 1 - (intOf v17).toNat)
  case atStart => exact ⟨0, Nat.zero_le _, rfl, HO1, HB1, HN1, Lib.hid (by simp [Value.ownBlock])⟩
  case round =>
    obtain ⟨j, hj, rfl, HO, HB, HN, HD⟩ := hrel
    by_cases hlt : j < 1
    · have hcell : wr.cell? ⟨w.heap.size + 1 + 1, j, none⟩ = some (.int .u32 (([n].getD j 0 : Nat) : Int)) := by
        rw [blk_cell HN.out j]
        obtain rfl : j = 0 := by omega
        · rfl
      have hmn : [n].getD j 0 < 4294967296 := by
        obtain rfl : j = 0 := by omega
        · exact hn
      have HF := Lib.hid (flat_snoc [n] j (by simpa using hlt))
      have HLN : Hid (([3, 0, 0, 0] ++ flat ([n].take j)).length + 4 ≤ 140737488355328) := Lib.hid (by rw [List.length_append, flat_length, List.length_take]; simp; omega)
      generalize [n].getD j 0 = q at hcell hmn HF
      go_wp2_with fail
      refine (En.little_any q 4 _ (by omega) (by omega) (by omega) (fun _ => by show q < 256 ^ 4; omega)).mono ?_
      rintro e w2 ⟨v, rfl, hv, hb⟩
      have HO2 := Lib.hid (HO.out.below hb)
      have HV2 := Lib.hid hv.rb
      have HB2 := Lib.hid (HB.out.trans (hb.mono HB.out.size))
      have HN2 := Lib.hid (blk_below HN.out hb)
      clear hv hb HO HB HN hcell
      go_wp2_with (first | ((with_reducible refine is_builtin (b := .append) (xs := #[.tmp 27, .tmp 28]) rfl ?_); refine append_bytes (w0 := w0) (w0).heap.size rfl (.tmp 27) (.tmp 28) rfl u3 v ([3, 0, 0, 0] ++ flat ([n].take j)) (leB 4 q) rfl rfl ?aO ?aR ?aB ?aS ?aL ?_; (case aO => exact HO2.out); (case aR => exact HV2.out); (case aB => exact HB2.out); (case aS => exact (HB2.out).size); (case aL => (rw [leB_length]; exact HLN.out)); intro v1 w1 ho hb1 hgr hown; have HO1 := Lib.hid ho; have HB1 := Lib.hid hb1; (have HN3 := Lib.hid (blk_grown HN2.out hgr HD.out); have HD3 : Hid (some (w.heap.size + 1 + 1) ≠ v1.ownBlock) := Lib.hid (by rcases hown with h | ⟨b, h, hb⟩; (rw [h]; exact HD.out); (rw [h]; intro e; injection e with e; have := blk_lt HN2.out; omega))); clear ho hb1 hgr hown))
      go_roundw
      case rel => exact ⟨j + 1, by omega, by go_num, Lib.hid (by rw [HF.out, ← List.append_assoc]; exact HO1.out), HB1, HN3, HD3⟩
      case measure => (simp [intOf]) <;> omega
    · have HO1 : Hid (OB w0.heap.size wr u3 ([3, 0, 0, 0] ++ flat [n])) := Lib.hid (by have h := HO.out; rwa [List.take_of_length_le (by simp; omega)] at h)
      clear HO HN HD
      go_wp2_with fail
      go_region
      go_wp2_with fail
      have HO2 : Hid (OB w0.heap.size (wr.alloc (.cells #[.slice (some ⟨w.heap.size, 1, none⟩) 24 24, .slice (some ⟨w.heap.size, 25, none⟩) 32 32] 27)).drew u3 ([3, 0, 0, 0] ++ flat [n])) := Lib.hid (HO1.out.below (below_drew (below_alloc (Below.refl _ _) _)))
      have HB2 : Hid (Below w0.heap.size w0 ((wr.alloc (.cells #[.slice (some ⟨w.heap.size, 1, none⟩) 24 24, .slice (some ⟨w.heap.size, 25, none⟩) 32 32] 27)).drew)) := Lib.hid (below_drew (below_alloc HB.out _))
      have HR2 : Hid (((wr.alloc (.cells #[.slice (some ⟨w.heap.size, 1, none⟩) 24 24, .slice (some ⟨w.heap.size, 25, none⟩) 32 32] 27)).drew).heap[wr.heap.size]? = some (.cells #[.slice (some ⟨w.heap.size, 1, none⟩) 24 24, .slice (some ⟨w.heap.size, 25, none⟩) 32 32] 27 (0, 0))) := Lib.hid (blk_new wr _)
      have HD2 : Hid (some wr.heap.size ≠ u3.ownBlock) := Lib.hid (by rcases RB.apart HO1.out.rb (Nat.le_refl _) with h | h; (simp at h); exact fun e => h e.symm)
      have HLS : Hid ([(L.drop 0).take 24, (L.drop 24).take 32].flatten = L) := Lib.hid (by
        simp only [List.flatten_cons, List.flatten_nil, List.append_nil]
        have e : (L.drop 0).take (24 + (32)) = L := by rw [List.drop_zero, List.take_of_length_le (by have := HL.out; omega)]
        rw [cutB] at e
        exact e)
      clear HO1 HB hlt
      generalize (wr.alloc (.cells #[.slice (some ⟨w.heap.size, 1, none⟩) 24 24, .slice (some ⟨w.heap.size, 25, none⟩) 32 32] 27)).drew = wx at HO2 HB2 HR2 ⊢
      generalize wr.heap.size = g at HR2 HD2 ⊢
      go_loopw [3, 37] (fun v3 v37 wr => ∃ k : Nat, k ≤ 2 ∧ v37 = .int .i64 k ∧ Hid (OB w0.heap.size wr v3 (([3, 0, 0, 0] ++ flat [n]) ++ ([(L.drop 0).take 24, (L.drop 24).take 32].take k).flatten)) ∧ Hid (Below w0.heap.size w0 wr) ∧ Hid (wr.heap[g]? = some (.cells #[.slice (some ⟨w.heap.size, 1, none⟩) 24 24, .slice (some ⟨w.heap.size, 25, none⟩) 32 32] 27 (0, 0))) ∧ Hid (some g ≠ v3.ownBlock)) (fun _ v37 _ => 2 - (intOf v37).toNat)
      case atStart => exact ⟨0, Nat.zero_le _, rfl, Lib.hid (by rw [List.take_zero, List.flatten_nil, List.append_nil]; exact HO2.out), HB2, HR2, HD2⟩
      case round =>
        obtain ⟨k, hk, rfl, HO, HB, HR, HD⟩ := hrel
        by_cases hlt : k < 2
        · have hbx : wr.heap[w.heap.size]? = some (.cells (MV [n] L) 26 (0, 0)) := (HB.out.block _ (by rw [HSZ.out]; omega)).trans HBX.out
          obtain ⟨p, q, hcu, hru⟩ : ∃ p q, wr.cell? ⟨g, k, none⟩ = some (.slice (some ⟨w.heap.size, p, none⟩) q q) ∧ RB wr (.slice (some ⟨w.heap.size, p, none⟩) q q) ([(L.drop 0).take 24, (L.drop 24).take 32].getD k []) := by
            rw [blk_cell HR.out k]
            have hl := HL.out
            obtain rfl | rfl : k = 0 ∨ k = 1 := by omega
            · exact ⟨1, 24, rfl, RB_block hbx 0 24 _ rfl (by omega) (by omega)⟩
            · exact ⟨25, 32, rfl, RB_block hbx 24 32 _ rfl (by omega) (by omega)⟩
          have HU := Lib.hid hru
          have HF := Lib.hid (flatten_snoc [(L.drop 0).take 24, (L.drop 24).take 32] k (by simpa using hlt))
          have HLN : Hid ((([3, 0, 0, 0] ++ flat [n]) ++ ([(L.drop 0).take 24, (L.drop 24).take 32].take k).flatten).length + ([(L.drop 0).take 24, (L.drop 24).take 32].getD k []).length ≤ 140737488355328) := Lib.hid (by
            have h1 := flatten_le [(L.drop 0).take 24, (L.drop 24).take 32] (k + 1)
            rw [HF.out, HLS.out, List.length_append] at h1
            have := HL.out
            rw [List.length_append, List.length_append, flat_length]
            simp only [List.length_cons, List.length_nil]
            omega)
          clear hru hbx
          generalize [(L.drop 0).take 24, (L.drop 24).take 32].getD k [] = y at HU HF HLN
          go_wp2_with (first | ((with_reducible refine is_builtin (b := .append) (xs := #[.tmp 41, .tmp 42]) rfl ?_); refine append_bytes (w0 := w0) (w0).heap.size rfl (.tmp 41) (.tmp 42) rfl u3 (.slice (some ⟨w.heap.size, p, none⟩) q q) (([3, 0, 0, 0] ++ flat [n]) ++ ([(L.drop 0).take 24, (L.drop 24).take 32].take k).flatten) y rfl rfl ?aO ?aR ?aB ?aS ?aL ?_; (case aO => exact HO.out); (case aR => exact HU.out); (case aB => exact HB.out); (case aS => exact (HB.out).size); (case aL => exact HLN.out); intro v1 w1 ho hb1 hgr hown; have HO1 := Lib.hid ho; have HB1 := Lib.hid hb1; (have HN3 := Lib.hid (blk_grown HR.out hgr HD.out); have HD3 : Hid (some g ≠ v1.ownBlock) := Lib.hid (by rcases hown with h | ⟨b, h, hb⟩; (rw [h]; exact HD.out); (rw [h]; intro e; injection e with e; have := blk_lt HR.out; omega))); clear ho hb1 hgr hown))
          go_roundw
          case rel => exact ⟨k + 1, by omega, by go_num, Lib.hid (by rw [HF.out, ← List.append_assoc]; exact HO1.out), HB1, HN3, HD3⟩
          case measure => (simp [intOf]) <;> omega
        · have HE : Hid (OB w0.heap.size wr u3 (raw1 3 n L)) := Lib.hid (by have h := HO.out; rw [List.take_of_length_le (by simp; omega), HLS.out, raw1_flat] at h; exact h)
          clear HO HR HD HLS
          go_wp2
          go_ret
          exact ⟨_, rfl, HE.out.weaken HW.out.size, HW.out.trans (HB.out.mono HW.out.size)⟩
end Go.Proofs.Ytnehbhhjdjiieaa.Mc
