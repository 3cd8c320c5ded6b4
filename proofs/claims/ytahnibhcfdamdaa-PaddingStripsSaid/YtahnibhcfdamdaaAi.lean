/- The reference's bytes of an address. -/
import Derived.Test.YtahnibhcfdamdaaAh
set_option linter.unusedSimpArgs false
set_option linter.unusedVariables false
set_option maxRecDepth 100000
namespace Go.Proofs.Ytahnibhcfdamdaa.Ad
open Go.RowKit Go.Proofs.YtahnibhcfdamdaaW.PrintWords Go.Proofs.Ytahnibhcfdamdaa.Bs Go.Proofs.Ytahnibhcfdamdaa.Av Go.Proofs.Ytahnibhcfdamdaa.Le

theorem take_snoc (l : List UInt8) (k : Nat) (h : k < l.length) : l.take (k + 1) = l.take k ++ [l.getD k 0] := by
  rw [List.take_succ_eq_append_getElem h]
  simp [List.getD_eq_getElem?_getD, List.getElem?_eq_getElem h]

set_option maxHeartbeats 2000000 in
theorem refBytes_any (v : Int) (l : List UInt8) (w : World) (hl : l.length = 16) :
    Calls Try.prog 99 #[.agg (AV [v] l)] w (Row w (bytesA v l)) := by
  have HX := Lib.hid (blk_new w (.cells (AV [v] l) 25))
  have HB := Lib.hid (below_alloc (Below.refl w.heap.size w) (.cells (AV [v] l) 25))
  have HL := Lib.hid hl
  have hw := widthA_cases v l
  unfold bytesA
  clear hl
  have hw3 : widthA v l = 0 ∨ widthA v l = 32 ∨ widthA v l = 128 := by rcases hw with ⟨h, _⟩ | ⟨h, _, _⟩ | ⟨h, _, _⟩ <;> simp [h]
  clear hw
  rcases hw3 with h1 | h1 | h1
  · rw [h1]
    show Calls _ _ _ _ (Row w (l.take 0))
    have H1 := Lib.hid h1
    clear h1
    go_enter Try.func99, Try.ntmps99
    go_wp2_with fail
    have HSZ : Hid ((w.alloc (.cells (AV [v] l) 25)).heap.size = w.heap.size + 1) := Lib.hid (size_push _ _)
    generalize w.alloc (.cells (AV [v] l) 25) = w0 at HX HB HSZ ⊢
    go_loopw [3, 4] (fun v3 v4 wr => ∃ i : Nat, i ≤ 0 ∧ v4 = .int .i64 i ∧ Hid (OB w0.heap.size wr v3 (l.take i)) ∧ Hid (Below w0.heap.size w0 wr)) (fun _ v4 _ => 0 - (intOf v4).toNat)
    case atStart => exact ⟨0, Nat.zero_le _, rfl, Lib.hid (OB.nil _ _), Lib.hid (Below.refl _ _)⟩
    case round =>
      obtain ⟨i, hi, rfl, HO, HBR⟩ := hrel
      have HXR := Lib.hid (blk_below HX.out HBR.out)
      go_wp2_with (first | ((with_reducible refine step_load (b := w.heap.size) (cs := (AV [v] l)) (T := 25) rfl 25 (.tmp 1) rfl rfl HXR.out _ Try.underlying25 rfl (info_AV v l HL.out) ?_)))
      refine (refWidth_any v l _ HL.out).mono ?_
      rintro e w1 ⟨rfl, hb⟩
      rw [H1.out]
      have HX1 := Lib.hid (blk_below HXR.out hb)
      have HB1 := Lib.hid (HBR.out.trans (hb.mono HBR.out.size))
      have HO1 := Lib.hid (HO.out.below hb)
      clear hb HO HBR HXR
      by_cases hlt : i < 0
      · exact absurd hlt (Nat.not_lt_zero _)
      · have hi1 : i = 0 := by omega
        rw [hi1] at HO1
        clear hi1
        go_wp2_with fail
        go_ret
        exact ⟨_, rfl, HO1.out.weaken (by rw [HSZ.out]; omega), HB.out.trans (HB1.out.mono (by rw [HSZ.out]; omega))⟩
  · rw [h1]
    show Calls _ _ _ _ (Row w (l.take 4))
    have H1 := Lib.hid h1
    clear h1
    go_enter Try.func99, Try.ntmps99
    go_wp2_with fail
    have HSZ : Hid ((w.alloc (.cells (AV [v] l) 25)).heap.size = w.heap.size + 1) := Lib.hid (size_push _ _)
    generalize w.alloc (.cells (AV [v] l) 25) = w0 at HX HB HSZ ⊢
    go_loopw [3, 4] (fun v3 v4 wr => ∃ i : Nat, i ≤ 4 ∧ v4 = .int .i64 i ∧ Hid (OB w0.heap.size wr v3 (l.take i)) ∧ Hid (Below w0.heap.size w0 wr)) (fun _ v4 _ => 4 - (intOf v4).toNat)
    case atStart => exact ⟨0, Nat.zero_le _, rfl, Lib.hid (OB.nil _ _), Lib.hid (Below.refl _ _)⟩
    case round =>
      obtain ⟨i, hi, rfl, HO, HBR⟩ := hrel
      have HXR := Lib.hid (blk_below HX.out HBR.out)
      go_wp2_with (first | ((with_reducible refine step_load (b := w.heap.size) (cs := (AV [v] l)) (T := 25) rfl 25 (.tmp 1) rfl rfl HXR.out _ Try.underlying25 rfl (info_AV v l HL.out) ?_)))
      refine (refWidth_any v l _ HL.out).mono ?_
      rintro e w1 ⟨rfl, hb⟩
      rw [H1.out]
      have HX1 := Lib.hid (blk_below HXR.out hb)
      have HB1 := Lib.hid (HBR.out.trans (hb.mono HBR.out.size))
      have HO1 := Lib.hid (HO.out.below hb)
      clear hb HO HBR HXR
      by_cases hlt : i < 4
      · have hcell : w1.cell? ⟨w.heap.size, 1 + i, none⟩ = some (.int .u8 ((l.getD i 0).toNat : Int)) := (blk_cell HX1.out _).trans (AV_at [v] l _ i rfl (by rw [HL.out]; omega))
        have hby := byte_lt (l.getD i 0)
        have HF : Hid (l.take i ++ [UInt8.ofNat (((l.getD i 0).toNat : Int)).toNat] = l.take (i + 1)) := Lib.hid (by
          rw [take_snoc l i (by rw [HL.out]; omega), Int.toNat_natCast]; simp)
        have HLN : Hid ((l.take i).length + 1 ≤ 140737488355328) := Lib.hid (by rw [List.length_take, HL.out]; omega)
        generalize (l.getD i 0).toNat = x at hcell hby HF
        go_wp2_with (first | ((with_reducible refine is_builtin (b := .append) (xs := #[.tmp 12, .tmp 17]) rfl ?_); refine append_byte (w0 := w0) (w0).heap.size rfl (.tmp 12) (.tmp 17) rfl u3 (l.take i) x ?n0 ?n1 rfl rfl ?aO ?aB ?aS ?aL ?_; (case n0 => omega); (case n1 => exact hby); (case aO => exact HO1.out); (case aB => exact HB1.out); (case aS => exact (HB1.out).size); (case aL => exact HLN.out); intro v1 w1 ho hb1 _ _; have HO1 := Lib.hid ho; have HB1 := Lib.hid hb1; clear ho hb1))
        go_roundw
        case rel => exact ⟨i + 1, by omega, by go_num, Lib.hid (by rw [← HF.out]; exact HO1.out), HB1⟩
        case measure => (simp [intOf]) <;> omega
      · have hi1 : i = 4 := by omega
        rw [hi1] at HO1
        clear hi1
        go_wp2_with fail
        go_ret
        exact ⟨_, rfl, HO1.out.weaken (by rw [HSZ.out]; omega), HB.out.trans (HB1.out.mono (by rw [HSZ.out]; omega))⟩
  · rw [h1]
    show Calls _ _ _ _ (Row w (l.take 16))
    have H1 := Lib.hid h1
    clear h1
    go_enter Try.func99, Try.ntmps99
    go_wp2_with fail
    have HSZ : Hid ((w.alloc (.cells (AV [v] l) 25)).heap.size = w.heap.size + 1) := Lib.hid (size_push _ _)
    generalize w.alloc (.cells (AV [v] l) 25) = w0 at HX HB HSZ ⊢
    go_loopw [3, 4] (fun v3 v4 wr => ∃ i : Nat, i ≤ 16 ∧ v4 = .int .i64 i ∧ Hid (OB w0.heap.size wr v3 (l.take i)) ∧ Hid (Below w0.heap.size w0 wr)) (fun _ v4 _ => 16 - (intOf v4).toNat)
    case atStart => exact ⟨0, Nat.zero_le _, rfl, Lib.hid (OB.nil _ _), Lib.hid (Below.refl _ _)⟩
    case round =>
      obtain ⟨i, hi, rfl, HO, HBR⟩ := hrel
      have HXR := Lib.hid (blk_below HX.out HBR.out)
      go_wp2_with (first | ((with_reducible refine step_load (b := w.heap.size) (cs := (AV [v] l)) (T := 25) rfl 25 (.tmp 1) rfl rfl HXR.out _ Try.underlying25 rfl (info_AV v l HL.out) ?_)))
      refine (refWidth_any v l _ HL.out).mono ?_
      rintro e w1 ⟨rfl, hb⟩
      rw [H1.out]
      have HX1 := Lib.hid (blk_below HXR.out hb)
      have HB1 := Lib.hid (HBR.out.trans (hb.mono HBR.out.size))
      have HO1 := Lib.hid (HO.out.below hb)
      clear hb HO HBR HXR
      by_cases hlt : i < 16
      · have hcell : w1.cell? ⟨w.heap.size, 1 + i, none⟩ = some (.int .u8 ((l.getD i 0).toNat : Int)) := (blk_cell HX1.out _).trans (AV_at [v] l _ i rfl (by rw [HL.out]; omega))
        have hby := byte_lt (l.getD i 0)
        have HF : Hid (l.take i ++ [UInt8.ofNat (((l.getD i 0).toNat : Int)).toNat] = l.take (i + 1)) := Lib.hid (by
          rw [take_snoc l i (by rw [HL.out]; omega), Int.toNat_natCast]; simp)
        have HLN : Hid ((l.take i).length + 1 ≤ 140737488355328) := Lib.hid (by rw [List.length_take, HL.out]; omega)
        generalize (l.getD i 0).toNat = x at hcell hby HF
        go_wp2_with (first | ((with_reducible refine is_builtin (b := .append) (xs := #[.tmp 12, .tmp 17]) rfl ?_); refine append_byte (w0 := w0) (w0).heap.size rfl (.tmp 12) (.tmp 17) rfl u3 (l.take i) x ?n0 ?n1 rfl rfl ?aO ?aB ?aS ?aL ?_; (case n0 => omega); (case n1 => exact hby); (case aO => exact HO1.out); (case aB => exact HB1.out); (case aS => exact (HB1.out).size); (case aL => exact HLN.out); intro v1 w1 ho hb1 _ _; have HO1 := Lib.hid ho; have HB1 := Lib.hid hb1; clear ho hb1))
        go_roundw
        case rel => exact ⟨i + 1, by omega, by go_num, Lib.hid (by rw [← HF.out]; exact HO1.out), HB1⟩
        case measure => (simp [intOf]) <;> omega
      · have hi1 : i = 16 := by omega
        rw [hi1] at HO1
        clear hi1
        go_wp2_with fail
        go_ret
        exact ⟨_, rfl, HO1.out.weaken (by rw [HSZ.out]; omega), HB.out.trans (HB1.out.mono (by rw [HSZ.out]; omega))⟩
end Go.Proofs.Ytahnibhcfdamdaa.Ad
