/- Messages that carry a packet, compared; and what alive asks. -/
import Derived.Test.YtnehbhhjdjiieaaDq
import Derived.Laws.BytesString
import Derived.Laws.BytesArg
import Derived.Laws.IdiomStrings
import Derived.Lib.Strings
import Derived.Lib.Bytes
import Derived.Laws.StructEq
set_option linter.unusedSimpArgs false
set_option linter.unusedVariables false
set_option maxRecDepth 100000
namespace Go.Proofs.Ytnehbhhjdjiieaa.Da
open Go.RowKit Go.Proofs.YtnehbhhjdjiieaaW.PrintWords Go.Proofs.Ytnehbhhjdjiieaa.Bs Go.Proofs.Ytnehbhhjdjiieaa.Le Go.Proofs.Ytnehbhhjdjiieaa.Mv Go.Proofs.Ytnehbhhjdjiieaa.Co Go.Proofs.Ytnehbhhjdjiieaa.Tk

theorem RB.str {w : World} {v : Value} {l : List UInt8} (h : RB w v l) : (convert 27 9 v).run Try.prog w = .ok (.string ⟨l.toArray⟩) w := by
  obtain ⟨A, c, rfl, _, hr⟩ := h
  cases A with
  | none =>
    have hl : l = [] := by
      by_cases h0 : 0 < l.length
      · obtain ⟨ad, e, _⟩ := hr.2.2 h0; cases e
      · exact List.eq_nil_of_length_eq_zero (by omega)
    subst hl
    exact run_convert_bytes_nil w 27 5 Try.underlying27 Try.underlying5 _ _ 9 Try.underlying9
  | some ad =>
    refine run_convert_bytes_back w 27 9 5 ad c l Try.underlying27 Try.underlying5 Try.underlying9 (fun j hj => ?_)
    obtain ⟨ad', e, hc⟩ := hr.2.2 (by omega)
    injection e with e
    subst e
    rw [hc j hj]
    simp [B, List.getD_eq_getElem?_getD, List.getElem?_eq_getElem hj]

theorem bytesEq_any (v u : Value) (l m : List UInt8) (w : World) (hr : RB w v l) (hs : RB w u m) :
    Calls Try.prog 69 #[v, u] w fun e w' => e = .returned (.bool (decide (l = m))) ∧ w = w' := by
  have h1 := RB.str hr
  have h2 := RB.str hs
  have HX := Lib.hid (ByteArray.toList_mk l)
  have HY := Lib.hid (ByteArray.toList_mk m)
  generalize (⟨l.toArray⟩ : ByteArray) = x at h1 HX
  generalize (⟨m.toArray⟩ : ByteArray) = y at h2 HY
  clear hr hs
  go_enter Try.func69, Try.ntmps69
  go_wp2
  go_ret
  refine ⟨ret_bool ?_, rfl⟩
  rw [Bool.eq_iff_iff]
  simp [HX.out, HY.out]

set_option maxHeartbeats 1000000 in
theorem refSame_any (r1 r2 c1 c2 : Nat) (A1 A2 : Option Addr) (k1 k2 : Nat) (l m : List UInt8) (w : World) (h1 : RB w (.slice A1 l.length k1) l) (h2 : RB w (.slice A2 m.length k2) m) :
    Calls Try.prog 37 #[.agg #[.int .u32 r1, .int .u64 c1, .slice A1 l.length k1], .agg #[.int .u32 r2, .int .u64 c2, .slice A2 m.length k2]] w fun e w' => e = .returned (.bool (decide (r1 = r2 ∧ c1 = c2 ∧ l = m))) ∧ Below w.heap.size w w' := by
  by_cases hr : r1 = r2
  · subst hr
    by_cases hc : c1 = c2
    · subst hc
      have H1 := Lib.hid ((h1.alloc (.cells #[.int .u32 (r1 : Int), .int .u64 (c1 : Int), .slice A1 l.length k1] 59)).alloc (.cells #[.int .u32 (r1 : Int), .int .u64 (c1 : Int), .slice A2 m.length k2] 59))
      have H2 := Lib.hid ((h2.alloc (.cells #[.int .u32 (r1 : Int), .int .u64 (c1 : Int), .slice A1 l.length k1] 59)).alloc (.cells #[.int .u32 (r1 : Int), .int .u64 (c1 : Int), .slice A2 m.length k2] 59))
      have HE : Hid (decide (r1 = r1 ∧ c1 = c1 ∧ l = m) = decide (l = m)) := Lib.hid (by simp)
      clear h1 h2
      rw [HE.out]
      generalize hd : decide (l = m) = dd
      have HD := Lib.hid hd
      clear hd
      go_enter Try.func37, Try.ntmps37
      go_wp2_with fail
      refine (En.same_any _ _ l m _ H1.out H2.out).mono ?_
      rintro e w1 ⟨rfl, hb⟩
      rw [HD.out]
      have HB := Lib.hid (below_comp (below_alloc (below_alloc (Below.refl _ _) _) _) hb)
      clear hb
      go_wp2_with fail
      go_ret
      exact ⟨rfl, HB.out⟩
    · have hci : ¬ (c1 : Int) = (c2 : Int) := by omega
      rw [show decide (r1 = r1 ∧ c1 = c2 ∧ l = m) = false from decide_eq_false (fun h => hc h.2.1)]
      clear h1 h2 hc
      go_enter Try.func37, Try.ntmps37
      go_wp2_with fail
      go_ret
      exact ⟨rfl, below_alloc (below_alloc (Below.refl _ _) _) _⟩
  · have hri : ¬ (r1 : Int) = (r2 : Int) := by omega
    rw [show decide (r1 = r2 ∧ c1 = c2 ∧ l = m) = false from decide_eq_false (fun h => hr h.1)]
    clear h1 h2 hr
    go_enter Try.func37, Try.ntmps37
    go_wp2_with fail
    go_ret
    exact ⟨rfl, below_alloc (below_alloc (Below.refl _ _) _) _⟩

set_option maxHeartbeats 1000000 in
theorem same_any (r1 r2 c1 c2 : Nat) (A1 A2 : Option Addr) (k1 k2 : Nat) (l m : List UInt8) (w : World) (h1 : RB w (.slice A1 l.length k1) l) (h2 : RB w (.slice A2 m.length k2) m) :
    Calls Try.prog 40 #[.agg #[.int .u32 r1, .int .u64 c1, .slice A1 l.length k1], .agg #[.int .u32 r2, .int .u64 c2, .slice A2 m.length k2]] w fun e w' => e = .returned (.bool (decide (r1 = r2 ∧ c1 = c2 ∧ l = m))) ∧ Below w.heap.size w w' := by
  by_cases hr : r1 = r2
  · subst hr
    by_cases hc : c1 = c2
    · subst hc
      have H1 := Lib.hid ((h1.alloc (.cells #[.int .u32 (r1 : Int), .int .u64 (c1 : Int), .slice A1 l.length k1] 59)).alloc (.cells #[.int .u32 (r1 : Int), .int .u64 (c1 : Int), .slice A2 m.length k2] 59))
      have H2 := Lib.hid ((h2.alloc (.cells #[.int .u32 (r1 : Int), .int .u64 (c1 : Int), .slice A1 l.length k1] 59)).alloc (.cells #[.int .u32 (r1 : Int), .int .u64 (c1 : Int), .slice A2 m.length k2] 59))
      have HE : Hid (decide (r1 = r1 ∧ c1 = c1 ∧ l = m) = decide (l = m)) := Lib.hid (by simp)
      clear h1 h2
      rw [HE.out]
      generalize hd : decide (l = m) = dd
      have HD := Lib.hid hd
      clear hd
      go_enter Try.func40, Try.ntmps40
      go_wp2_with fail
      refine (bytesEq_any _ _ l m _ H1.out H2.out).mono ?_
      rintro e w' ⟨rfl, rfl⟩
      rw [HD.out]
      go_wp2_with fail
      go_ret
      exact ⟨rfl, below_alloc (below_alloc (Below.refl _ _) _) _⟩
    · have hci : ¬ (c1 : Int) = (c2 : Int) := by omega
      rw [show decide (r1 = r1 ∧ c1 = c2 ∧ l = m) = false from decide_eq_false (fun h => hc h.2.1)]
      clear h1 h2 hc
      go_enter Try.func40, Try.ntmps40
      go_wp2_with fail
      go_ret
      exact ⟨rfl, below_alloc (below_alloc (Below.refl _ _) _) _⟩
  · have hri : ¬ (r1 : Int) = (r2 : Int) := by omega
    rw [show decide (r1 = r2 ∧ c1 = c2 ∧ l = m) = false from decide_eq_false (fun h => hr h.1)]
    clear h1 h2 hr
    go_enter Try.func40, Try.ntmps40
    go_wp2_with fail
    go_ret
    exact ⟨rfl, below_alloc (below_alloc (Below.refl _ _) _) _⟩

theorem badD_31 : badD (List.replicate 31 0) = 3 := by decide
theorem msgD_31 : msgD (List.replicate 31 0) = (0, 0, []) := by decide
theorem rawD_16 : rawD 0 0 (List.replicate 16 0) = 4 :: List.replicate 31 0 := by decide

set_option maxHeartbeats 2000000 in
theorem alive_any (w : World) : Calls Try.prog 34 #[] w fun e w' => e = .returned (.bool true) ∧ Below w.heap.size w w' := by
  have hmk1 : ∀ W : World, (Instr.makeSlice 27 (.int .i64 31) (.int .i64 31)).run Try.prog W = .ok (.slice (some ⟨W.heap.size, 0, none⟩) 31 31) (W.alloc (.cells (madeCells #[.int .u8 0] 31) 5)) := make_bytes 31 (by decide)
  have hmk2 : ∀ W : World, (Instr.makeSlice 27 (.int .i64 16) (.int .i64 16)).run Try.prog W = .ok (.slice (some ⟨W.heap.size, 0, none⟩) 16 16) (W.alloc (.cells (madeCells #[.int .u8 0] 16) 5)) := make_bytes 16 (by decide)
  go_enter Try.func34, Try.ntmps34
  go_wp2_with fail
  have HR : Hid (RB (w.alloc (.cells (madeCells #[.int .u8 0] 31) 5)) (.slice (some ⟨w.heap.size, 0, none⟩) 31 31) (List.replicate 31 0)) := Lib.hid (OB.made w 0 31 (Nat.zero_le _) (by decide)).rb
  obtain ⟨A, c, e, hc, hr⟩ := HR.out
  injection e with e1 e2 e3
  subst e1 e3
  have hp := parse_any (some ⟨w.heap.size, 0, none⟩) 31 (List.replicate 31 0) _ hc hr
  have HP := Lib.hid hp
  clear hp hr hc e2
  refine (HP.out).mono ?_
  rintro e w1 ⟨v, rfl, hv, hb, _⟩
  rw [badD_31, msgD_31]
  rw [msgD_31] at hv
  obtain ⟨A1, k1, e1, hv1, hv2⟩ := hv
  subst e1
  have HB := Lib.hid (below_comp (below_alloc (Below.refl _ _) _) hb)
  clear hv1 hv2 hb HP HR
  go_wp2_with fail
  obtain ⟨T0, hT0⟩ : ∃ T0, T0 = (w1.alloc (.cells #[.int .u32 0, .int .u64 0, .slice A1 0 k1] 59)) := ⟨_, rfl⟩
  have HB2 : Hid (Below w.heap.size w (T0.alloc (.cells (madeCells #[.int .u8 0] 16) 5))) := Lib.hid (by rw [hT0]; exact below_alloc (below_alloc HB.out _) _)
  have hR2 := (OB.made T0 0 16 (Nat.zero_le _) (by decide)).rb
  have hsz : T0.heap.size = w1.heap.size + 1 := by rw [hT0]; exact size_push _ _
  rw [hsz] at hR2
  have hB := bytes_any 0 0 (some ⟨w1.heap.size + 1, 0, none⟩) (List.replicate 16 0) 16 (T0.alloc (.cells (madeCells #[.int .u8 0] 16) 5)) (by decide) (Lib.hid (by decide)) (by rw [List.length_replicate]; exact hR2) (by decide)
  rw [List.length_replicate] at hB
  rw [← hT0]
  have HBB := Lib.hid hB
  clear hB hR2 hsz hT0
  refine (HBB.out).mono ?_
  rintro e w2 ⟨v, rfl, ho, hb⟩
  rw [rawD_16] at ho
  obtain ⟨g, cap, rfl, _, _, _⟩ := OB.form ho (by simp)
  have hc := (OB.at_ ho 0 (by simp)).1
  have HB3 := Lib.hid (below_comp HB2.out hb)
  have hlen : (4 :: List.replicate 31 (0 : UInt8)).length = 32 := by simp
  rw [hlen] at *
  have hc2 : w2.cell? ⟨g, 0, none⟩ = some (.int .u8 4) := hc
  clear ho hb hc hlen HBB
  go_wp2_with fail
  go_ret
  exact ⟨rfl, HB3.out⟩
end Go.Proofs.Ytnehbhhjdjiieaa.Da
