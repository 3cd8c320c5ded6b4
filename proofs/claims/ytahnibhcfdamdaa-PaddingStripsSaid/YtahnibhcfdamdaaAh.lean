/- Package addr: whether an address is right, how wide it is, and its bytes. -/
import Derived.Test.YtahnibhcfdamdaaAg
import Derived.WalkLawsBesides
set_option linter.unusedSimpArgs false
set_option linter.unusedVariables false
set_option maxRecDepth 100000
namespace Go.Proofs.Ytahnibhcfdamdaa.Ad
open Go.RowKit Go.Proofs.YtahnibhcfdamdaaW.PrintWords Go.Proofs.Ytahnibhcfdamdaa.Bs Go.Proofs.Ytahnibhcfdamdaa.Av Go.Proofs.Ytahnibhcfdamdaa.Le

theorem right_any (v : Int) (l : List UInt8) (w : World) (hl : l.length = 16) :
    Calls Try.prog 136 #[.agg (AV [v] l)] w fun e w' => e = .returned (.bool (rightA v l)) ∧ Below w.heap.size w w' := by
  by_cases h6 : v = 6
  · subst h6
    exact right_six l w hl
  · by_cases h4 : v = 4
    · subst h4
      exact right_four l w hl
    · have e6 := beq_false_of_ne h6
      have e4 := beq_false_of_ne h4
      have e : rightA v l = false := by unfold rightA; rw [e6, e4]; rfl
      rw [e]
      exact right_no v l w hl e6 e4

set_option maxHeartbeats 1000000 in
theorem width_any (v : Int) (l : List UInt8) (w : World) (hl : l.length = 16) :
    Calls Try.prog 128 #[.agg (AV [v] l)] w fun e w' => e = .returned (.int .i64 (widthA v l)) ∧ Below w.heap.size w w' := by
  have HX := Lib.hid (blk_new w (.cells (AV [v] l) 25))
  have HB := Lib.hid (below_alloc (Below.refl w.heap.size w) (.cells (AV [v] l) 25))
  have LD : ∀ {ops : Array Oper} {rest : List Oper} {op : Oper} {a : Act} {Q : Exit → Act → World → Prop}, op.guard = none → op.op = .load 25 (.tmp 1) → a.eval (.tmp 1) = .pointer (some ⟨w.heap.size, 0, none⟩) → wpList Try.prog ops Q rest (a.put op.dst (.agg (AV [v] l))) (w.alloc (.cells (AV [v] l) 25)) → wpList Try.prog ops Q (op :: rest) a (w.alloc (.cells (AV [v] l) 25)) := fun hg ho hx h => step_load hg 25 (.tmp 1) ho hx HX.out _ Try.underlying25 rfl (info_AV v l hl) h
  have HL := Lib.hid hl
  have hw := widthA_cases v l
  clear hl
  rcases hw with ⟨h1, h2⟩ | ⟨h1, h2, h3⟩ | ⟨h1, h2, h3⟩
  · rw [h1]
    have H2 := Lib.hid h2
    clear h1 h2
    go_enter Try.func128, Try.ntmps128
    go_wp2_with (first | ((with_reducible refine LD rfl rfl rfl ?_)))
    refine (right_any v l _ HL.out).mono ?_
    rintro e w1 ⟨rfl, hb⟩
    rw [H2.out]
    have hx1 := blk_below HX.out hb
    have c0 := (blk_cell hx1 0).trans (AV_num _ [] l)
    have HB1 := Lib.hid (below_comp HB.out hb)
    clear hb hx1 LD
    go_wp2_with fail
    go_ret
    exact ⟨rfl, HB1.out⟩
  · rw [h1]
    have H2 := Lib.hid h2
    clear h1 h2
    subst h3
    go_enter Try.func128, Try.ntmps128
    go_wp2_with (first | ((with_reducible refine LD rfl rfl rfl ?_)))
    refine (right_any 4 l _ HL.out).mono ?_
    rintro e w1 ⟨rfl, hb⟩
    rw [H2.out]
    have hx1 := blk_below HX.out hb
    have c0 := (blk_cell hx1 0).trans (AV_num _ [] l)
    have HB1 := Lib.hid (below_comp HB.out hb)
    clear hb hx1 LD
    go_wp2_with fail
    go_ret
    exact ⟨rfl, HB1.out⟩
  · rw [h1]
    have H2 := Lib.hid h2
    clear h1 h2
    subst h3
    go_enter Try.func128, Try.ntmps128
    go_wp2_with (first | ((with_reducible refine LD rfl rfl rfl ?_)))
    refine (right_any 6 l _ HL.out).mono ?_
    rintro e w1 ⟨rfl, hb⟩
    rw [H2.out]
    have hx1 := blk_below HX.out hb
    have c0 := (blk_cell hx1 0).trans (AV_num _ [] l)
    have HB1 := Lib.hid (below_comp HB.out hb)
    clear hb hx1 LD
    go_wp2_with fail
    go_ret
    exact ⟨rfl, HB1.out⟩

set_option maxHeartbeats 1000000 in
theorem clone_any (ad : Addr) (n c : Nat) (l : List UInt8) (w : World) (hr : RB w (.slice (some ad) n c) l) (hs : l.length ≤ 1099511627776) :
    Calls Try.prog 110 #[.slice (some ad) n c] w (Row w l) := by
  have HR := Lib.hid hr
  have HS := Lib.hid hs
  clear hr hs
  have HO := Lib.hid (OB.lit w w.heap.size [] (Nat.le_refl _) (by decide))
  have HB0 := Lib.hid (below_alloc (Below.refl w.heap.size w) (.cells (encs B []).toArray 5))
  have HR2 := Lib.hid (HR.out.alloc (.cells (encs B []).toArray 5))
  have HN : ∀ W : World, (binOp .eql 26 (.slice (some ad) n c) (.slice none 0 0)).run Try.prog W = .ok (.bool false) W := fun W => Lib.run_eql_slice_nil W _ _ _ _ _ _ _ Try.underlying26
  go_enter Try.func110, Try.ntmps110
  go_wp2_with (first | ((with_reducible refine is_builtin (b := .append) (xs := #[.tmp 5, .tmp 6]) rfl ?_); refine append_bytes (w0 := w) (w).heap.size rfl (.tmp 5) (.tmp 6) rfl (.slice (some ⟨w.heap.size, 0, none⟩) 0 0) (.slice (some ad) n c) [] l rfl rfl ?aO ?aR ?aB ?aS ?aL ?_; (case aO => exact HO.out); (case aR => exact HR2.out); (case aB => exact HB0.out); (case aS => exact (HB0.out).size); (case aL => (show [].length + l.length ≤ _; have := HS.out; simp; omega)); intro v1 w1 ho hb1 _ _; have HO1 := Lib.hid ho; have HB1 := Lib.hid hb1; clear ho hb1))
  go_ret
  exact ⟨_, rfl, HO1.out, HB1.out⟩
theorem RB_cap {w : World} {A : Option Addr} {n c c' : Nat} {l : List UInt8} (h : RB w (.slice A n c) l) (hc : n ≤ c') : RB w (.slice A n c') l := by
  obtain ⟨A', c0, e, _, hr⟩ := h
  injection e with e1 e2 e3
  subst e1 e2
  exact ⟨A, c', rfl, hc, hr⟩

set_option maxHeartbeats 1000000 in
theorem bytes_any (v : Int) (l : List UInt8) (w : World) (hl : l.length = 16) :
    Calls Try.prog 89 #[.agg (AV [v] l)] w (Row w (bytesA v l)) := by
  have HX := Lib.hid (blk_new w (.cells (AV [v] l) 25))
  have HB := Lib.hid (below_alloc (Below.refl w.heap.size w) (.cells (AV [v] l) 25))
  have LD : ∀ {ops : Array Oper} {rest : List Oper} {op : Oper} {a : Act} {Q : Exit → Act → World → Prop}, op.guard = none → op.op = .load 25 (.tmp 1) → a.eval (.tmp 1) = .pointer (some ⟨w.heap.size, 0, none⟩) → wpList Try.prog ops Q rest (a.put op.dst (.agg (AV [v] l))) (w.alloc (.cells (AV [v] l) 25)) → wpList Try.prog ops Q (op :: rest) a (w.alloc (.cells (AV [v] l) 25)) := fun hg ho hx h => step_load hg 25 (.tmp 1) ho hx HX.out _ Try.underlying25 rfl (info_AV v l hl) h
  have HL := Lib.hid hl
  have hw := widthA_cases v l
  unfold bytesA
  clear hl
  have hw3 : widthA v l = 0 ∨ widthA v l = 32 ∨ widthA v l = 128 := by rcases hw with ⟨h, _⟩ | ⟨h, _, _⟩ | ⟨h, _, _⟩ <;> simp [h]
  clear hw
  rcases hw3 with h1 | h1 | h1
  · rw [h1]
    have H1 := Lib.hid h1
    clear h1
    go_enter Try.func89, Try.ntmps89
    go_wp2_with (first | ((with_reducible refine LD rfl rfl rfl ?_)))
    refine (width_any v l _ HL.out).mono ?_
    rintro e w1 ⟨rfl, hb⟩
    rw [H1.out]
    have HX1 := Lib.hid (blk_below HX.out hb)
    have HB1 := Lib.hid (below_comp HB.out hb)
    clear hb LD
    go_wp2_with fail
    have HR := RB_cap (c' := 16) (RB_block HX1.out 0 0 1 rfl (by omega) (by rw [HL.out]; decide)) (by decide)
    rw [List.drop_zero] at HR
    refine (clone_any _ 0 16 (l.take 0) _ HR (by simp)).mono ?_
    rintro e w2 ⟨v2, rfl, ho, hb2⟩
    have HO := Lib.hid ho
    have HB2 := Lib.hid (below_comp HB1.out hb2)
    clear HR ho hb2
    go_wp2_with fail
    go_ret
    exact ⟨_, rfl, HO.out.weaken HB1.out.size, HB2.out⟩
  · rw [h1]
    have H1 := Lib.hid h1
    clear h1
    go_enter Try.func89, Try.ntmps89
    go_wp2_with (first | ((with_reducible refine LD rfl rfl rfl ?_)))
    refine (width_any v l _ HL.out).mono ?_
    rintro e w1 ⟨rfl, hb⟩
    rw [H1.out]
    have HX1 := Lib.hid (blk_below HX.out hb)
    have HB1 := Lib.hid (below_comp HB.out hb)
    clear hb LD
    go_wp2_with fail
    have HR := RB_cap (c' := 16) (RB_block HX1.out 0 4 1 rfl (by rw [HL.out]; decide) (by rw [HL.out]; decide)) (by decide)
    rw [List.drop_zero] at HR
    refine (clone_any _ 4 16 (l.take 4) _ HR (by rw [List.length_take]; omega)).mono ?_
    rintro e w2 ⟨v2, rfl, ho, hb2⟩
    have HO := Lib.hid ho
    have HB2 := Lib.hid (below_comp HB1.out hb2)
    clear HR ho hb2
    go_wp2_with fail
    go_ret
    exact ⟨_, rfl, HO.out.weaken HB1.out.size, HB2.out⟩
  · rw [h1]
    have H1 := Lib.hid h1
    clear h1
    go_enter Try.func89, Try.ntmps89
    go_wp2_with (first | ((with_reducible refine LD rfl rfl rfl ?_)))
    refine (width_any v l _ HL.out).mono ?_
    rintro e w1 ⟨rfl, hb⟩
    rw [H1.out]
    have HX1 := Lib.hid (blk_below HX.out hb)
    have HB1 := Lib.hid (below_comp HB.out hb)
    clear hb LD
    go_wp2_with fail
    have HR := RB_cap (c' := 16) (RB_block HX1.out 0 16 1 rfl (by rw [HL.out]; decide) (by rw [HL.out]; decide)) (by decide)
    rw [List.drop_zero] at HR
    refine (clone_any _ 16 16 (l.take 16) _ HR (by rw [List.length_take]; omega)).mono ?_
    rintro e w2 ⟨v2, rfl, ho, hb2⟩
    have HO := Lib.hid ho
    have HB2 := Lib.hid (below_comp HB1.out hb2)
    clear HR ho hb2
    go_wp2_with fail
    go_ret
    exact ⟨_, rfl, HO.out.weaken HB1.out.size, HB2.out⟩
end Go.Proofs.Ytahnibhcfdamdaa.Ad
