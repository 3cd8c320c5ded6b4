/- The statements of the taker: what is played. -/
import Derived.Test.YtmjohplmcnafhaaTkS
import Derived.Test.YtmjohplmcnafhaaOp
import Derived.Deep.SlicePairs
set_option linter.unusedSimpArgs false
set_option linter.unusedVariables false
namespace Go.Proofs.Ytmjohplmcnafhaa.Tk
open Go.RowKit Go.ChangeShapes Go.WideShapes Go.Proofs.YtmjohplmcnafhaaW.PrintWords Go.Proofs.Ytmjohplmcnafhaa.Bs Go.Proofs.Ytmjohplmcnafhaa.Le

/-- A slice of pairs of whole numbers. -/
def CR (w : World) (A : Option Addr) (cs : List (Int × Int)) : Prop :=
  cs.length ≤ 9223372036854775807 ∧ ∀ j, j < cs.length → ∃ ad, A = some ad ∧ w.cell? (ad.add (j * 2)) = some (.int .i64 (cs.getD j (0, 0)).1) ∧ w.cell? (ad.add (j * 2 + 1)) = some (.int .i64 (cs.getD j (0, 0)).2)
def CB (cs : List (Int × Int)) : Prop := ∀ j, -9223372036854775808 ≤ (cs.getD j (0, 0)).1 ∧ (cs.getD j (0, 0)).1 ≤ 9223372036854775807 ∧ -9223372036854775808 ≤ (cs.getD j (0, 0)).2 ∧ (cs.getD j (0, 0)).2 ≤ 9223372036854775807

theorem add_next (ad : Addr) (m : Nat) : ad.add (m + 1) = ⟨(ad.add m).block, (ad.add m).off + 1, none⟩ := by
  unfold Addr.add
  rw [if_neg (by omega)]
  split
  · next h => rw [h]
  · rfl
theorem below_set3 {b : Nat} {a w : World} (h : Below b a w) (x y z : Value) : Below b a (((w.setCell ⟨b, 0, none⟩ x).setCell ⟨b, 1, none⟩ y).setCell ⟨b, 2, none⟩ z) :=
  ((h.setCell (p := ⟨b, 0, none⟩) (Nat.le_refl _) x).setCell (p := ⟨b, 1, none⟩) (Nat.le_refl _) y).setCell (p := ⟨b, 2, none⟩) (Nat.le_refl _) z
theorem three_cells1 {w : World} {g : Nat} {T : TypeId} {x y z : Value} (h : w.heap[g]? = some (.cells #[x, y, z] T (0, 0))) :
    (∀ o, (w.alloc o).cell? ⟨g, 0, none⟩ = some x) ∧ (∀ o, (w.alloc o).cell? ⟨g, 1, none⟩ = some y) ∧ (∀ o, (w.alloc o).cell? ⟨g, 2, none⟩ = some z) ∧ (∀ o, (w.alloc o).frozen? ⟨g, 0, none⟩ = false) ∧ (∀ o, (w.alloc o).frozen? ⟨g, 1, none⟩ = false) ∧ (∀ o, (w.alloc o).frozen? ⟨g, 2, none⟩ = false) :=
  ⟨fun o => (three_cells (blk_old h o)).1, fun o => (three_cells (blk_old h o)).2.1, fun o => (three_cells (blk_old h o)).2.2.1, fun o => blk_frozen (blk_old h o) 0, fun o => blk_frozen (blk_old h o) 1, fun o => blk_frozen (blk_old h o) 2⟩

theorem left_quiet (g : Nat) (P : Option Addr) (q : Nat) (l : List UInt8) (k : Nat) (f : Int) (w : World) (h : Tk w g P q l k f) :
    Calls Try.prog 39 #[.pointer (some ⟨g, 0, none⟩)] w fun e w' => e = .returned (.int .i64 ((l.length : Int) - k)) ∧ ∃ m, w' = w.drewN m := by
  obtain ⟨hc, h0, h1, h2, hf⟩ := h.cells
  obtain ⟨_, _, _, _, hk, hl⟩ := h
  clear hf
  go_enter Try.func39, Try.ntmps39
  go_wp2
  repeat (go_quiet (fail); try go_wp2)
  go_ret
  exact ⟨rfl, _, rfl⟩

theorem fail_quiet (g : Nat) (P : Option Addr) (q : Nat) (l : List UInt8) (k : Nat) (f : Int) (w : World) (h : Tk w g P q l k f) :
    Calls Try.prog 40 #[.pointer (some ⟨g, 0, none⟩)] w fun e w' => e = .returned (.int .i64 f) ∧ w' = w :=
  (fail_any g P q l k f w h).mono fun e w' h => ⟨h.1, h.2.symm⟩

set_option maxRecDepth 100000 in
set_option maxHeartbeats 4000000 in
theorem plays_any (g : Nat) (P : Option Addr) (q : Nat) (A : Option Addr) (c : Nat) (l : List UInt8) (C : Option Addr) (cc : Nat) (cs : List (Int × Int)) (w : World) (h : Tk w g P q l 0 0)
    (hA : ∀ w', w.grownBy w' (some g) → RB w' (.slice A l.length c) l) (hs : l = [] ∨ (Value.slice A l.length c).ownBlock ≠ some g)
    (hC : ∀ w', w.grownBy w' (some g) → CR w' C cs) (hB : CB cs) :
    Calls Try.prog 41 #[.pointer (some ⟨g, 0, none⟩), .slice A l.length c, .slice C cs.length cc] w fun e w' => e = .returned (.bool true) ∧ w.grownBy w' (some g) := by
  have HT := Lib.hid h
  have HP := Lib.hid (RB.inside h.rb)
  have hg := h.lt
  have HA := Lib.hid hA
  have HC := Lib.hid hC
  have HBD := Lib.hid hB
  have HS := Lib.hid hs
  have hcl := (hC w (World.grownBy.refl _ _)).1
  clear h hA hC hB hs
  go_enter Try.func41, Try.ntmps41
  go_wp2_with fail
  go_loopw [16] (fun v16 wr => ∃ (j k : Nat) (f : Int), j ≤ cs.length ∧ v16 = .int .i64 j ∧ Hid (Tk wr g P q l k f) ∧ Hid (wr.heap[w.heap.size]? = some (.cells #[.slice A l.length c, .int .i64 k, .int .i64 f] 78 (0, 0))) ∧ Hid (w.grownBy wr (some g))) (fun v16 _ => cs.length - (intOf v16).toNat)
  case atStart => exact ⟨0, 0, 0, Nat.zero_le _, rfl, Lib.hid (HT.out.below (below_alloc (Below.refl _ _) _)), Lib.hid (blk_new w _), Lib.hid (grown_of_below (below_alloc (Below.refl _ _) _) _)⟩
  case round =>
    obtain ⟨j, k, f, hj, rfl, HTK, HBK, HGR⟩ := hrel
    by_cases hlt : j < cs.length
    · obtain ⟨ad, rfl, hc1, hc2⟩ := (HC.out _ HGR.out).2 j hlt
      rw [add_next] at hc2
      obtain ⟨hd0, hd1, hn0, hn1⟩ := HBD.out j
      generalize (cs.getD j (0, 0)).1 = d at hc1 hd0 hd1
      generalize (cs.getD j (0, 0)).2 = n at hc2 hn0 hn1
      obtain ⟨s0, s1, s2, _, _, _⟩ := three_cells1 HBK.out
      go_wp2_with fail
      refine (step_any g P q A c l k f n d _ (HTK.out.below (below_alloc (Below.refl _ _) _)) (HA.out _ (grown_then HGR.out ((below_alloc (Below.refl _ _) _).mono HGR.out.size))) HS.out hn0 hn1 hd0 hd1).mono ?_
      rintro e w2 ⟨rfl, ht, hgr⟩
      have hbk := blk_grown (blk_old HBK.out _) hgr (fun e => by injection e with e; omega)
      have HGR2 := Lib.hid (World.grownBy.trans (grown_then HGR.out ((below_alloc (Below.refl _ _) _).mono HGR.out.size)) hgr)
      have HBK2 := Lib.hid hbk
      have HT2 := Lib.hid ht
      generalize stepT l k f d n = r at HT2
      obtain ⟨d0, d1, d2, f0, f1, f2⟩ := three_cells hbk
      obtain ⟨e0, e1, e2, g0, g1, g2⟩ := three_cells1 hbk
      clear hbk ht hgr s0 s1 s2 hc1 hc2
      go_wp2_with fail
      clear d0 d1 d2 f0 f1 f2 e0 e1 e2 g0 g1 g2
      have hbk7 : ((((w2.alloc (Obj.cells #[Value.slice A l.length c, Value.int IntKind.i64 (r.1 : Int), Value.int IntKind.i64 r.2] 78)).setCell ⟨w.heap.size, 0, none⟩ (Value.slice A l.length c)).setCell ⟨w.heap.size, 1, none⟩ (Value.int IntKind.i64 (r.1 : Int))).setCell ⟨w.heap.size, 2, none⟩ (Value.int IntKind.i64 r.2)).heap[w.heap.size]? = some (.cells #[.slice A l.length c, .int .i64 r.1, .int .i64 r.2] 78 (0, 0)) := (blk_set (blk_set (blk_set (blk_old HBK2.out _) 0 _) 1 _) 2 _).trans rfl
      have hT7 : Tk ((((w2.alloc (Obj.cells #[Value.slice A l.length c, Value.int IntKind.i64 (r.1 : Int), Value.int IntKind.i64 r.2] 78)).setCell ⟨w.heap.size, 0, none⟩ (Value.slice A l.length c)).setCell ⟨w.heap.size, 1, none⟩ (Value.int IntKind.i64 (r.1 : Int))).setCell ⟨w.heap.size, 2, none⟩ (Value.int IntKind.i64 r.2)) g P q l r.1 r.2 := (HT2.out.below (below_alloc (Below.refl _ _) _)).far (b := w.heap.size) (below_set3 (Below.refl _ _) _ _ _) hg HP.out
      have hG7 : w.grownBy ((((w2.alloc (Obj.cells #[Value.slice A l.length c, Value.int IntKind.i64 (r.1 : Int), Value.int IntKind.i64 r.2] 78)).setCell ⟨w.heap.size, 0, none⟩ (Value.slice A l.length c)).setCell ⟨w.heap.size, 1, none⟩ (Value.int IntKind.i64 (r.1 : Int))).setCell ⟨w.heap.size, 2, none⟩ (Value.int IntKind.i64 r.2)) (some g) := grown_then HGR2.out (below_set3 ((Below.refl _ _).alloc HGR2.out.size _) _ _ _)
      generalize ((((w2.alloc (Obj.cells #[Value.slice A l.length c, Value.int IntKind.i64 (r.1 : Int), Value.int IntKind.i64 r.2] 78)).setCell ⟨w.heap.size, 0, none⟩ (Value.slice A l.length c)).setCell ⟨w.heap.size, 1, none⟩ (Value.int IntKind.i64 (r.1 : Int))).setCell ⟨w.heap.size, 2, none⟩ (Value.int IntKind.i64 r.2)) = W7 at hbk7 hT7 hG7 ⊢
      have HT7 := Lib.hid hT7
      have HG7 := Lib.hid hG7
      have HBK7 := Lib.hid hbk7
      have hk7 : r.1 ≤ l.length := by obtain ⟨_, _, _, _, hk, _⟩ := hT7; exact hk
      have hl7 : l.length ≤ 1099511627776 := by obtain ⟨_, _, _, _, _, hl⟩ := hT7; exact hl
      have hwr : IntKind.i64.wrap ((l.length : Int) - r.1) = (l.length : Int) - r.1 := by rw [IntKind.wrap_i64]; omega
      obtain ⟨d0, d1, d2, f0, f1, f2⟩ := three_cells hbk7
      clear hT7 hG7 hbk7
      go_quiet (first
        | (go_at_call 39; refine Calls.quiet_of (left_quiet g P q l r.1 r.2 _ ?_); exact HT7.out.below (pw_below_drewN (Below.refl _ _) _))
        | (go_at_call 40; refine Calls.quiet_of_same (fail_quiet g P q l r.1 r.2 _ ?_); exact HT7.out.below (pw_below_drewN (Below.refl _ _) _)))
      go_wp2
      go_roundw
      case rel => exact ⟨j + 1, r.1, r.2, by omega, by go_num, Lib.hid (HT7.out.below (pw_below_drewN (Below.refl _ _) _)), Lib.hid (blk_below HBK7.out (pw_below_drewN (Below.refl _ _) _)), Lib.hid (grown_then HG7.out ((pw_below_drewN (Below.refl _ _) _).mono HG7.out.size))⟩
      case measure => (simp [intOf]) <;> omega
    · go_wp2_with fail
      go_ret
      exact ⟨rfl, HGR.out⟩

theorem CR.below {w w1 : World} {A : Option Addr} {cs : List (Int × Int)} (h : CR w A cs) (hb : Below w.heap.size w w1) : CR w1 A cs :=
  ⟨h.1, fun j hj => by
    obtain ⟨ad, e, h1, h2⟩ := h.2 j hj
    exact ⟨ad, e, pw_cell_below hb h1, pw_cell_below hb h2⟩⟩

set_option maxRecDepth 100000 in
set_option maxHeartbeats 2000000 in
theorem takerPlays_walk (v : Value) (l : List UInt8) (C : Option Addr) (cc : Nat) (cs : List (Int × Int)) (w : World) (hr : RB w v l) (hC : CR w C cs) (hB : CB cs) :
    Calls Try.prog 13 #[v, .slice C cs.length cc] w fun e w' => e = .returned (.bool true) ∧ Below w.heap.size w w' := by
  have hl := hr.len
  have HR := Lib.hid hr
  have HC := Lib.hid hC
  have HBD := Lib.hid hB
  have hcl := hC.1
  obtain ⟨A, c, rfl, _, hr⟩ := hr
  clear hr hC hB
  by_cases h : 300 < l.length
  · go_enter Try.func13, Try.ntmps13
    go_wp2_with fail
    refine (alive_any _).mono ?_
    rintro e w' ⟨rfl, hb⟩
    go_wp2_with fail
    go_ret
    exact ⟨rfl, hb⟩
  by_cases h40 : 40 < cs.length
  · go_enter Try.func13, Try.ntmps13
    go_wp2_with fail
    refine (alive_any _).mono ?_
    rintro e w' ⟨rfl, hb⟩
    go_wp2_with fail
    go_ret
    exact ⟨rfl, hb⟩
  go_enter Try.func13, Try.ntmps13
  go_wp2_with fail
  refine (new_any _ l _ HR.out (by omega)).mono ?_
  rintro e w1 ⟨g, P, q, rfl, hg, ht, hb⟩
  have HT := Lib.hid ht
  have HB := Lib.hid hb
  have HG := Lib.hid hg
  clear ht hb hg
  go_wp2_with fail
  refine (left_any g P q l 0 0 _ HT.out).mono ?_
  rintro e w2 ⟨rfl, hb2⟩
  rw [show ((l.length : Int) - ((0 : Nat) : Int)) = l.length by omega]
  have HT2 := Lib.hid (HT.out.below hb2)
  have HB2 := Lib.hid (below_comp HB.out hb2)
  clear hb2
  go_wp2_with fail
  refine (fail_any g P q l 0 0 _ HT2.out).mono ?_
  rintro e w' ⟨rfl, rfl⟩
  go_wp2_with fail
  refine (plays_any g P q A c l C cc cs _ HT2.out (fun w' h => HR.out.below (grown_below h HB2.out HB2.out.size HG.out)) (HR.out.apart HG.out) (fun w' h => HC.out.below (grown_below h HB2.out HB2.out.size HG.out)) HBD.out).mono ?_
  rintro e w3 ⟨rfl, hgr⟩
  have HB3 := Lib.hid (grown_below hgr HB2.out HB2.out.size HG.out)
  clear hgr
  go_wp2_with fail
  refine (alive_any _).mono ?_
  rintro e w' ⟨rfl, hb⟩
  go_wp2_with fail
  go_ret
  exact ⟨rfl, below_comp HB3.out hb⟩

theorem little_nil (n : Int) (w : World) (hn0 : -9223372036854775808 ≤ n) (hn1 : n ≤ 9223372036854775807) :
    Calls Try.prog 42 #[.pointer none, .int .i64 n] w fun e w' => e = .returned (.int .u64 0) ∧ w = w' := by
  go_enter Try.func42, Try.ntmps42
  go_wp2_with fail
  refine (sized_any n _ hn0 hn1).mono ?_
  rintro e w' ⟨rfl, rfl⟩
  go_wp2_with fail
  refine (next_nil n _ _).mono ?_
  rintro e w' ⟨rfl, rfl⟩
  go_wp2_with fail
  refine (En.ofLittle_bad _ [] _ (RB.nil _) (by simp)).mono ?_
  rintro e w' ⟨rfl, rfl⟩
  go_wp2_with fail
  go_ret
  exact ⟨rfl, rfl⟩
theorem big_nil (n : Int) (w : World) (hn0 : -9223372036854775808 ≤ n) (hn1 : n ≤ 9223372036854775807) :
    Calls Try.prog 43 #[.pointer none, .int .i64 n] w fun e w' => e = .returned (.int .u64 0) ∧ w = w' := by
  go_enter Try.func43, Try.ntmps43
  go_wp2_with fail
  refine (sized_any n _ hn0 hn1).mono ?_
  rintro e w' ⟨rfl, rfl⟩
  go_wp2_with fail
  refine (next_nil n _ _).mono ?_
  rintro e w' ⟨rfl, rfl⟩
  go_wp2_with fail
  refine (En.ofBig_bad _ [] _ (RB.nil _) (by simp)).mono ?_
  rintro e w' ⟨rfl, rfl⟩
  go_wp2_with fail
  go_ret
  exact ⟨rfl, rfl⟩

set_option maxHeartbeats 1000000 in
theorem bytes_nil (n : Int) (w : World) :
    Calls Try.prog 38 #[.pointer none, .int .i64 n] w (Row w []) := by
  have hmk : ∀ W : World, (Instr.makeSlice 29 (.int .i64 0) (.int .i64 0)).run Try.prog W = .ok (.slice (some ⟨W.heap.size, 0, none⟩) 0 0) (W.alloc (.cells (madeCells #[.int .u8 0] 0) 5)) := make_bytes 0 (by omega)
  go_enter Try.func38, Try.ntmps38
  go_wp2_with fail
  refine (next_nil n (decide (0 ≤ n)) _).mono ?_
  rintro e w' ⟨rfl, rfl⟩
  go_wp2_with (first | ((with_reducible refine is_builtin (b := .copy) (xs := #[.tmp 15, .tmp 16]) rfl ?_); refine copy_bytes (w0 := w) w.heap.size rfl (.tmp 15) (.tmp 16) rfl (.slice (some ⟨w.heap.size, 0, none⟩) 0 0) (.slice none 0 0) [] [] rfl rfl ?aO ?aR ?aB ?_; (case aO => exact OB.made w w.heap.size 0 (Nat.le_refl _) (by omega)); (case aR => exact RB.nil _); (case aB => exact below_alloc (Below.refl _ _) _); intro w2 ho hb1; have HO1 := Lib.hid ho; have HB1 := Lib.hid hb1; clear ho hb1))
  go_ret
  exact ⟨_, rfl, HO1.out, HB1.out⟩

theorem Tk.zero {w : World} {g : Nat} (h : w.heap[g]? = some (.cells #[.slice none 0 0, .int .i64 0, .int .i64 0] 66 (0, 0))) : Tk w g none 0 [] 0 0 :=
  ⟨h, Nat.le_refl _, reads_none _, .inl rfl, Nat.le_refl _, by simp⟩

set_option maxRecDepth 100000 in
set_option maxHeartbeats 4000000 in
theorem takerNobody_walk (C : Option Addr) (cc : Nat) (cs : List (Int × Int)) (w : World) (hC : CR w C cs) (hB : CB cs) :
    Calls Try.prog 14 #[.slice C cs.length cc] w fun e w' => e = .returned (.bool true) ∧ Below w.heap.size w w' := by
  have HC := Lib.hid hC
  have HBD := Lib.hid hB
  have hcl := hC.1
  clear hC hB
  by_cases h40 : 40 < cs.length
  · go_enter Try.func14, Try.ntmps14
    go_wp2_with fail
    refine (alive_any _).mono ?_
    rintro e w' ⟨rfl, hb⟩
    go_wp2_with fail
    go_ret
    exact ⟨rfl, hb⟩
  go_enter Try.func14, Try.ntmps14
  go_wp2_with fail
  go_loopw [13] (fun v13 wr => ∃ (j : Nat), j ≤ cs.length ∧ v13 = .int .i64 j ∧ Hid (wr.heap[w.heap.size]? = some (.cells #[.slice none 0 0, .int .i64 0, .int .i64 0] 66 (0, 0))) ∧ Hid (Below w.heap.size w wr)) (fun v13 _ => cs.length - (intOf v13).toNat)
  case atStart => exact ⟨0, Nat.zero_le _, rfl, Lib.hid (blk_new w _), Lib.hid (below_alloc (Below.refl _ _) _)⟩
  case round =>
    obtain ⟨j, hj, rfl, HBK, HB⟩ := hrel
    by_cases hlt : j < cs.length
    · obtain ⟨ad, rfl, hc1, hc2⟩ := (HC.out.below HB.out).2 j hlt
      rw [add_next] at hc2
      obtain ⟨hd0, hd1, hn0, hn1⟩ := HBD.out j
      generalize (cs.getD j (0, 0)).1 = d at hc1 hd0 hd1
      generalize (cs.getD j (0, 0)).2 = n at hc2 hn0 hn1
      go_wp2_with fail
      refine (little_nil n _ hn0 hn1).mono ?_
      rintro e w' ⟨rfl, rfl⟩
      go_wp2_with fail
      refine (big_nil n _ hn0 hn1).mono ?_
      rintro e w' ⟨rfl, rfl⟩
      go_wp2_with fail
      refine (bytes_nil n _).mono ?_
      rintro e w2 ⟨v, rfl, ho, hb2⟩
      obtain ⟨A1, c1, rfl, _, _⟩ := ho.rb
      have HBK2 := Lib.hid (blk_below (blk_old HBK.out _) hb2)
      have hns := blk_below (blk_new wr _) hb2
      have HB2 := Lib.hid (below_comp (below_alloc HB.out _) hb2)
      obtain ⟨_, n1⟩ := two_cells hns
      rw [show ([] : List UInt8).length = 0 from rfl]
      clear ho hb2 hns hc1 hc2
      go_wp2_with fail
      refine (zeros_nil n _).mono ?_
      rintro e w' ⟨rfl, rfl⟩
      go_wp2_with fail
      refine (left_nil _).mono ?_
      rintro e w' ⟨rfl, rfl⟩
      go_wp2_with fail
      refine (fail_nil _).mono ?_
      rintro e w' ⟨rfl, rfl⟩
      go_wp2_with fail
      go_roundw
      case rel => exact ⟨j + 1, by omega, by go_num, HBK2, HB2⟩
      case measure => (simp [intOf]) <;> omega
    · have HT := Lib.hid (Tk.zero HBK.out)
      go_wp2_with fail
      refine (left_any w.heap.size none 0 [] 0 0 _ HT.out).mono ?_
      rintro e w2 ⟨rfl, hb2⟩
      rw [show ((([] : List UInt8).length : Int) - ((0 : Nat) : Int)) = 0 from rfl]
      have HT2 := Lib.hid (HT.out.below hb2)
      have HB2 := Lib.hid (below_comp HB.out hb2)
      clear hb2
      go_wp2_with fail
      refine (fail_any w.heap.size none 0 [] 0 0 _ HT2.out).mono ?_
      rintro e w' ⟨rfl, rfl⟩
      go_wp2_with fail
      refine (plays_any w.heap.size none 0 none 0 [] C cc cs _ HT2.out (fun w' h => RB.nil _) (.inl rfl) (fun w' h => HC.out.below (grown_below h HB2.out HB2.out.size (Nat.le_refl _))) HBD.out).mono ?_
      rintro e w3 ⟨rfl, hgr⟩
      have HB3 := Lib.hid (grown_below hgr HB2.out HB2.out.size (Nat.le_refl _))
      clear hgr
      go_wp2_with fail
      refine (alive_any _).mono ?_
      rintro e w' ⟨rfl, hb⟩
      go_wp2_with fail
      go_ret
      exact ⟨rfl, below_comp HB3.out hb⟩

theorem Tk.inside {w : World} {g : Nat} {P : Option Addr} {q : Nat} {l : List UInt8} {k : Nat} {f : Int} (h : Tk w g P q l k f) : l = [] ∨ ∀ ad, P = some ad → ad.block < w.heap.size := RB.inside h.rb

set_option maxRecDepth 100000 in
set_option maxHeartbeats 4000000 in
theorem takerOwn_walk (v : Value) (l : List UInt8) (n : Int) (w : World) (hr : RB w v l) (h0 : -9223372036854775808 ≤ n) (h1 : n ≤ 9223372036854775807) :
    Calls Try.prog 12 #[v, .int .i64 n] w fun e w' => e = .returned (.bool true) ∧ Below w.heap.size w w' := by
  have hl := hr.len
  have HR := Lib.hid hr
  obtain ⟨A, c, rfl, hc, hr⟩ := hr
  have HRD := Lib.hid hr
  clear hr
  by_cases h : 300 < l.length
  · go_enter Try.func12, Try.ntmps12
    go_wp2_with fail
    refine (alive_any _).mono ?_
    rintro e w' ⟨rfl, hb⟩
    go_wp2_with fail
    go_ret
    exact ⟨rfl, hb⟩
  by_cases hn : n < 0
  · go_enter Try.func12, Try.ntmps12
    go_wp2_with fail
    refine (alive_any _).mono ?_
    rintro e w' ⟨rfl, hb⟩
    go_wp2_with fail
    go_ret
    exact ⟨rfl, hb⟩
  by_cases hm : (l.length : Int) < n
  · go_enter Try.func12, Try.ntmps12
    go_wp2_with fail
    refine (alive_any _).mono ?_
    rintro e w' ⟨rfl, hb⟩
    go_wp2_with fail
    go_ret
    exact ⟨rfl, hb⟩
  obtain ⟨m, rfl⟩ := Int.eq_ofNat_of_zero_le (show 0 ≤ n by omega)
  have hml : m ≤ l.length := by omega
  obtain ⟨hto, hrto⟩ := to2 A c l m hml hc
  obtain ⟨A', hfr, hrfr, _⟩ := from2 A c l m hml hc
  have HTO := Lib.hid hrto
  have HFR := Lib.hid hrfr
  have HC := Lib.hid hc
  have HE1 : Hid (nextT l 0 0 m (decide ((0 : Int) ≤ m)) = (m, 0, l.take m)) := Lib.hid (by
    unfold nextT
    rw [if_neg (by simp), if_neg (by simp), if_neg (by omega)]
    simp)
  have HE2 : Hid (nextT l m 0 ((l.length : Int) - m) (decide (0 ≤ (l.length : Int) - m)) = (l.length, 0, l.drop m)) := Lib.hid (by
    unfold nextT
    rw [if_neg (by simp), if_neg (by simp; omega), if_neg (by omega)]
    refine Prod.ext ?_ (Prod.ext rfl ?_)
    · show m + ((l.length : Int) - m).toNat = l.length
      omega
    · show (l.drop m).take ((l.length : Int) - m).toNat = l.drop m
      exact List.take_of_length_le (by rw [List.length_drop]; omega))
  clear hc hrto hrfr
  go_enter Try.func12, Try.ntmps12
  go_wp2_with (first | ((with_reducible refine is_builtin (b := .append) (xs := #[.tmp 22, .tmp 23]) rfl ?_); refine append_bytes (w0 := w) w.heap.size rfl (.tmp 22) (.tmp 23) rfl (.slice (some ⟨w.heap.size, 0, none⟩) 0 0) (.slice A l.length c) [] l rfl rfl ?aO ?aR ?aB ?aS ?aL ?_; (case aO => exact OB.lit w w.heap.size [] (Nat.le_refl _) (by simp)); (case aR => exact HR.out.alloc _); (case aB => exact below_alloc (Below.refl _ _) _); (case aS => exact (below_alloc (Below.refl _ _) _).size); (case aL => simp; omega); intro v1 w1 ho hb1 _ _; have HO1 := Lib.hid ho; have HB1 := Lib.hid hb1; clear ho hb1))
  rw [List.nil_append] at HO1
  refine (new_any _ l _ HO1.out.rb (by omega)).mono ?_
  rintro e w2 ⟨g, P, q, rfl, hg, ht, hb2⟩
  have HT2 := Lib.hid ht
  have HG := Lib.hid hg
  have HB2 := Lib.hid (below_comp HB1.out hb2)
  have HOW2 := Lib.hid (HO1.out.rb.below hb2)
  have hg2 := ht.lt
  clear ht hg hb2
  go_wp2_with fail
  refine (bytes_any g P q l 0 0 m _ HT2.out (by omega) (by omega)).mono ?_
  rintro e w3 ⟨x, rfl, ho, ht, hgr⟩
  rw [HE1.out] at ho ht
  have HT3 := Lib.hid ht
  have HX3 := Lib.hid ho
  have HB3 := Lib.hid (grown_below hgr HB2.out HB2.out.size (Nat.le_trans HB1.out.size HG.out))
  have HS3 := Lib.hid hgr.size
  have HOW3 := Lib.hid (RB.grown HOW2.out hgr (HO1.out.rb.apart HG.out))
  have hlt : (l.take m).length = m := by rw [List.length_take]; omega
  obtain ⟨A5, c5, rfl, _, _⟩ := ho.rb
  clear ho ht hgr
  rw [hlt] at HX3 ⊢
  go_wp2_with fail
  refine (En.same_any _ _ (l.take m) (l.take m) _ HX3.out.rb ⟨A, c, by rw [hlt], by have := HC.out; omega, by rw [hlt]; exact HTO.out _ (HRD.out.below HB3.out)⟩).mono ?_
  rintro e w4 ⟨rfl, hb4⟩
  rw [show decide (l.take m = l.take m) = true from decide_eq_true rfl]
  have HX4 := Lib.hid (HX3.out.below hb4)
  have HT4 := Lib.hid (HT3.out.below hb4)
  have HB4 := Lib.hid (below_comp HB3.out hb4)
  have HOW4 := Lib.hid (HOW3.out.below hb4)
  have HS4 := Lib.hid (Nat.le_trans HS3.out hb4.size)
  clear hb4
  go_wp2_with (first | ((with_reducible refine is_builtin (b := .append) (xs := #[.tmp 38, .tmp 39]) rfl ?_); (refine append_bytes (w0 := w4) w2.heap.size rfl (.tmp 38) (.tmp 39) rfl (.slice A5 m c5) (.slice (some ⟨w4.heap.size, 0, none⟩) 3 3) (l.take m) [7, 7, 7] rfl rfl ?aO ?aR ?aB ?aS ?aL ?_; (case aO => exact HX4.out.alloc _); (case aR => exact (OB.lit w4 0 [7, 7, 7] (Nat.zero_le _) (by decide)).rb); (case aB => exact (Below.refl _ _).alloc HS4.out _); (case aS => exact Nat.le_trans HS4.out (below_alloc (Below.refl _ _) _).size); (case aL => simp; omega); intro v2 w5 ho hb5 _ _; obtain ⟨g5, c6, rfl, hg5, _, _⟩ := OB.form ho (by simp); have hat := OB.at_ ho 0 (by simp); obtain ⟨a0, a1⟩ := hat; have HB5 := Lib.hid hb5; clear ho hb5)))
  have HB6 := Lib.hid (HB5.out.setCell (p := ⟨g5, 0, none⟩) hg5 (.int .u8 9))
  generalize w5.setCell ⟨g5, 0, none⟩ (.int .u8 9) = w6 at HB6 ⊢
  have HT6 := Lib.hid (HT4.out.far HB6.out hg2 HT2.out.inside)
  have HW6 := Lib.hid (HB4.out.trans (HB6.out.mono HB2.out.size))
  obtain ⟨A7, c7, rfl, _, _⟩ := HO1.out.rb
  have HOW6 := Lib.hid (RB.far HOW4.out HB6.out (RB.inside HOW2.out))
  clear a0 a1 HB5
  go_region_held3 (fun _ => True) (trivial) (first
    | (go_at_call 39
       refine (left_any g P q l m 0 _ ?_).mono ?_
       · exact HT6.out.below (below_drew (Below.refl _ _))
       rintro e w7 ⟨rfl, hb7⟩
       have HT7 := Lib.hid ((HT6.out.below (below_drew (Below.refl _ _))).below hb7)
       have HW7 := Lib.hid (below_comp (below_drew HW6.out) hb7)
       have HOW7 := Lib.hid ((HOW6.out.below (below_drew (Below.refl _ _))).below hb7)
       clear hb7)
    | (go_at_call 38
       refine (bytes_any g P q l m 0 ((l.length : Int) - m) _ HT7.out ?_ ?_).mono ?_
       · omega
       · omega
       rintro e w8 ⟨y, rfl, ho, ht, hgr⟩
       rw [HE2.out] at ho ht
       have HY8 := Lib.hid ho.rb
       have HW8 := Lib.hid (grown_below hgr HW7.out HW7.out.size (Nat.le_trans HB1.out.size HG.out))
       have HOW8 := Lib.hid (RB.grown HOW7.out hgr (HO1.out.rb.apart HG.out))
       clear ho ht hgr)
    | (go_at_call_of 31 y
       refine (En.same_any y (.slice A' (l.length - m) (c - m)) (l.drop m) (l.drop m) _ HY8.out ?_).mono ?_
       · exact ⟨A', c - m, by rw [List.length_drop], by rw [List.length_drop]; have := HC.out; omega, by rw [List.length_drop]; exact HFR.out _ (HRD.out.below HW8.out)⟩
       rintro e w9 ⟨rfl, hb9⟩
       rw [show decide (l.drop m = l.drop m) = true from decide_eq_true rfl]
       have HW9 := Lib.hid (below_comp HW8.out hb9)
       have HOW9 := Lib.hid (HOW8.out.below hb9)
       clear hb9)
    | (go_at_call_of 31 (Value.slice A7 l.length c7)
       refine (En.same_any (.slice A7 l.length c7) (.slice A l.length c) l l _ HOW9.out ?_).mono ?_
       · exact HR.out.below HW9.out
       rintro e w10 ⟨rfl, hb10⟩
       rw [show decide (l = l) = true from decide_eq_true rfl]
       have HW10 := Lib.hid (below_comp HW9.out hb10)
       clear hb10)
    | (go_at_call 36
       refine (alive_any _).mono ?_
       rintro e w11 ⟨rfl, hb11⟩
       have HW11 := Lib.hid (below_comp HW10.out hb11)
       clear hb11))
  go_wp2
  go_ret
  exact ⟨rfl, HW11.out⟩

section
variable {H : Type} {enc : TypeId × Value → H} {W : World} {base : Nat} {spare : Nat → Bool} {held : Bool} {v : Value} {d : DataW H} {ps : List MemPlace}
theorem op_calls {r : Reach} {b2 : Nat} (hv : Value.okWide Try.prog W r b2 61 v) (h : DataW.Trod enc Try.prog W base spare held 61 v d ps) :
    ∃ A c cs, v = .slice A cs.length c ∧ CR W A cs ∧ CB cs := by
  obtain ⟨a, len, cap, rfl⟩ := okWide_slice Try.underlying61 hv
  obtain ⟨fuel, hf⟩ := h
  have hf' : DataW.trod enc Try.prog W base spare held fuel 61 [.slice a len cap] = some (d, ps) := by simpa [Value.cells] using hf
  rcases Go.Deep.open_slice_pairs Try.underlying61 Try.underlying68 (by kernel_rfl) (by kernel_rfl) (by kernel_rfl) (by kernel_rfl) (by kernel_rfl) hf' with ⟨hcs, _⟩ | ⟨a', l, c, m, n, V0, V1, D0, D1, P0, P1, hcs, _, hl, hm, hmm, _, hx⟩
  · injection hcs with hcs
    injection hcs with e1 e2 e3
    subst e1 e2 e3
    exact ⟨none, 0, [], rfl, ⟨by simp, fun j hj => absurd hj (Nat.not_lt_zero j)⟩, fun j => by simp⟩
  · injection hcs with hcs
    injection hcs with e1 e2 e3
    subst e1 e2 e3
    have hlm : len ≤ m := by rw [hmm]; split <;> omega
    obtain ⟨f, hfn⟩ := Go.Deep.choose_lt (α := Int × Int) (n := len) (p := fun i y => V0 i = .int .i64 y.1 ∧ V1 i = .int .i64 y.2 ∧ (Lit.int .i64 y.1).wf = true ∧ (Lit.int .i64 y.2).wf = true) (fun i hi => by
      obtain ⟨_, _, h0, h1⟩ := hx i (by omega)
      obtain ⟨x, hx0, _, wx⟩ := DataW.trod_int Try.underlying3 h0
      obtain ⟨y, hy0, _, wy⟩ := DataW.trod_int Try.underlying3 h1
      injection hx0 with hx0
      injection hy0 with hy0
      exact ⟨(x, y), hx0, hy0, wx, wy⟩)
    have hget : ∀ j, j < len → ((List.range len).map f).getD j (0, 0) = f j := fun j hj => by simp [List.getD_eq_getElem?_getD, hj]
    refine ⟨some a', cap, (List.range len).map f, by simp, ⟨by simp; unfold maxLen at hm; omega, fun j hj => ?_⟩, fun j => ?_⟩
    · have hj' : j < len := by simpa using hj
      obtain ⟨h0, h1, _, _⟩ := hx j (by omega)
      obtain ⟨f0, f1, _, _⟩ := hfn j hj'
      rw [hget j hj']
      exact ⟨a', rfl, by rw [h0, f0], by rw [h1, f1]⟩
    · by_cases hj : j < len
      · obtain ⟨_, _, w0, w1⟩ := hfn j hj
        rw [hget j hj]
        have b0 := bounds_i64 w0
        have b1 := bounds_i64 w1
        omega
      · rw [List.getD_eq_getElem?_getD, List.getElem?_eq_none (by simp; omega)]
        simp
end

end Go.Proofs.Ytmjohplmcnafhaa.Tk
