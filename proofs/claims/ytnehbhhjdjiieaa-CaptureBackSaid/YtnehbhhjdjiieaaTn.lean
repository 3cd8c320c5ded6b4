/- The taker where all goes well: what New makes, and what the methods hand back of bytes that are there. -/
import Derived.Test.YtnehbhhjdjiieaaTk
set_option linter.unusedSimpArgs false
set_option linter.unusedVariables false
set_option maxRecDepth 100000
namespace Go.Proofs.Ytnehbhhjdjiieaa.Tk
open Go.RowKit Go.Proofs.YtnehbhhjdjiieaaW.PrintWords Go.Proofs.Ytnehbhhjdjiieaa.Bs Go.Proofs.Ytnehbhhjdjiieaa.Le

/-- What New hands back, and where its bytes lie. -/
def MadeOwn (w : World) (l : List UInt8) (e : Ending) (w' : World) : Prop := ∃ g q, e = .returned (.pointer (some ⟨g, 0, none⟩)) ∧ w.heap.size < g ∧ Tk w' g (some ⟨w.heap.size, 0, none⟩) q l 0 0 ∧ Below w.heap.size w w'

set_option maxHeartbeats 1000000 in
theorem new_own (v : Value) (l : List UInt8) (w : World) (hr : RB w v l) (hl : l.length ≤ 1099511627776) :
    Calls Try.prog 59 #[v] w (MadeOwn w l) := by
  have HR := Lib.hid hr
  obtain ⟨A, c, rfl, hc, hr⟩ := hr
  clear hr
  have hmk := make_bytes l.length (by omega)
  have HE : Hid (over (List.replicate l.length 0) l = l) := Lib.hid (over_all _ _ (by rw [List.length_replicate]))
  go_enter Try.func59, Try.ntmps59
  go_wp2_with (first | ((with_reducible refine is_builtin (b := .copy) (xs := #[.tmp 7, .tmp 8]) rfl ?_); refine copy_bytes (w0 := w) w.heap.size rfl (.tmp 7) (.tmp 8) rfl (.slice (some ⟨w.heap.size, 0, none⟩) l.length l.length) (.slice A l.length c) (List.replicate l.length 0) l rfl rfl ?aO ?aR ?aB ?_; (case aO => exact OB.made w w.heap.size l.length (Nat.le_refl _) (by omega)); (case aR => exact HR.out.alloc _); (case aB => exact below_alloc (Below.refl _ _) _); intro w1 ho hb1; have HO1 := Lib.hid ho; have HB1 := Lib.hid hb1; clear ho hb1))
  go_ret
  have ho := HO1.out
  rw [HE.out] at ho
  refine ⟨w1.heap.size, l.length, rfl, own_lt ho _ rfl, ?_, below_alloc HB1.out _⟩
  obtain ⟨A2, c2, e, hc2, hr2⟩ := ho.rb
  injection e with e1 e2 e3
  subst e1
  exact ⟨blk_new _ _, Nat.le_refl _, hr2.below (below_alloc (Below.refl _ _) _), ho.rb.apart (Nat.le_refl _), Nat.zero_le _, hl⟩

theorem Tk.keep {w w1 : World} {g b : Nat} {P : Option Addr} {q : Nat} {l : List UInt8} {k : Nat} {f : Int} (h : Tk w g P q l k f) (hg : w.grownBy w1 (some b)) (hne : g ≠ b) (hP : l = [] ∨ (Value.slice P l.length q).ownBlock ≠ some b) : Tk w1 g P q l k f := by
  obtain ⟨h1, hc, hr, hs, hk, hl⟩ := h
  obtain ⟨A', c', e, _, hr'⟩ := RB.grown (w := w) (w1 := w1) ⟨P, q, rfl, hc, hr⟩ hg hP
  injection e with e1 e2 e3
  subst e1
  exact ⟨blk_grown h1 hg (fun e => hne (by injection e)), hc, hr', hs, hk, hl⟩

theorem next_ok (l : List UInt8) (k m : Nat) (n : Int) (hn : n = m) (h : k + m ≤ l.length) : nextT l k 0 n true = (k + m, 0, (l.drop k).take m) := by
  subst hn
  unfold nextT
  rw [if_neg (by simp), if_neg (by simp), if_neg (by omega), Int.toNat_natCast]
theorem little_ok (g : Nat) (P : Option Addr) (q : Nat) (l : List UInt8) (k m : Nat) (n : Int) (w : World) (h : Tk w g P q l k 0) (hn : n = m) (h1 : 1 ≤ m) (h8 : m ≤ 8) (hk : k + m ≤ l.length) :
    Calls Try.prog 62 #[.pointer (some ⟨g, 0, none⟩), .int .i64 n] w fun e w' => e = .returned (.int .u64 (ofLe ((l.drop k).take m))) ∧ Tk w' g P q l (k + m) 0 ∧ w.grownBy w' (some g) := by
  have h2 := little_any g P q l k 0 n w h (by omega) (by omega)
  rw [show decide (1 ≤ n ∧ n ≤ 8) = true from decide_eq_true (by omega), next_ok l k m n hn hk] at h2
  exact h2
theorem big_ok (g : Nat) (P : Option Addr) (q : Nat) (l : List UInt8) (k m : Nat) (n : Int) (w : World) (h : Tk w g P q l k 0) (hn : n = m) (h1 : 1 ≤ m) (h8 : m ≤ 8) (hk : k + m ≤ l.length) :
    Calls Try.prog 83 #[.pointer (some ⟨g, 0, none⟩), .int .i64 n] w fun e w' => e = .returned (.int .u64 (ofLe ((l.drop k).take m).reverse)) ∧ Tk w' g P q l (k + m) 0 ∧ w.grownBy w' (some g) := by
  have h2 := big_any g P q l k 0 n w h (by omega) (by omega)
  rw [show decide (1 ≤ n ∧ n ≤ 8) = true from decide_eq_true (by omega), next_ok l k m n hn hk] at h2
  exact h2
theorem bytes_ok (g : Nat) (P : Option Addr) (q : Nat) (l : List UInt8) (k m : Nat) (n : Int) (w : World) (h : Tk w g P q l k 0) (hn : n = m) (hk : k + m ≤ l.length) (hl : n ≤ 9223372036854775807) :
    Calls Try.prog 63 #[.pointer (some ⟨g, 0, none⟩), .int .i64 n] w fun e w' => ∃ v, e = .returned v ∧ OB w.heap.size w' v ((l.drop k).take m) ∧ Tk w' g P q l (k + m) 0 ∧ w.grownBy w' (some g) := by
  have h2 := bytes_any g P q l k 0 n w h (by omega) hl
  rw [show decide (0 ≤ n) = true from decide_eq_true (by omega), next_ok l k m n hn hk] at h2
  exact h2
theorem zerosT_ok (l : List UInt8) (k m : Nat) (n : Int) (hn : n = m) (h : k + m ≤ l.length) : zerosT l k 0 n = if ((l.drop k).take m).all (· == 0) then (k + m, 0, true) else (k, 10, false) := by
  unfold zerosT
  rw [show decide (0 ≤ n) = true from decide_eq_true (by omega), next_ok l k m n hn h]
  rfl
theorem zeros_ok (g : Nat) (P : Option Addr) (q : Nat) (l : List UInt8) (k m : Nat) (n : Int) (w : World) (h : Tk w g P q l k 0) (hn : n = m) (hk : k + m ≤ l.length) (hl : n ≤ 9223372036854775807) (hz : ((l.drop k).take m).all (· == 0) = true) :
    Calls Try.prog 60 #[.pointer (some ⟨g, 0, none⟩), .int .i64 n] w fun e w' => e = .returned (.bool true) ∧ Tk w' g P q l (k + m) 0 ∧ w.grownBy w' (some g) := by
  have h2 := zeros_any g P q l k 0 n w h (by omega) hl
  rw [zerosT_ok l k m n hn hk, if_pos hz] at h2
  exact h2
theorem zeros_no (g : Nat) (P : Option Addr) (q : Nat) (l : List UInt8) (k m : Nat) (n : Int) (w : World) (h : Tk w g P q l k 0) (hn : n = m) (hk : k + m ≤ l.length) (hl : n ≤ 9223372036854775807) (hz : ¬ ((l.drop k).take m).all (· == 0) = true) :
    Calls Try.prog 60 #[.pointer (some ⟨g, 0, none⟩), .int .i64 n] w fun e w' => e = .returned (.bool false) ∧ Tk w' g P q l k 10 ∧ w.grownBy w' (some g) := by
  have h2 := zeros_any g P q l k 0 n w h (by omega) hl
  rw [zerosT_ok l k m n hn hk, if_neg hz] at h2
  exact h2
theorem zero_take3 (b : List UInt8) (h : 4 ≤ b.length) : (((b.drop 1).drop 0).take 3).all (· == 0) = true ↔ b.getD 1 0 = 0 ∧ b.getD 2 0 = 0 ∧ b.getD 3 0 = 0 := by
  match b, h with
  | x :: y :: z :: u :: r, _ => simp
end Go.Proofs.Ytnehbhhjdjiieaa.Tk
