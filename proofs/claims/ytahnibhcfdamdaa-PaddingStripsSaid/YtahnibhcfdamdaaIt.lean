/- Packages ipsix and its reference: the packet of a head and a body. -/
import Derived.Test.YtahnibhcfdamdaaIr
set_option linter.unusedSimpArgs false
set_option linter.unusedVariables false
set_option maxRecDepth 100000
namespace Go.Proofs.Ytahnibhcfdamdaa.Is
open Go.RowKit Go.Proofs.YtahnibhcfdamdaaW.PrintWords Go.Proofs.Ytahnibhcfdamdaa.Bs Go.Proofs.Ytahnibhcfdamdaa.Av Go.Proofs.Ytahnibhcfdamdaa.Ad Go.Proofs.Ytahnibhcfdamdaa.Hd Go.Proofs.Ytahnibhcfdamdaa.Mm Go.Proofs.Ytahnibhcfdamdaa.Le Go.Proofs.Ytahnibhcfdamdaa.Ip Go.Proofs.Ytahnibhcfdamdaa.En

theorem fits_yes6 (n : Int) (k : Nat) (m : Int) (hm : m = k) (hk : k ≤ 60) (w : World) (h0 : 0 ≤ n) (h1 : n < 2 ^ k) :
    Calls Try.prog 95 #[.int .i64 n, .int .i64 m] w fun e w' => e = .returned (.bool true) ∧ w = w' := by
  subst hm
  have hd : n / 2 ^ k = 0 := Int.ediv_eq_zero_of_lt h0 h1
  have hb : (2 : Int) ^ k ≤ 2 ^ 60 := by exact_mod_cast Nat.pow_le_pow_right (by decide) hk
  have hn : n < 1152921504606846977 := by omega
  clear h1 hb
  go_enter Try.func95, Try.ntmps95
  go_wp2
  go_ret
  exact ⟨rfl, rfl⟩
theorem fits_no6 (n : Int) (k : Nat) (m : Int) (hm : m = k) (hk : k ≤ 60) (w : World) (hl : -9223372036854775808 ≤ n) (hh : n ≤ 9223372036854775807) (h : ¬ (0 ≤ n ∧ n < 2 ^ k)) :
    Calls Try.prog 95 #[.int .i64 n, .int .i64 m] w fun e w' => e = .returned (.bool false) ∧ w = w' := by
  subst hm
  by_cases h0 : 0 ≤ n
  · have h1 : (2 : Int) ^ k ≤ n := by omega
    have hp : (0 : Int) < 2 ^ k := by exact_mod_cast Nat.two_pow_pos k
    have hq : 1 ≤ n / 2 ^ k := Int.le_ediv_of_mul_le hp (by omega)
    have hd : (n / 2 ^ k == 0) = false := beq_false_of_ne (by omega)
    clear h h1 hp hq
    go_enter Try.func95, Try.ntmps95
    go_wp2
    go_ret
    exact ⟨rfl, rfl⟩
  · have h0' : n < 0 := by omega
    clear h h0
    go_enter Try.func95, Try.ntmps95
    go_wp2
    go_ret
    exact ⟨rfl, rfl⟩
theorem fits_yes4 (n : Int) (k : Nat) (m : Int) (hm : m = k) (hk : k ≤ 60) (w : World) (h0 : 0 ≤ n) (h1 : n < 2 ^ k) :
    Calls Try.prog 86 #[.int .i64 n, .int .i64 m] w fun e w' => e = .returned (.bool true) ∧ w = w' := by
  subst hm
  have hd : n / 2 ^ k = 0 := Int.ediv_eq_zero_of_lt h0 h1
  have hb : (2 : Int) ^ k ≤ 2 ^ 60 := by exact_mod_cast Nat.pow_le_pow_right (by decide) hk
  have hn : n < 1152921504606846977 := by omega
  clear h1 hb
  go_enter Try.func86, Try.ntmps86
  go_wp2
  go_ret
  exact ⟨rfl, rfl⟩
theorem fits_no4 (n : Int) (k : Nat) (m : Int) (hm : m = k) (hk : k ≤ 60) (w : World) (hl : -9223372036854775808 ≤ n) (hh : n ≤ 9223372036854775807) (h : ¬ (0 ≤ n ∧ n < 2 ^ k)) :
    Calls Try.prog 86 #[.int .i64 n, .int .i64 m] w fun e w' => e = .returned (.bool false) ∧ w = w' := by
  subst hm
  by_cases h0 : 0 ≤ n
  · have h1 : (2 : Int) ^ k ≤ n := by omega
    have hp : (0 : Int) < 2 ^ k := by exact_mod_cast Nat.two_pow_pos k
    have hq : 1 ≤ n / 2 ^ k := Int.le_ediv_of_mul_le hp (by omega)
    have hd : (n / 2 ^ k == 0) = false := beq_false_of_ne (by omega)
    clear h h1 hp hq
    go_enter Try.func86, Try.ntmps86
    go_wp2
    go_ret
    exact ⟨rfl, rfl⟩
  · have h0' : n < 0 := by omega
    clear h h0
    go_enter Try.func86, Try.ntmps86
    go_wp2
    go_ret
    exact ⟨rfl, rfl⟩
theorem from_yes6 (n m : Int) (w : World) (h0 : 0 ≤ n) (h1 : n ≤ m) :
    Calls Try.prog 98 #[.int .i64 n, .int .i64 m] w fun e w' => e = .returned (.bool true) ∧ w = w' := by
  go_enter Try.func98, Try.ntmps98
  go_wp2
  go_ret
  exact ⟨rfl, rfl⟩
theorem from_no6 (n m : Int) (w : World) (h : ¬ (0 ≤ n ∧ n ≤ m)) :
    Calls Try.prog 98 #[.int .i64 n, .int .i64 m] w fun e w' => e = .returned (.bool false) ∧ w = w' := by
  by_cases h0 : 0 ≤ n
  · have h1 : decide (n ≤ m) = false := decide_eq_false (by omega)
    clear h
    go_enter Try.func98, Try.ntmps98
    go_wp2
    go_ret
    exact ⟨rfl, rfl⟩
  · have h0' : n < 0 := by omega
    clear h h0
    go_enter Try.func98, Try.ntmps98
    go_wp2
    go_ret
    exact ⟨rfl, rfl⟩
theorem from_yes4 (n m : Int) (w : World) (h0 : 0 ≤ n) (h1 : n ≤ m) :
    Calls Try.prog 106 #[.int .i64 n, .int .i64 m] w fun e w' => e = .returned (.bool true) ∧ w = w' := by
  go_enter Try.func106, Try.ntmps106
  go_wp2
  go_ret
  exact ⟨rfl, rfl⟩
theorem from_no4 (n m : Int) (w : World) (h : ¬ (0 ≤ n ∧ n ≤ m)) :
    Calls Try.prog 106 #[.int .i64 n, .int .i64 m] w fun e w' => e = .returned (.bool false) ∧ w = w' := by
  by_cases h0 : 0 ≤ n
  · have h1 : decide (n ≤ m) = false := decide_eq_false (by omega)
    clear h
    go_enter Try.func106, Try.ntmps106
    go_wp2
    go_ret
    exact ⟨rfl, rfl⟩
  · have h0' : n < 0 := by omega
    clear h h0
    go_enter Try.func106, Try.ntmps106
    go_wp2
    go_ret
    exact ⟨rfl, rfl⟩
theorem own_any6 (a : Int) (x : List UInt8) (w0 : World) (hx : x.length = 16) :
    Calls Try.prog 96 #[.agg (AV [a] x)] w0 fun e w' => e = .returned (.bool (widthA a x == 128)) ∧ Below w0.heap.size w0 w' := by
  have HX := Lib.hid hx
  have HC : Hid (Cells 25 (AV [a] x)) := Lib.hid (cellsA _ _ hx)
  clear hx
  have HM := Lib.hid (Mem.start w0)
  have HB := HM.out.below
  have hw := widthA_cases a x
  go_enter Try.func96, Try.ntmps96
  go_wp2_with (first | refine m_rd ?_ | (refine m_wr ?_; clear HM HB; intro w b HM HB; try clear b) | (refine m_ap ?_; clear HM HB; intro w Aq cq HM HB) | fail)
  refine (width_any a x _ HX.out).mono ?_
  rintro e w ⟨rfl, hb⟩
  replace HM := Lib.hid (HM.out.call hb)
  replace HB := HM.out.below
  clear hb
  have hw3 : Hid (widthA a x = 0) ∨ Hid (widthA a x = 32) ∨ Hid (widthA a x = 128) := by rcases hw with ⟨h, _⟩ | ⟨h, _⟩ | ⟨h, _⟩ <;> simp [h, Lib.hid]
  clear hw
  rcases hw3 with HE | HE | HE
  all_goals
    rw [HE.out]
    go_wp2_with (first | refine m_rd ?_ | (refine m_wr ?_; clear HM HB; intro w b HM HB; try clear b) | (refine m_ap ?_; clear HM HB; intro w Aq cq HM HB) | fail)
    go_ret
    rw [HE.out]
    exact ⟨rfl, HB⟩
theorem own_any4 (a : Int) (x : List UInt8) (w0 : World) (hx : x.length = 16) :
    Calls Try.prog 87 #[.agg (AV [a] x)] w0 fun e w' => e = .returned (.bool (widthA a x == 32)) ∧ Below w0.heap.size w0 w' := by
  have HX := Lib.hid hx
  have HC : Hid (Cells 25 (AV [a] x)) := Lib.hid (cellsA _ _ hx)
  clear hx
  have HM := Lib.hid (Mem.start w0)
  have HB := HM.out.below
  have hw := widthA_cases a x
  go_enter Try.func87, Try.ntmps87
  go_wp2_with (first | refine m_rd ?_ | (refine m_wr ?_; clear HM HB; intro w b HM HB; try clear b) | (refine m_ap ?_; clear HM HB; intro w Aq cq HM HB) | fail)
  refine (width_any a x _ HX.out).mono ?_
  rintro e w ⟨rfl, hb⟩
  replace HM := Lib.hid (HM.out.call hb)
  replace HB := HM.out.below
  clear hb
  have hw3 : Hid (widthA a x = 0) ∨ Hid (widthA a x = 32) ∨ Hid (widthA a x = 128) := by rcases hw with ⟨h, _⟩ | ⟨h, _⟩ | ⟨h, _⟩ <;> simp [h, Lib.hid]
  clear hw
  rcases hw3 with HE | HE | HE
  all_goals
    rw [HE.out]
    go_wp2_with (first | refine m_rd ?_ | (refine m_wr ?_; clear HM HB; intro w b HM HB; try clear b) | (refine m_ap ?_; clear HM HB; intro w Aq cq HM HB) | fail)
    go_ret
    rw [HE.out]
    exact ⟨rfl, HB⟩
end Go.Proofs.Ytahnibhcfdamdaa.Is
