/- Package replay: which numbers of messages came; what each method does to the 34 cells behind the pointer. -/
import Derived.Test.YtapncdgeigbgmaaBs
import Derived.WalkKit
import Derived.RowKit3
import Derived.Deep.LoopGhost
import Derived.Deep.QuietTactic
import Derived.BigQuiet
import Derived.RegionTactic
import Derived.ChangeAlike
import Derived.Deep.RegionHeld3
import Derived.Laws.BitsLemmas
set_option linter.unusedSimpArgs false
set_option linter.unusedVariables false
set_option maxRecDepth 100000
namespace Go.Proofs.Ytapncdgeigbgmaa.Rp
open Go.RowKit Go.Proofs.YtapncdgeigbgmaaW.PrintWords Go.Proofs.Ytapncdgeigbgmaa.Bs

/-- From cell o of block b on lies a window: its greatest number, whether there is one, its words. -/
def Win (w : World) (b o t : Nat) (s : Bool) (R : Nat → Nat) : Prop :=
  w.cell? ⟨b, o, none⟩ = some (.int .u64 t) ∧ w.cell? ⟨b, o + 1, none⟩ = some (.bool s) ∧ (∀ i, i < 32 → w.cell? ⟨b, o + 2 + i, none⟩ = some (.int .u64 (R i))) ∧
    (∀ j, j < 34 → w.frozen? ⟨b, o + j, none⟩ = false) ∧ t < 18446744073709551616 ∧ ∀ i, i < 32 → R i < 18446744073709551616

theorem and63 (n : Nat) (h : n < 18446744073709551616) : Go.bits .and .u64 (n : Int) 63 = ((n % 64 : Nat) : Int) := by
  show IntKind.u64.wrap ((BitVec.ofInt 64 (n : Int) &&& BitVec.ofInt 64 63).toNat : Int) = _
  rw [BitVec.toNat_and, BitVec.ofInt_natCast, BitVec.toNat_ofNat, Nat.mod_eq_of_lt (show n < 2 ^ 64 from h), show (BitVec.ofInt 64 63).toNat = 2 ^ 6 - 1 from by decide, Nat.and_two_pow_sub_one_eq_mod, IntKind.wrap_u64]
  have := Nat.mod_lt n (show 0 < 2 ^ 6 by decide)
  omega
theorem and31 (n : Nat) (h : n < 18446744073709551616) : Go.bits .and .u64 (n : Int) 31 = ((n % 32 : Nat) : Int) := by
  show IntKind.u64.wrap ((BitVec.ofInt 64 (n : Int) &&& BitVec.ofInt 64 31).toNat : Int) = _
  rw [BitVec.toNat_and, BitVec.ofInt_natCast, BitVec.toNat_ofNat, Nat.mod_eq_of_lt (show n < 2 ^ 64 from h), show (BitVec.ofInt 64 31).toNat = 2 ^ 5 - 1 from by decide, Nat.and_two_pow_sub_one_eq_mod, IntKind.wrap_u64]
  have := Nat.mod_lt n (show 0 < 2 ^ 5 by decide)
  omega
theorem and_u64 (a b : Nat) (ha : a < 18446744073709551616) (hb : b < 18446744073709551616) : Go.bits .and .u64 (a : Int) (b : Int) = ((a &&& b : Nat) : Int) := by
  show IntKind.u64.wrap ((BitVec.ofInt 64 (a : Int) &&& BitVec.ofInt 64 (b : Int)).toNat : Int) = _
  rw [BitVec.toNat_and, BitVec.ofInt_natCast, BitVec.ofInt_natCast, BitVec.toNat_ofNat, BitVec.toNat_ofNat, Nat.mod_eq_of_lt (show a < 2 ^ 64 from ha), Nat.mod_eq_of_lt (show b < 2 ^ 64 from hb), IntKind.wrap_u64]
  have : a &&& b ≤ a := Nat.and_le_left
  omega
theorem or_u64 (a b : Nat) (ha : a < 18446744073709551616) (hb : b < 18446744073709551616) : Go.bits .or .u64 (a : Int) (b : Int) = ((a ||| b : Nat) : Int) := by
  show IntKind.u64.wrap ((BitVec.ofInt 64 (a : Int) ||| BitVec.ofInt 64 (b : Int)).toNat : Int) = _
  rw [BitVec.toNat_or, BitVec.ofInt_natCast, BitVec.ofInt_natCast, BitVec.toNat_ofNat, BitVec.toNat_ofNat, Nat.mod_eq_of_lt (show a < 2 ^ 64 from ha), Nat.mod_eq_of_lt (show b < 2 ^ 64 from hb), IntKind.wrap_u64]
  have : a ||| b < 2 ^ 64 := Nat.or_lt_two_pow ha hb
  omega

theorem ret_tt {k k' : IntKind} {a b c d : Int} (h : a = b) (h' : c = d) : Ending.returned (.tuple #[.int k a, .int k' c]) = .returned (.tuple #[.int k b, .int k' d]) := by rw [h, h']

theorem place_any (n : Nat) (w : World) (h : n < 18446744073709551616) :
    Calls Try.prog 82 #[.int .u64 n] w fun e w' => e = .returned (.tuple #[.int .u64 ((n / 64 % 32 : Nat) : Int), .int .u64 ((2 ^ (n % 64) : Nat) : Int)]) ∧ w = w' := by
  have h1 : Go.bits .and .u64 (n : Int) 63 = ((n % 64 : Nat) : Int) := and63 n h
  have h2 : Go.bits .and .u64 ((n : Int) / 64) 31 = ((n / 64 % 32 : Nat) : Int) := and31 (n / 64) (by omega)
  go_enter Try.func82, Try.ntmps82
  go_wp2
  go_ret2
  refine ⟨ret_tt (by omega) ?_, rfl⟩
  have hk : n % 64 < 64 := Nat.mod_lt _ (by decide)
  have hp : (2 : Nat) ^ (n % 64) < 2 ^ 64 := Nat.pow_lt_pow_right (by decide) hk
  rw [IntKind.wrap_u64]
  have e : ((2 : Int) ^ (n % 64)) = ((2 ^ (n % 64) : Nat) : Int) := by push_cast; rfl
  rw [e]
  clear h1 h2 e
  generalize 2 ^ (n % 64) = p at hp ⊢
  omega

theorem and_pow_zero (r k : Nat) : r &&& 2 ^ k = 0 ↔ r.testBit k = false := by
  constructor
  · intro h
    have h2 : (r &&& 2 ^ k).testBit k = false := by rw [h]; simp
    rw [Nat.testBit_and, Nat.testBit_two_pow_self] at h2
    simpa using h2
  · intro h
    apply Nat.eq_of_testBit_eq
    intro i
    rw [Nat.testBit_and, Nat.testBit_two_pow, Nat.zero_testBit]
    by_cases e : k = i
    · subst e; simp [h]
    · simp [e]

/-- Can a number be taken? -/
def canW (t : Nat) (s : Bool) (R : Nat → Nat) (n : Nat) : Bool :=
  decide (n < 18446744073709543423) && (!s || decide (t < n) || (decide (t - n ≤ 1984) && !(R (n / 64 % 32)).testBit (n % 64)))

theorem can_nil (n : Nat) (w : World) (h : n < 18446744073709551616) :
    Calls Try.prog 80 #[.pointer none, .int .u64 n] w fun e w' => e = .returned (.bool false) ∧ w' = w := by
  go_enter Try.func80, Try.ntmps80
  go_wp2
  go_ret
  exact ⟨rfl, rfl⟩

set_option maxRecDepth 100000 in
set_option maxHeartbeats 1000000 in
theorem can_any (b o t n : Nat) (s : Bool) (R : Nat → Nat) (w : World) (hw : Win w b o t s R) (h : n < 18446744073709551616) :
    Calls Try.prog 80 #[.pointer (some ⟨b, o, none⟩), .int .u64 n] w fun e w' => e = .returned (.bool (canW t s R n)) ∧ w' = w := by
  obtain ⟨c0, c1, hc, hf, ht, hR⟩ := hw
  have hj : n / 64 % 32 < 32 := Nat.mod_lt _ (by decide)
  have hcj := hc _ hj
  have hrj := hR _ hj
  have hk : n % 64 < 64 := Nat.mod_lt _ (by decide)
  have hm : (2 : Nat) ^ (n % 64) < 2 ^ 64 := Nat.pow_lt_pow_right (by decide) hk
  have hb := and_u64 (R (n / 64 % 32)) (2 ^ (n % 64)) hrj hm
  have hbit : R (n / 64 % 32) &&& 2 ^ (n % 64) = 0 ↔ (R (n / 64 % 32)).testBit (n % 64) = false := by
    exact and_pow_zero _ _
  have HP := Lib.hid (fun w => place_any n w h)
  have HC : Hid (canW t s R n = (decide (n < 18446744073709543423) && (!s || decide (t < n) || (decide (t - n ≤ 1984) && !(R (n / 64 % 32)).testBit (n % 64))))) := Lib.hid rfl
  clear hc hf hR hk
  generalize (R (n / 64 % 32)).testBit (n % 64) = B1 at hbit HC
  generalize hr : R (n / 64 % 32) = r at hcj hrj hb hbit
  clear hr
  generalize hjj : n / 64 % 32 = j at hcj hj HP
  generalize hmm : 2 ^ (n % 64) = m at hb hbit HP hm
  clear hjj hmm
  generalize r &&& m = q at hb hbit
  have HH := Lib.hid h
  have ht0 : (0 : Int) ≤ t := by omega
  have ht1 : (t : Int) < 18446744073709551616 := by omega
  have hn1 : (n : Int) < 18446744073709551616 := by omega
  have hr1 : (r : Int) < 18446744073709551616 := by omega
  clear h ht hm hrj
  by_cases hl : (18446744073709543423 : Int) ≤ n
  · have HF : Hid (canW t s R n = false) := Lib.hid (by rw [HC.out, decide_eq_false (by omega)]; rfl)
    go_enter Try.func80, Try.ntmps80
    go_wp2
    go_ret
    rw [HF.out]
    exact ⟨rfl, rfl⟩
  cases s with
  | false =>
    have HF : Hid (canW t false R n = true) := Lib.hid (by rw [HC.out, decide_eq_true (show n < 18446744073709543423 by omega)]; rfl)
    go_enter Try.func80, Try.ntmps80
    go_wp2
    go_ret
    rw [HF.out]
    exact ⟨rfl, rfl⟩
  | true =>
    by_cases hn : (t : Int) < n
    · have HF : Hid (canW t true R n = true) := Lib.hid (by rw [HC.out, decide_eq_true (show n < 18446744073709543423 by omega), decide_eq_true (show t < n by omega)]; rfl)
      go_enter Try.func80, Try.ntmps80
      go_wp2
      go_ret
      rw [HF.out]
      exact ⟨rfl, rfl⟩
    · by_cases hd : (1984 : Int) < (t : Int) - n
      · have HF : Hid (canW t true R n = false) := Lib.hid (by rw [HC.out, decide_eq_false (show ¬ t < n by omega), decide_eq_false (show ¬ t - n ≤ 1984 by omega)]; simp)
        go_enter Try.func80, Try.ntmps80
        go_wp2
        go_ret
        rw [HF.out]
        exact ⟨rfl, rfl⟩
      · have HF : Hid (canW t true R n = decide (q = 0)) := Lib.hid (by
          rw [HC.out, decide_eq_true (show n < 18446744073709543423 by omega), decide_eq_false (show ¬ t < n by omega), decide_eq_true (show t - n ≤ 1984 by omega)]
          by_cases hq : q = 0
          · rw [hbit.1 hq, decide_eq_true hq]; rfl
          · have : B1 = true := by cases B1 with
              | true => rfl
              | false => exact absurd (hbit.2 rfl) hq
            rw [this, decide_eq_false hq]; rfl)
        clear hbit HC
        go_enter Try.func80, Try.ntmps80
        go_wp2_with fail
        refine (HP.out _).mono ?_
        rintro e w' ⟨rfl, rfl⟩
        go_wp2_with fail
        go_ret
        rw [HF.out]
        exact ⟨ret_bool (by rw [Bool.eq_iff_iff]; simp), rfl⟩

/-- What may turn is cells o to o + 33 of block b. -/
def Wr (w w' : World) (b o : Nat) : Prop :=
  w.grownBy w' (some b) ∧ (∀ j, j < o ∨ o + 34 ≤ j → w'.cell? ⟨b, j, none⟩ = w.cell? ⟨b, j, none⟩) ∧ ∀ j, w'.frozen? ⟨b, j, none⟩ = w.frozen? ⟨b, j, none⟩
theorem Wr.refl (w : World) (b o : Nat) : Wr w w b o := ⟨World.grownBy.refl _ _, fun _ _ => rfl, fun _ => rfl⟩
theorem Wr.trans {w w1 w2 : World} {b o : Nat} (h : Wr w w1 b o) (k : Wr w1 w2 b o) : Wr w w2 b o :=
  ⟨World.grownBy.trans h.1 k.1, fun j hj => (k.2.1 j hj).trans (h.2.1 j hj), fun j => (k.2.2 j).trans (h.2.2 j)⟩
theorem far_off {b i j : Nat} (h : i ≠ j) : (⟨b, i, none⟩ : Addr) ≠ ⟨b, j, none⟩ := fun e => h (by injection e)
theorem Wr.set {w w1 : World} {b o : Nat} (h : Wr w w1 b o) (j : Nat) (hj : o ≤ j ∧ j < o + 34) (v : Value) : Wr w (w1.setCell ⟨b, j, none⟩ v) b o :=
  h.trans ⟨grown_set _ _ _ _, fun i hi => World.cell?_setCell_other _ _ _ _ (far_off (by omega)), fun i => World.frozen?_setCell _ _ _ _⟩
theorem Wr.drew {w w1 : World} {b o : Nat} (h : Wr w w1 b o) : Wr w w1.drew b o := h.trans ⟨grown_of_below (below_drew (Below.refl _ _)) _, fun _ _ => rfl, fun _ => rfl⟩

def setR (R : Nat → Nat) (j x : Nat) : Nat → Nat := fun i => if i = j then x else R i
theorem Win.drew {w : World} {b o t : Nat} {s : Bool} {R : Nat → Nat} (h : Win w b o t s R) : Win w.drew b o t s R := h
theorem Win.set {w : World} {b o t : Nat} {s : Bool} {R : Nat → Nat} (h : Win w b o t s R) (j x : Nat) (hj : j < 32) (hx : x < 18446744073709551616) :
    Win (w.setCell ⟨b, o + 2 + j, none⟩ (.int .u64 x)) b o t s (setR R j x) := by
  obtain ⟨c0, c1, hc, hf, ht, hR⟩ := h
  refine ⟨(World.cell?_setCell_other _ _ _ _ (far_off (by omega))).trans c0, (World.cell?_setCell_other _ _ _ _ (far_off (by omega))).trans c1, fun i hi => ?_, fun i hi => (World.frozen?_setCell _ _ _ _).trans (hf i hi), ht, fun i hi => ?_⟩
  · unfold setR
    by_cases e : i = j
    · subst e
      rw [if_pos rfl]
      exact World.cell?_setCell_same _ _ _ (hc i hi)
    · rw [if_neg e]
      exact (World.cell?_setCell_other _ _ _ _ (far_off (by omega))).trans (hc i hi)
  · unfold setR
    split
    · exact hx
    · exact hR i hi
theorem Win.top {w : World} {b o t : Nat} {s : Bool} {R : Nat → Nat} (h : Win w b o t s R) (n : Nat) (hn : n < 18446744073709551616) : Win (w.setCell ⟨b, o, none⟩ (.int .u64 n)) b o n s R := by
  obtain ⟨c0, c1, hc, hf, ht, hR⟩ := h
  exact ⟨World.cell?_setCell_same _ _ _ c0, (World.cell?_setCell_other _ _ _ _ (far_off (by omega))).trans c1, fun i hi => (World.cell?_setCell_other _ _ _ _ (far_off (by omega))).trans (hc i hi), fun i hi => (World.frozen?_setCell _ _ _ _).trans (hf i hi), hn, hR⟩
theorem Win.some {w : World} {b o t : Nat} {s : Bool} {R : Nat → Nat} (h : Win w b o t s R) (s' : Bool) : Win (w.setCell ⟨b, o + 1, none⟩ (.bool s')) b o t s' R := by
  obtain ⟨c0, c1, hc, hf, ht, hR⟩ := h
  exact ⟨(World.cell?_setCell_other _ _ _ _ (far_off (by omega))).trans c0, World.cell?_setCell_same _ _ _ c1, fun i hi => (World.cell?_setCell_other _ _ _ _ (far_off (by omega))).trans (hc i hi), fun i hi => (World.frozen?_setCell _ _ _ _).trans (hf i hi), ht, hR⟩

/-- Words f + 1 to f + k are cleared. -/
def clr (R : Nat → Nat) (f : Nat) : Nat → Nat → Nat
  | 0 => R
  | k + 1 => setR (clr R f k) ((f + 1 + k) % 32) 0
/-- The word behind which rise clears. -/
def fromW (t n : Nat) : Nat := if 32 ≤ n / 64 - t / 64 then n / 64 - 32 else t / 64

set_option maxRecDepth 100000 in
set_option maxHeartbeats 2000000 in
theorem rise_any (b o t n : Nat) (s : Bool) (R : Nat → Nat) (w : World) (hw : Win w b o t s R) (h : n < 18446744073709551616) (htn : t ≤ n) :
    Calls Try.prog 81 #[.pointer (some ⟨b, o, none⟩), .int .u64 n] w fun e w' => e = .returned (.tuple #[]) ∧ Win w' b o n s (clr R (fromW t n) (n / 64 - fromW t n)) ∧ Wr w w' b o := by
  obtain ⟨c0, c1, hc, hf, ht, hR⟩ := hw
  have HW : Hid (Win w b o t s R) := Lib.hid ⟨c0, c1, hc, hf, ht, hR⟩
  have HN := Lib.hid h
  have ht1 : (t : Int) < 18446744073709551616 := by omega
  have hn1 : (n : Int) < 18446744073709551616 := by omega
  have htn1 : (t : Int) ≤ n := by omega
  have hle : fromW t n ≤ n / 64 := by unfold fromW; split <;> omega
  have HF : Hid (fromW t n = if 32 ≤ n / 64 - t / 64 then n / 64 - 32 else t / 64) := Lib.hid rfl
  clear hc hf hR c1 ht h htn
  generalize fromW t n = f at hle HF
  by_cases hd : (32 : Int) ≤ (n : Int) / 64 - (t : Int) / 64
  · have hff : f = n / 64 - 32 := by rw [HF.out, if_pos (by omega)]
    go_enter Try.func81, Try.ntmps81
    go_wp2_with fail
    go_loopw [6] (fun v6 wr => ∃ i : Nat, f + 1 ≤ i ∧ i ≤ n / 64 + 1 ∧ v6 = .int .u64 i ∧ Hid (Win wr b o t s (clr R f (i - (f + 1)))) ∧ Hid (Wr w wr b o)) (fun v6 _ => n / 64 + 1 - (intOf v6).toNat)
    case atStart => exact ⟨f + 1, Nat.le_refl _, by omega, int_eq (by omega), Lib.hid (by rw [Nat.sub_self]; exact HW.out), Lib.hid (Wr.refl _ _ _)⟩
    case round =>
      obtain ⟨i, hi0, hi1, rfl, HWK, HK⟩ := hrel
      by_cases hlt : (i : Int) ≤ (n : Int) / 64
      · have hj : i % 32 < 32 := Nat.mod_lt _ (by decide)
        have h31 := and31 i (by omega)
        have HS : Hid (Win (wr.setCell ⟨b, o + 2 + i % 32, none⟩ (.int .u64 0)) b o t s (clr R f (i + 1 - (f + 1)))) := Lib.hid (by
          have h := HWK.out.set (i % 32) 0 hj (by decide)
          rw [show i + 1 - (f + 1) = (i - (f + 1)) + 1 by omega]
          unfold clr
          rw [show f + 1 + (i - (f + 1)) = i by omega]
          exact h)
        have HS2 := Lib.hid (HK.out.set (o + 2 + i % 32) (by omega) (.int .u64 0))
        have hcs := HWK.out.2.2.1
        have hfs := HWK.out.2.2.2.1
        have hc1 := hcs _ hj
        have hf1 := hfs (2 + i % 32) (by omega)
        rw [← Nat.add_assoc] at hf1
        generalize i % 32 = j at hj h31 HS HS2 hc1 hf1
        generalize clr R f (i - (f + 1)) j = x at hc1
        clear hcs hfs
        go_wp2
        go_roundw
        case rel => exact ⟨i + 1, by omega, by omega, by go_num, HS, HS2⟩
        case measure => (simp [intOf]) <;> omega
      · rw [show i - (f + 1) = n / 64 - f by omega] at HWK
        have HS := Lib.hid (HWK.out.top n HN.out)
        have HS2 := Lib.hid (HK.out.set o (by omega) (.int .u64 n))
        have c1 := HWK.out.1
        have hfs := HWK.out.2.2.2.1
        have hf1 : wr.frozen? ⟨b, o, none⟩ = false := hfs 0 (by decide)
        clear hfs
        go_wp2
        go_end0
        exact ⟨rfl, (by first | exact HS.out | (rw [← hff]; exact HS.out)), HS2.out⟩
  · have hff : f = t / 64 := by rw [HF.out, if_neg (by omega)]
    go_enter Try.func81, Try.ntmps81
    go_wp2_with fail
    go_loopw [6] (fun v6 wr => ∃ i : Nat, f + 1 ≤ i ∧ i ≤ n / 64 + 1 ∧ v6 = .int .u64 i ∧ Hid (Win wr b o t s (clr R f (i - (f + 1)))) ∧ Hid (Wr w wr b o)) (fun v6 _ => n / 64 + 1 - (intOf v6).toNat)
    case atStart => exact ⟨f + 1, Nat.le_refl _, by omega, int_eq (by omega), Lib.hid (by rw [Nat.sub_self]; exact HW.out), Lib.hid (Wr.refl _ _ _)⟩
    case round =>
      obtain ⟨i, hi0, hi1, rfl, HWK, HK⟩ := hrel
      by_cases hlt : (i : Int) ≤ (n : Int) / 64
      · have hj : i % 32 < 32 := Nat.mod_lt _ (by decide)
        have h31 := and31 i (by omega)
        have HS : Hid (Win (wr.setCell ⟨b, o + 2 + i % 32, none⟩ (.int .u64 0)) b o t s (clr R f (i + 1 - (f + 1)))) := Lib.hid (by
          have h := HWK.out.set (i % 32) 0 hj (by decide)
          rw [show i + 1 - (f + 1) = (i - (f + 1)) + 1 by omega]
          unfold clr
          rw [show f + 1 + (i - (f + 1)) = i by omega]
          exact h)
        have HS2 := Lib.hid (HK.out.set (o + 2 + i % 32) (by omega) (.int .u64 0))
        have hcs := HWK.out.2.2.1
        have hfs := HWK.out.2.2.2.1
        have hc1 := hcs _ hj
        have hf1 := hfs (2 + i % 32) (by omega)
        rw [← Nat.add_assoc] at hf1
        generalize i % 32 = j at hj h31 HS HS2 hc1 hf1
        generalize clr R f (i - (f + 1)) j = x at hc1
        clear hcs hfs
        go_wp2
        go_roundw
        case rel => exact ⟨i + 1, by omega, by omega, by go_num, HS, HS2⟩
        case measure => (simp [intOf]) <;> omega
      · rw [show i - (f + 1) = n / 64 - f by omega] at HWK
        have HS := Lib.hid (HWK.out.top n HN.out)
        have HS2 := Lib.hid (HK.out.set o (by omega) (.int .u64 n))
        have c1 := HWK.out.1
        have hfs := HWK.out.2.2.2.1
        have hf1 : wr.frozen? ⟨b, o, none⟩ = false := hfs 0 (by decide)
        clear hfs
        go_wp2
        go_end0
        exact ⟨rfl, (by first | exact HS.out | (rw [← hff]; exact HS.out)), HS2.out⟩

/-- What Take leaves. -/
def takeT (t : Nat) (s : Bool) (R : Nat → Nat) (n : Nat) : Nat := if canW t s R n = true then max t n else t
def takeS (t : Nat) (s : Bool) (R : Nat → Nat) (n : Nat) : Bool := s || canW t s R n
/-- The words behind the rise. -/
def risen (t : Nat) (R : Nat → Nat) (n : Nat) : Nat → Nat := if t < n then clr R (fromW t n) (n / 64 - fromW t n) else R
def takeR (t : Nat) (s : Bool) (R : Nat → Nat) (n : Nat) : Nat → Nat :=
  if canW t s R n = true then setR (risen t R n) (n / 64 % 32) (risen t R n (n / 64 % 32) ||| 2 ^ (n % 64)) else R

theorem take_nil (n : Nat) (w : World) (h : n < 18446744073709551616) :
    Calls Try.prog 55 #[.pointer none, .int .u64 n] w fun e w' => e = .returned (.bool false) ∧ w = w' := by
  go_enter Try.func55, Try.ntmps55
  go_wp2_with fail
  refine (can_nil n _ h).mono ?_
  rintro e w' ⟨rfl, rfl⟩
  go_wp2_with fail
  go_ret
  exact ⟨rfl, rfl⟩

set_option maxRecDepth 100000 in
set_option maxHeartbeats 2000000 in
theorem take_any (b o t n : Nat) (s : Bool) (R : Nat → Nat) (w : World) (hw : Win w b o t s R) (h : n < 18446744073709551616) :
    Calls Try.prog 55 #[.pointer (some ⟨b, o, none⟩), .int .u64 n] w fun e w' => e = .returned (.bool (canW t s R n)) ∧ Win w' b o (takeT t s R n) (takeS t s R n) (takeR t s R n) ∧ Wr w w' b o := by
  have HW := Lib.hid hw
  have HN := Lib.hid h
  have c0 := hw.1
  have ht1 : (t : Int) < 18446744073709551616 := by have := hw.2.2.2.2.1; omega
  have hn1 : (n : Int) < 18446744073709551616 := by omega
  have HC := Lib.hid (fun w hw => can_any b o t n s R w hw h)
  have HTT : Hid (takeT t s R n = if canW t s R n = true then max t n else t) := Lib.hid rfl
  have HTS : Hid (takeS t s R n = (s || canW t s R n)) := Lib.hid rfl
  have HTR : Hid (takeR t s R n = if canW t s R n = true then setR (risen t R n) (n / 64 % 32) (risen t R n (n / 64 % 32) ||| 2 ^ (n % 64)) else R) := Lib.hid rfl
  have HRS : Hid (risen t R n = if t < n then clr R (fromW t n) (n / 64 - fromW t n) else R) := Lib.hid rfl
  clear hw h
  generalize canW t s R n = can at HC HTT HTS HTR ⊢
  cases can with
  | false =>
    have e1 : takeT t s R n = t := HTT.out
    have e2 : takeS t s R n = s := by rw [HTS.out]; cases s <;> rfl
    have e3 : takeR t s R n = R := HTR.out
    rw [e1, e2, e3]
    clear e1 e2 e3
    go_enter Try.func55, Try.ntmps55
    go_wp2_with fail
    refine (HC.out _ HW.out).mono ?_
    rintro e w' ⟨rfl, rfl⟩
    go_wp2_with fail
    go_ret
    exact ⟨rfl, HW.out, Wr.refl _ _ _⟩
  | true =>
    have e1 : takeT t s R n = max t n := HTT.out
    have e2 : takeS t s R n = true := by rw [HTS.out]; cases s <;> rfl
    have e3 : takeR t s R n = setR (risen t R n) (n / 64 % 32) (risen t R n (n / 64 % 32) ||| 2 ^ (n % 64)) := HTR.out
    rw [e1, e2, e3]
    clear e1 e2 e3
    have hj : n / 64 % 32 < 32 := Nat.mod_lt _ (by decide)
    have hm : (2 : Nat) ^ (n % 64) < 18446744073709551616 := by
      have h := Nat.pow_lt_pow_right (a := 2) (by decide) (Nat.mod_lt n (show 0 < 64 by decide))
      exact h
    have HP := Lib.hid (fun w => place_any n w HN.out)
    have HM := Lib.hid hm
    have HJ := Lib.hid hj
    clear hm hj
    generalize n / 64 % 32 = j at HP HJ ⊢
    generalize 2 ^ (n % 64) = m at HP HM ⊢
    by_cases hn : (t : Int) < n
    · rw [show max t n = n by omega]
      have e4 : risen t R n = clr R (fromW t n) (n / 64 - fromW t n) := by rw [HRS.out, if_pos (by omega)]
      have HRI := Lib.hid (fun w hw => rise_any b o t n s R w hw HN.out (by omega))
      rw [← e4] at HRI
      clear e4
      generalize risen t R n = R2 at HRI ⊢
      go_enter Try.func55, Try.ntmps55
      go_wp2_with fail
      refine (HC.out _ HW.out).mono ?_
      rintro e w' ⟨rfl, rfl⟩
      go_wp2_with fail
      refine (HRI.out _ HW.out).mono ?_
      rintro e w1 ⟨rfl, hw1, hr1⟩
      have hc1 := (hw1).2.1
      have hf1 : (w1).frozen? ⟨b, o + 1, none⟩ = false := (hw1).2.2.2.1 1 (by decide)
      have HW1 := Lib.hid hw1
      have HR1 := Lib.hid hr1
      clear hw1 hr1
      go_wp2_with fail
      refine (HP.out _).mono ?_
      rintro e w'' ⟨rfl, hw''⟩
      subst hw''
      have hx : R2 j < 18446744073709551616 := HW1.out.2.2.2.2.2 j HJ.out
      have hor := or_u64 (R2 j) m hx HM.out
      have hlt : R2 j ||| m < 18446744073709551616 := Nat.or_lt_two_pow (n := 64) hx HM.out
      have HS := Lib.hid (((HW1.out.some true).set j (R2 j ||| m) HJ.out hlt).drew)
      have HS2 := Lib.hid (((HR1.out.set (o + 1) (by omega) (.bool true)).set (o + 2 + j) (by have := HJ.out; omega) (.int .u64 ((R2 j ||| m : Nat) : Int))).drew)
      have hc2 := HW1.out.2.2.1 j HJ.out
      have hf2 : (w1).frozen? ⟨b, o + 2 + j, none⟩ = false := by
        have h := HW1.out.2.2.2.1 (2 + j) (by have := HJ.out; omega)
        rwa [← Nat.add_assoc] at h
      have hj0 := HJ.out
      have hlt2 : ((R2 j ||| m : Nat) : Int) < 18446744073709551616 := by omega
      have hx2 : ((R2 j : Nat) : Int) < 18446744073709551616 := by omega
      have hm2 : ((m : Nat) : Int) < 18446744073709551616 := by have := HM.out; omega
      clear hx hlt
      generalize hy : R2 j ||| m = y at hor hlt2 HS HS2
      have HY := Lib.hid hy
      clear hy
      generalize R2 j = x at hor hc2 hx2
      go_wp2_with fail
      go_region
      go_wp2
      go_ret
      rw [HY.out]
      exact ⟨rfl, HS.out, HS2.out⟩
    · rw [show max t n = t by omega]
      clear ht1 hn1
      have e4 : risen t R n = R := by rw [HRS.out, if_neg (by omega)]
      rw [e4]
      clear e4
      go_enter Try.func55, Try.ntmps55
      go_wp2_with fail
      refine (HC.out _ HW.out).mono ?_
      rintro e w' ⟨rfl, rfl⟩
      have hw1 := HW.out
      have hr1 := Wr.refl w' b o
      have hc1 := (hw1).2.1
      have hf1 : (w').frozen? ⟨b, o + 1, none⟩ = false := (hw1).2.2.2.1 1 (by decide)
      have HW1 := Lib.hid hw1
      have HR1 := Lib.hid hr1
      clear hw1 hr1
      go_wp2_with fail
      refine (HP.out _).mono ?_
      rintro e w'' ⟨rfl, hw''⟩
      subst hw''
      have hx : R j < 18446744073709551616 := HW1.out.2.2.2.2.2 j HJ.out
      have hor := or_u64 (R j) m hx HM.out
      have hlt : R j ||| m < 18446744073709551616 := Nat.or_lt_two_pow (n := 64) hx HM.out
      have HS := Lib.hid (((HW1.out.some true).set j (R j ||| m) HJ.out hlt).drew)
      have HS2 := Lib.hid (((HR1.out.set (o + 1) (by omega) (.bool true)).set (o + 2 + j) (by have := HJ.out; omega) (.int .u64 ((R j ||| m : Nat) : Int))).drew)
      have hc2 := HW1.out.2.2.1 j HJ.out
      have hf2 : (w').frozen? ⟨b, o + 2 + j, none⟩ = false := by
        have h := HW1.out.2.2.2.1 (2 + j) (by have := HJ.out; omega)
        rwa [← Nat.add_assoc] at h
      have hj0 := HJ.out
      have hlt2 : ((R j ||| m : Nat) : Int) < 18446744073709551616 := by omega
      have hx2 : ((R j : Nat) : Int) < 18446744073709551616 := by omega
      have hm2 : ((m : Nat) : Int) < 18446744073709551616 := by have := HM.out; omega
      clear hx hlt
      generalize hy : R j ||| m = y at hor hlt2 HS HS2
      have HY := Lib.hid hy
      clear hy
      generalize R j = x at hor hc2 hx2
      go_wp2_with fail
      go_region
      go_wp2
      go_ret
      rw [HY.out]
      exact ⟨rfl, HS.out, HS2.out⟩

end Go.Proofs.Ytapncdgeigbgmaa.Rp
