/- The plain law of the window: what it holds beside the list of all that was taken. -/
import Derived.Test.YtapncdgeigbgmaaRp
set_option linter.unusedSimpArgs false
set_option linter.unusedVariables false
set_option maxRecDepth 100000
namespace Go.Proofs.Ytapncdgeigbgmaa.Rp

theorem clr_hit (R : Nat → Nat) (f j : Nat) : ∀ k, (∃ i, i < k ∧ (f + 1 + i) % 32 = j) → clr R f k j = 0
  | 0, ⟨i, h, _⟩ => absurd h (Nat.not_lt_zero i)
  | k + 1, ⟨i, h, e⟩ => by
    unfold clr setR
    by_cases hk : j = (f + 1 + k) % 32
    · rw [if_pos hk]
    · rw [if_neg hk]
      refine clr_hit R f j k ⟨i, ?_, e⟩
      have : i ≠ k := fun h => by subst h; exact hk e.symm
      omega
theorem clr_miss (R : Nat → Nat) (f j : Nat) : ∀ k, (∀ i, i < k → (f + 1 + i) % 32 ≠ j) → clr R f k j = R j
  | 0, _ => rfl
  | k + 1, h => by
    unfold clr setR
    rw [if_neg (fun e => h k (Nat.lt_succ_self k) e.symm)]
    exact clr_miss R f j k fun i hi => h i (by omega)

/-- The greatest number; 0: there is none. -/
def topL (m : List Nat) : Nat := m.foldl max 0
theorem foldl_max (m : List Nat) : ∀ a, a ≤ m.foldl max a ∧ ∀ k ∈ m, k ≤ m.foldl max a := by
  induction m with
  | nil => intro a; exact ⟨Nat.le_refl _, fun k hk => by simp at hk⟩
  | cons x m ih =>
    intro a
    rw [List.foldl_cons]
    obtain ⟨h1, h2⟩ := ih (max a x)
    refine ⟨by omega, fun k hk => ?_⟩
    rcases List.mem_cons.1 hk with rfl | hk
    · omega
    · exact h2 k hk
theorem topL_le (m : List Nat) (k : Nat) (h : k ∈ m) : k ≤ topL m := (foldl_max m 0).2 k h
theorem topL_snoc (m : List Nat) (n : Nat) : topL (m ++ [n]) = max (topL m) n := by unfold topL; rw [List.foldl_append]; rfl

/-- Can a number be taken beside those of m? -/
def canL (m : List Nat) (n : Nat) : Bool := decide (n < 18446744073709543423) && !decide (n ∈ m) && (decide (topL m ≤ n) || decide (topL m - n ≤ 1984))

/-- The window holds what the list holds. -/
def Inv (t : Nat) (s : Bool) (R : Nat → Nat) (m : List Nat) : Prop :=
  s = decide (m ≠ []) ∧ t = topL m ∧ ∀ k, k / 64 ≤ t / 64 → t / 64 < k / 64 + 32 → (R (k / 64 % 32)).testBit (k % 64) = decide (k ∈ m)

theorem Inv.nil : Inv 0 false (fun _ => 0) [] := ⟨by simp, rfl, fun k _ _ => by simp⟩

theorem Inv.can {t : Nat} {s : Bool} {R : Nat → Nat} {m : List Nat} (h : Inv t s R m) (n : Nat) : canW t s R n = canL m n := by
  obtain ⟨hs, ht, hb⟩ := h
  unfold canW canL
  by_cases hm : m = []
  · subst hm
    have : s = false := by rw [hs]; simp
    subst this
    simp [topL]
  · have : s = true := by rw [hs]; simp [hm]
    subst this
    rw [← ht]
    by_cases hn : t < n
    · have h2 : n ∉ m := fun h => by have := topL_le m n h; omega
      simp [hn, h2, Nat.le_of_lt hn]
    · by_cases hd : t - n ≤ 1984
      · rw [hb n (Nat.div_le_div_right (by omega)) (by omega)]
        simp [hn, hd]
      · have h3 : ¬ t ≤ n := by omega
        simp [hn, hd, h3]

theorem window_eq {a b T : Nat} (ha : a ≤ T) (hb : b ≤ T) (ha2 : T < a + 32) (hb2 : T < b + 32) (h : a % 32 = b % 32) : a = b := by omega

theorem Inv.take {t : Nat} {s : Bool} {R : Nat → Nat} {m : List Nat} (h : Inv t s R m) (n : Nat) (hc : canW t s R n = true) : Inv (takeT t s R n) (takeS t s R n) (takeR t s R n) (m ++ [n]) := by
  obtain ⟨hs, ht, hb⟩ := h
  have hnear : n ≤ t → t - n ≤ 1984 := by
    intro hn
    unfold canW at hc
    by_cases hm : m = []
    · subst hm
      have : t = 0 := ht
      omega
    · have hst : s = true := by rw [hs]; simp [hm]
      subst hst
      have h2 : ¬ t < n := by omega
      simp only [Bool.not_true, Bool.false_or, decide_eq_false h2, Bool.and_eq_true, decide_eq_true_eq] at hc
      exact hc.2.1
  unfold takeT takeS takeR
  rw [if_pos hc, if_pos hc, hc]
  refine ⟨by simp, by rw [topL_snoc, ht], fun k hk1 hk2 => ?_⟩
  have hR : (risen t R n (k / 64 % 32)).testBit (k % 64) = decide (k ∈ m) := by
    unfold risen
    by_cases hn : t < n
    · rw [if_pos hn]
      rw [show max t n = n by omega] at hk1 hk2
      have hf1 : t / 64 ≤ fromW t n := by unfold fromW; split <;> omega
      have hf2 : fromW t n ≤ n / 64 := by unfold fromW; split <;> omega
      by_cases hkt : t / 64 < k / 64
      · have hf3 : fromW t n + 1 ≤ k / 64 := by unfold fromW; split <;> omega
        rw [clr_hit R _ _ _ ⟨k / 64 - (fromW t n + 1), by omega, by rw [show fromW t n + 1 + (k / 64 - (fromW t n + 1)) = k / 64 by omega]⟩]
        have h2 : k ∉ m := fun h => by
          have := topL_le m k h
          have : k ≤ t := by omega
          have := Nat.div_le_div_right (c := 64) this
          omega
        simp [h2]
      · rw [clr_miss R _ _ _ (fun i hi => by omega)]
        exact hb k (by omega) (by omega)
    · rw [if_neg hn]
      rw [show max t n = t by omega] at hk1 hk2
      exact hb k hk1 hk2
  have hn1 : n / 64 ≤ max t n / 64 := Nat.div_le_div_right (by omega)
  have hn2 : max t n / 64 < n / 64 + 32 := by
    by_cases hn : t < n
    · rw [show max t n = n by omega]; omega
    · have := hnear (by omega)
      rw [show max t n = t by omega]; omega
  unfold setR
  by_cases he : k / 64 % 32 = n / 64 % 32
  · rw [if_pos he, ← he, Nat.testBit_or, hR, Nat.testBit_two_pow]
    have e := window_eq hk1 hn1 hk2 hn2 he
    by_cases hkn : k = n
    · subst hkn; simp
    · have : ¬ n % 64 = k % 64 := by omega
      simp [this, hkn]
  · rw [if_neg he, hR]
    have : k ≠ n := fun h => he (by rw [h])
    simp [this]

theorem Inv.keep {t : Nat} {s : Bool} {R : Nat → Nat} {m : List Nat} (h : Inv t s R m) (n : Nat) (hc : canW t s R n = false) : Inv (takeT t s R n) (takeS t s R n) (takeR t s R n) m := by
  unfold takeT takeS takeR
  rw [hc]
  simpa using h

end Go.Proofs.Ytapncdgeigbgmaa.Rp
