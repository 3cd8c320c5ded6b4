/- The statements of package replay whose list grows: ReplayPlays, ReplayOrder. -/
import Derived.Test.YtmjohplmcnafhaaRpL
set_option linter.unusedSimpArgs false
set_option linter.unusedVariables false
namespace Go.Proofs.Ytmjohplmcnafhaa.Rp
open Go.RowKit Go.ChangeShapes Go.WideShapes Go.Proofs.YtmjohplmcnafhaaW.PrintWords Go.Proofs.Ytmjohplmcnafhaa.Bs

theorem ru_at {k : IntKind} {w : World} {A : Option Addr} {n c : Nat} {l : List Nat} (h : RU k w (.slice A n c) l) (j : Nat) (hj : j < l.length) : ∃ ad, A = some ad ∧ w.cell? (ad.add j) = some (.int k ((l.getD j 0 : Nat) : Int)) := by
  obtain ⟨A', c', e, _, hr⟩ := h
  injection e with e1 e2 e3
  subst e1
  exact u_cell hr j hj

theorem canL_near (from_ : Nat) (m : List Nat) (n : Nat) (hn : from_ ≤ n) (hn2 : n ≤ from_ + 1984) (hlim : from_ ≤ 1000000000) (hm : ∀ x ∈ m, x < from_ + 1985) : canL m n = !decide (n ∈ m) := by
  have ht : topL m < from_ + 1985 := topL_lt hm (by omega)
  unfold canL
  rw [decide_eq_true (show n < 18446744073709543423 by omega)]
  by_cases h : topL m ≤ n
  · simp [h]
  · simp [h, show topL m ≤ 1984 + n by omega]

set_option maxRecDepth 100000 in
set_option maxHeartbeats 4000000 in
theorem replayOrder_walk (v : Value) (l : List Nat) (n : Int) (w : World) (hr : RU .u16 w v l) (hb : ∀ x ∈ l, x < 65536) (h0 : 0 ≤ n) (h1 : n < 18446744073709551616) :
    Calls Try.prog 7 #[.int .u64 n, v] w fun e w' => e = .returned (.bool true) ∧ Below w.heap.size w w' := by
  have hl := hr.len
  have HR := Lib.hid hr
  have HB := Lib.hid (fun j => getD_lt hb (by decide) j)
  obtain ⟨f, rfl⟩ := Int.eq_ofNat_of_zero_le h0
  obtain ⟨A, c, rfl, _, hr⟩ := hr
  clear hr hb h0 h1
  by_cases h : 100 < l.length
  · go_enter Try.func7, Try.ntmps7
    go_wp2_with fail
    refine (alive_any _).mono ?_
    rintro e w' ⟨rfl, hb⟩
    go_wp2_with fail
    go_ret
    exact ⟨rfl, hb⟩
  by_cases h2 : (1000000000 : Int) < f
  · go_enter Try.func7, Try.ntmps7
    go_wp2_with fail
    refine (alive_any _).mono ?_
    rintro e w' ⟨rfl, hb⟩
    go_wp2_with fail
    go_ret
    exact ⟨rfl, hb⟩
  have hf : (f : Int) ≤ 1000000000 := by omega
  go_enter Try.func7, Try.ntmps7
  go_wp2_with fail
  go_loopw [6, 7] (fun v6 v7 wr => ∃ (j : Nat) (A6 : Option Addr) (c6 : Nat) (q : List Nat), j ≤ l.length ∧ v7 = .int .i64 j ∧ v6 = .slice A6 j c6 ∧ Hid (q.length = j) ∧ Hid (Holds wr w.heap.size 0 q) ∧ Hid (OU (w.heap.size + 1) wr (.slice A6 j c6) q) ∧ Hid (∀ x ∈ q, x < f + 1985) ∧ Hid (Below w.heap.size w wr) ∧ Hid (w.heap.size + 1 ≤ wr.heap.size)) (fun _ v7 _ => l.length - (intOf v7).toNat)
  case atStart => exact ⟨0, none, 0, [], Nat.zero_le _, rfl, rfl, Lib.hid rfl, Lib.hid (Win.new w _ _ rfl), Lib.hid (OU.nil _ _), Lib.hid (by simp), Lib.hid (below_alloc (Below.refl _ _) _), Lib.hid (by show _ ≤ (w.heap.push _).size; rw [Array.size_push]; exact Nat.le_refl _)⟩
  case round =>
    obtain ⟨j, A6, c6, q, hj, rfl, rfl, HQ, HW, HO, HLT, HK, HSZ⟩ := hrel
    by_cases hlt : j < l.length
    · obtain ⟨ad, rfl, hc1⟩ := ru_at (HR.out.below HK.out) j hlt
      have hx : ((l.getD j 0 : Nat) : Int) < 65536 := by have := HB.out j; omega
      generalize l.getD j 0 = x at hc1 hx
      obtain ⟨m, hm⟩ : ∃ m : Nat, m = f + x % 1985 := ⟨_, rfl⟩
      have HM : Hid (m < 18446744073709551616) := Lib.hid (by omega)
      have HCAN : Hid (canL q m = !decide (m ∈ q)) := Lib.hid (canL_near f q m (by omega) (by omega) (by omega) HLT.out)
      have HQ64 : Hid (∀ x ∈ q, x < 18446744073709551616) := Lib.hid (fun x hx => by have := HLT.out x hx; omega)
      have HLT2 : Hid (∀ x ∈ q ++ [m], x < f + 1985) := Lib.hid (fun x hx => by
        rcases List.mem_append.1 hx with h | h
        · exact HLT.out x h
        · rw [List.mem_singleton] at h; subst h; omega)
      have hsum : (f : Int) + (x : Int) % 1985 = (m : Int) := by omega
      have HSUM := Lib.hid hsum
      clear hm
      go_wp2_with fail
      refine (take_inv w.heap.size 0 m q _ HW.out HM.out).mono ?_
      rintro e w1 ⟨rfl, hw1, hr1⟩
      have HK1 := Lib.hid (grown_below hr1.1 HK.out HK.out.size (Nat.le_refl _))
      have HO1 := Lib.hid (HO.out.other hr1.1 (Nat.lt_succ_self _))
      have HS1 := Lib.hid (Nat.le_trans HSZ.out hr1.1.size)
      have HW1 : Hid (Holds w1 w.heap.size 0 (q ++ [m])) := Lib.hid (by
        rw [HCAN.out] at hw1
        by_cases hmem : m ∈ q
        · simp only [decide_eq_true hmem, Bool.not_true] at hw1
          exact Holds.dup hw1 m hmem
        · simp only [decide_eq_false hmem, Bool.not_false] at hw1
          exact hw1)
      rw [HCAN.out]
      clear hw1 hr1 hc1
      go_wp2_with fail
      refine (has_any _ q m _ HO1.out.ru HM.out HQ64.out).mono ?_
      rintro e w' ⟨rfl, rfl⟩
      generalize decide (m ∈ q) = d
      have hlen : (q ++ [m]).length = j + 1 := by rw [List.length_append, HQ.out]; rfl
      have HLEN := Lib.hid hlen
      clear hlen
      cases d with
      | true =>
        go_wp2_with (first | ((with_reducible refine is_builtin (b := .append) (xs := #[.tmp 37, .tmp 39]) rfl ?_); refine append_u64 (w0 := w1) (w.heap.size + 1) rfl (.tmp 37) (.tmp 39) rfl (.slice A6 j c6) q m rfl rfl ?aO ?aB ?aS ?aL ?_; (case aO => exact HO1.out); (case aB => exact Below.refl _ _); (case aS => exact HS1.out); (case aL => have := HQ.out; omega); intro v1 w2 ho hb2; obtain ⟨A7, c7, e7, _, _⟩ := ho.ru; rw [HLEN.out] at e7; subst e7; have HO2 := Lib.hid ho; have HW2 := Lib.hid (HW1.out.far hb2 (Nat.lt_succ_self _)); have HK2 := Lib.hid (HK1.out.trans (hb2.mono (Nat.le_succ _))); have HS2 := Lib.hid (Nat.le_trans HS1.out hb2.size); clear ho hb2))
        go_roundw
        case rel => exact ⟨j + 1, A7, c7, q ++ [m], by omega, by go_num, rfl, HLEN, HW2, HO2, HLT2, HK2, HS2⟩
        case measure => (simp [intOf]) <;> omega
      | false =>
        go_wp2_with (first | ((with_reducible refine is_builtin (b := .append) (xs := #[.tmp 37, .tmp 39]) rfl ?_); refine append_u64 (w0 := w1) (w.heap.size + 1) rfl (.tmp 37) (.tmp 39) rfl (.slice A6 j c6) q m rfl rfl ?aO ?aB ?aS ?aL ?_; (case aO => exact HO1.out); (case aB => exact Below.refl _ _); (case aS => exact HS1.out); (case aL => have := HQ.out; omega); intro v1 w2 ho hb2; obtain ⟨A7, c7, e7, _, _⟩ := ho.ru; rw [HLEN.out] at e7; subst e7; have HO2 := Lib.hid ho; have HW2 := Lib.hid (HW1.out.far hb2 (Nat.lt_succ_self _)); have HK2 := Lib.hid (HK1.out.trans (hb2.mono (Nat.le_succ _))); have HS2 := Lib.hid (Nat.le_trans HS1.out hb2.size); clear ho hb2))
        go_roundw
        case rel => exact ⟨j + 1, A7, c7, q ++ [m], by omega, by go_num, rfl, HLEN, HW2, HO2, HLT2, HK2, HS2⟩
        case measure => (simp [intOf]) <;> omega
    · go_wp2_with fail
      refine (alive_any _).mono ?_
      rintro e w' ⟨rfl, hb⟩
      go_wp2_with fail
      go_ret
      exact ⟨rfl, below_comp HK.out hb⟩

set_option maxRecDepth 100000 in
set_option maxHeartbeats 4000000 in
theorem replayPlays_walk (v : Value) (l : List Nat) (n : Int) (w : World) (hr : RU .u64 w v l) (hb : ∀ x ∈ l, x < 18446744073709551616) (h0 : 0 ≤ n) (h1 : n < 18446744073709551616) :
    Calls Try.prog 8 #[v, .int .u64 n] w fun e w' => e = .returned (.bool true) ∧ Below w.heap.size w w' := by
  have hl := hr.len
  have HR := Lib.hid hr
  have HB := Lib.hid (fun j => getD_lt hb (by decide) j)
  obtain ⟨a, rfl⟩ := Int.eq_ofNat_of_zero_le h0
  have HASK : Hid (a < 18446744073709551616) := Lib.hid (by omega)
  obtain ⟨A, c, rfl, _, hr⟩ := hr
  clear hr hb h0 h1
  by_cases h : 100 < l.length
  · go_enter Try.func8, Try.ntmps8
    go_wp2_with fail
    refine (alive_any _).mono ?_
    rintro e w' ⟨rfl, hb⟩
    go_wp2_with fail
    go_ret
    exact ⟨rfl, hb⟩
  go_enter Try.func8, Try.ntmps8
  go_wp2_with fail
  go_loopw [6, 7] (fun v6 v7 wr => ∃ (j k : Nat) (A6 : Option Addr) (c6 : Nat) (q : List Nat), j ≤ l.length ∧ k ≤ j ∧ v7 = .int .i64 j ∧ v6 = .slice A6 k c6 ∧ Hid (q.length = k) ∧ Hid (Holds wr w.heap.size 0 q) ∧ Hid (OU (w.heap.size + 1) wr (.slice A6 k c6) q) ∧ Hid (∀ x ∈ q, x < 18446744073709551616) ∧ Hid (Below w.heap.size w wr) ∧ Hid (w.heap.size + 1 ≤ wr.heap.size)) (fun _ v7 _ => l.length - (intOf v7).toNat)
  case atStart => exact ⟨0, 0, none, 0, [], Nat.zero_le _, Nat.le_refl _, rfl, rfl, Lib.hid rfl, Lib.hid (Win.new w _ _ rfl), Lib.hid (OU.nil _ _), Lib.hid (by simp), Lib.hid (below_alloc (Below.refl _ _) _), Lib.hid (by show _ ≤ (w.heap.push _).size; rw [Array.size_push]; exact Nat.le_refl _)⟩
  case round =>
    obtain ⟨j, k, A6, c6, q, hj, hk, rfl, rfl, HQ, HW, HO, HLT, HK, HSZ⟩ := hrel
    by_cases hlt : j < l.length
    · have HRK := Lib.hid (HR.out.below HK.out)
      obtain ⟨ad, rfl, hc1⟩ := ru_at HRK.out j hlt
      have HX : Hid (l.getD j 0 < 18446744073709551616) := Lib.hid (HB.out j)
      have HC2 : Hid (∀ w1, Below w.heap.size w w1 → w1.cell? (ad.add j) = some (.int .u64 ((l.getD j 0 : Nat) : Int))) := Lib.hid (fun w1 hb => by
        obtain ⟨ad', e, h⟩ := ru_at (HR.out.below hb) j hlt
        injection e with e
        subst e
        exact h)
      generalize l.getD j 0 = x at hc1 HX HC2
      have HLT2 : Hid (∀ y ∈ q ++ [x], y < 18446744073709551616) := Lib.hid (fun y hy => by
        rcases List.mem_append.1 hy with h | h
        · exact HLT.out y h
        · rw [List.mem_singleton] at h; subst h; exact HX.out)
      have hlen : (q ++ [x]).length = k + 1 := by rw [List.length_append, HQ.out]; rfl
      have HLEN := Lib.hid hlen
      clear hlen
      go_wp2_with fail
      refine (refCan_any _ q x _ HO.out.ru HX.out HLT.out).mono ?_
      rintro e w' ⟨rfl, rfl⟩
      go_wp2_with fail
      refine (can_inv w.heap.size 0 x q _ HW.out HX.out).mono ?_
      rintro e w' ⟨rfl, rfl⟩
      have HT := Lib.hid (fun wz hz => take_inv w.heap.size 0 x q wz hz HX.out)
      generalize canL q x = d at HT
      cases d with
      | true =>
        go_wp2_with fail
        refine (HT.out _ HW.out).mono ?_
        rintro e w1 ⟨rfl, hw1, hr1⟩
        have HK1 := Lib.hid (grown_below hr1.1 HK.out HK.out.size (Nat.le_refl _))
        have HO1 := Lib.hid (HO.out.other hr1.1 (Nat.lt_succ_self _))
        have HS1 := Lib.hid (Nat.le_trans HSZ.out hr1.1.size)
        have HW1 : Hid (Holds w1 w.heap.size 0 (q ++ [x])) := Lib.hid hw1
        have hc2 := HC2.out w1 HK1.out
        clear hw1 hr1 hc1
        have HSOME : Hid (decide (q ++ [x] ≠ []) = true) := Lib.hid (by simp)
        go_wp2_with (first | ((with_reducible refine is_builtin (b := .append) (xs := #[.tmp 42, .tmp 47]) rfl ?_); refine append_u64 (w0 := w1) (w.heap.size + 1) rfl (.tmp 42) (.tmp 47) rfl (.slice A6 k c6) q x rfl rfl ?aO ?aB ?aS ?aL ?_; (case aO => exact HO1.out); (case aB => exact Below.refl _ _); (case aS => exact HS1.out); (case aL => have := HQ.out; omega); intro v1 w2 ho hb2; obtain ⟨A7, c7, e7, _, _⟩ := ho.ru; rw [HLEN.out] at e7; subst e7; have HO2 := Lib.hid ho; have HW2 := Lib.hid (HW1.out.far hb2 (Nat.lt_succ_self _)); have HK2 := Lib.hid (HK1.out.trans (hb2.mono (Nat.le_succ _))); have HS2 := Lib.hid (Nat.le_trans HS1.out hb2.size); clear ho hb2))
        refine (top_inv w.heap.size 0 (q ++ [x]) _ HW2.out).mono ?_
        rintro e w' ⟨rfl, rfl⟩
        go_wp2_with fail
        refine (top_any _ (q ++ [x]) _ HO2.out.ru HLT2.out).mono ?_
        rintro e w' ⟨rfl, rfl⟩
        go_wp2_with fail
        refine (some_inv w.heap.size 0 (q ++ [x]) _ HW2.out).mono ?_
        rintro e w' ⟨rfl, rfl⟩
        rw [HSOME.out]
        go_wp2_with fail
        refine (can_inv w.heap.size 0 a (q ++ [x]) _ HW2.out HASK.out).mono ?_
        rintro e w' ⟨rfl, rfl⟩
        go_wp2_with fail
        refine (refCan_any _ (q ++ [x]) a _ HO2.out.ru HASK.out HLT2.out).mono ?_
        rintro e w' ⟨rfl, rfl⟩
        generalize canL (q ++ [x]) a = ca
        go_wp2_with fail
        go_roundw
        case rel => exact ⟨j + 1, k + 1, A7, c7, q ++ [x], by omega, by omega, by go_num, rfl, HLEN, HW2, HO2, HLT2, HK2, HS2⟩
        case measure => (simp [intOf]) <;> omega
      | false =>
        by_cases hk0 : k = 0
        · subst hk0
          go_wp2_with fail
          refine (HT.out _ HW.out).mono ?_
          rintro e w1 ⟨rfl, hw1, hr1⟩
          have HK1 := Lib.hid (grown_below hr1.1 HK.out HK.out.size (Nat.le_refl _))
          have HO1 := Lib.hid (HO.out.other hr1.1 (Nat.lt_succ_self _))
          have HS1 := Lib.hid (Nat.le_trans HSZ.out hr1.1.size)
          have HW1 : Hid (Holds w1 w.heap.size 0 q) := Lib.hid hw1
          clear hw1 hr1 hc1
          have HSOME : Hid (decide (q ≠ []) = false) := Lib.hid (by simp [List.eq_nil_of_length_eq_zero HQ.out])
          go_wp2_with fail
          refine (top_inv w.heap.size 0 q _ HW1.out).mono ?_
          rintro e w' ⟨rfl, rfl⟩
          go_wp2_with fail
          refine (top_any _ q _ HO1.out.ru HLT.out).mono ?_
          rintro e w' ⟨rfl, rfl⟩
          go_wp2_with fail
          refine (some_inv w.heap.size 0 q _ HW1.out).mono ?_
          rintro e w' ⟨rfl, rfl⟩
          rw [HSOME.out]
          go_wp2_with fail
          refine (can_inv w.heap.size 0 a q _ HW1.out HASK.out).mono ?_
          rintro e w' ⟨rfl, rfl⟩
          go_wp2_with fail
          refine (refCan_any _ q a _ HO1.out.ru HASK.out HLT.out).mono ?_
          rintro e w' ⟨rfl, rfl⟩
          generalize canL q a = ca
          go_wp2_with fail
          go_roundw
          case rel => exact ⟨j + 1, 0, A6, c6, q, by omega, by omega, by go_num, rfl, HQ, HW1, HO1, HLT, HK1, HS1⟩
          case measure => (simp [intOf]) <;> omega
        · have hk1 : (0 : Int) < k := by omega
          go_wp2_with fail
          refine (HT.out _ HW.out).mono ?_
          rintro e w1 ⟨rfl, hw1, hr1⟩
          have HK1 := Lib.hid (grown_below hr1.1 HK.out HK.out.size (Nat.le_refl _))
          have HO1 := Lib.hid (HO.out.other hr1.1 (Nat.lt_succ_self _))
          have HS1 := Lib.hid (Nat.le_trans HSZ.out hr1.1.size)
          have HW1 : Hid (Holds w1 w.heap.size 0 q) := Lib.hid hw1
          clear hw1 hr1 hc1
          have HSOME : Hid (decide (q ≠ []) = true) := Lib.hid (by
            have : q ≠ [] := by intro e; have := HQ.out; rw [e] at this; exact hk0 this.symm
            simp [this])
          go_wp2_with fail
          refine (top_inv w.heap.size 0 q _ HW1.out).mono ?_
          rintro e w' ⟨rfl, rfl⟩
          go_wp2_with fail
          refine (top_any _ q _ HO1.out.ru HLT.out).mono ?_
          rintro e w' ⟨rfl, rfl⟩
          go_wp2_with fail
          refine (some_inv w.heap.size 0 q _ HW1.out).mono ?_
          rintro e w' ⟨rfl, rfl⟩
          rw [HSOME.out]
          go_wp2_with fail
          refine (can_inv w.heap.size 0 a q _ HW1.out HASK.out).mono ?_
          rintro e w' ⟨rfl, rfl⟩
          go_wp2_with fail
          refine (refCan_any _ q a _ HO1.out.ru HASK.out HLT.out).mono ?_
          rintro e w' ⟨rfl, rfl⟩
          generalize canL q a = ca
          go_wp2_with fail
          go_roundw
          case rel => exact ⟨j + 1, k, A6, c6, q, by omega, by omega, by go_num, rfl, HQ, HW1, HO1, HLT, HK1, HS1⟩
          case measure => (simp [intOf]) <;> omega
    · go_wp2_with fail
      refine (alive_any _).mono ?_
      rintro e w' ⟨rfl, hb⟩
      go_wp2_with fail
      go_ret
      exact ⟨rfl, below_comp HK.out hb⟩

end Go.Proofs.Ytmjohplmcnafhaa.Rp
