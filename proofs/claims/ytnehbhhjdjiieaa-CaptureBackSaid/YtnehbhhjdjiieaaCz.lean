/- Package capture's statements: the records of any bytes. -/
import Derived.Test.YtnehbhhjdjiieaaCy
set_option linter.unusedSimpArgs false
set_option linter.unusedVariables false
set_option maxRecDepth 100000
namespace Go.Proofs.Ytnehbhhjdjiieaa.Cp
open Go.RowKit Go.Proofs.YtnehbhhjdjiieaaW.PrintWords Go.Proofs.Ytnehbhhjdjiieaa.Bs Go.Proofs.Ytnehbhhjdjiieaa.Gm Go.Proofs.Ytnehbhhjdjiieaa.Le Go.Proofs.Ytnehbhhjdjiieaa.En

theorem parse_len (big : Bool) : ∀ (n : Nat) (b : List UInt8), b.length ≤ n → (parseB big b).2.length * 16 ≤ b.length
  | n, [], _ => by rw [parseB_nil]; simp
  | 0, x :: b, h => absurd h (by simp)
  | n + 1, x :: b, h => by
    have hne : (x :: b).length ≠ 0 := by simp
    by_cases hb : badN big (x :: b) = 0
    · rw [parseB_good hne hb]
      simp only []
      have ih := parse_len big n ((x :: b).drop (16 + sizeN big (x :: b))) (by rw [List.length_drop]; omega)
      obtain ⟨h1, h2, h3, _⟩ := badN_zero hb
      rw [List.length_drop] at ih
      split
      · rw [List.length_cons]; omega
      · simp
    · rw [parseB_bad hne hb]; simp
theorem file_len (b : List UInt8) : (fileB b).2.length * 16 ≤ b.length := by
  have k : ∀ big, (parseB big (b.drop 24)).2.length * 16 ≤ b.length := fun big => by
    have := parse_len big _ (b.drop 24) (Nat.le_refl _)
    rw [List.length_drop] at this; omega
  have z : ([] : List Rec).length * 16 ≤ b.length := by simp
  unfold fileB
  by_cases h : b.length < 24
  · rw [if_pos h]; exact z
  · rw [if_neg h]
    by_cases h1 : b.take 4 = num true 4 2712847316
    · rw [if_pos h1]
      by_cases h2 : b.take 24 = headB true
      · rw [if_pos h2]; exact k true
      · rw [if_neg h2]; exact z
    · rw [if_neg h1]
      by_cases h2 : b.take 4 = num false 4 2712847316
      · rw [if_pos h2]
        by_cases h3 : b.take 24 = headB false
        · rw [if_pos h3]; exact k false
        · rw [if_neg h3]; exact z
      · rw [if_neg h2]; exact z
theorem file_zero (b : List UInt8) (h : (fileB b).1 = 0) : 24 ≤ b.length := by
  unfold fileB at h
  split at h
  · cases h
  · omega
theorem all_right {l : List RV} {m : List Rec} (he : l.map (·.r) = m) (h : ∀ r ∈ m, r.fits ∧ rightR r = true) : ∀ p ∈ l, p.r.fits ∧ rightR p.r = true := fun p hp => h p.r (by rw [← he]; exact List.mem_map.2 ⟨p, hp, rfl⟩)
theorem allRight_of {l : List RV} (h : ∀ p ∈ l, p.r.fits ∧ rightR p.r = true) : allRight l = true := by
  unfold allRight
  rw [List.all_eq_true]
  exact fun p hp => (h p hp).2
set_option maxHeartbeats 4000000 in
theorem captureReads_walk (A : Option Addr) (k : Nat) (b : List UInt8) (w0 : World) (hr : RB w0 (.slice A b.length k) b) :
    Calls Try.prog 14 #[.slice A b.length k] w0 fun e w' => e = .returned (.bool true) ∧ Below w0.heap.size w0 w' := by
  have HAL : Hid (∀ w, Calls Try.prog 41 #[] w fun e w' => e = .returned (.bool true) ∧ Below w.heap.size w w') := Lib.hid (fun w => alive55_any w)
  have HR := Lib.hid hr
  have HFL := Lib.hid (file_len b)
  by_cases hl : 3000 < b.length
  · have hl1 : decide ((3000 : Int) < (b.length : Int)) = true := decide_eq_true (by omega)
    clear hr hl
    have HM := Lib.hid (Mem.start w0)
    have HB := HM.out.below
    go_enter Try.func14, Try.ntmps14
    go_wp2_with fail
    refine (HAL.out _).mono ?_
    rintro e w ⟨rfl, hb⟩
    replace HM := Lib.hid (HM.out.call hb)
    replace HB := HM.out.below
    clear hb
    go_wp2_with fail
    go_ret
    exact ⟨rfl, HB⟩
  · have hl1 : decide ((3000 : Int) < (b.length : Int)) = false := decide_eq_false (by omega)
    have hl2 : b.length ≤ 3000 := by omega
    have HLE := Lib.hid hl2
    clear hr hl
    have HM := Lib.hid (Mem.start w0)
    have HB := HM.out.below
    go_enter Try.func14, Try.ntmps14
    go_wp2_with fail
    refine (parse_any w0 HR.out (by have := HLE.out; omega)).mono ?_
    rintro e w ⟨l1, A1, c1, rfl, he1, hw1, hd1, hb1⟩
    replace HB := below_comp HB hb1
    have HE1 := Lib.hid he1
    have HW1 := Lib.hid hw1
    have HD1 := Lib.hid hd1
    clear he1 hw1 hd1 hb1 HM
    go_wp2_with fail
    refine (refParse_any w (HR.out.below HB) (by have := HLE.out; omega)).mono ?_
    rintro e w2 ⟨l2, A2, c2, rfl, he2, hw2, hd2, hb2⟩
    replace HB := below_comp HB hb2
    have HE2 := Lib.hid he2
    have HW2 := Lib.hid hw2
    have HD2 := Lib.hid hd2
    replace HW1 := Lib.hid (HW1.out.below hb2)
    replace HD1 := Lib.hid (fun p hp => (HD1.out p hp).below hb2)
    have HLL : Hid (l1.length * 16 ≤ b.length) := Lib.hid (by
      have := HFL.out
      rw [← HE1.out, List.length_map] at this
      exact this)
    clear he2 hw2 hd2 hb2
    go_wp2_with fail
    refine (alike_any A1 A2 c1 c2 l1 l2 w2 HW1.out HW2.out (HE1.out.trans HE2.out.symm) HD1.out HD2.out (by have := HLL.out; have := HLE.out; omega)).mono ?_
    rintro e w3 ⟨rfl, hb3⟩
    replace HB := below_comp HB hb3
    replace HW1 := Lib.hid (HW1.out.below hb3)
    replace HD1 := Lib.hid (fun p hp => (HD1.out p hp).below hb3)
    clear hb3 HW2 HD2 HE2
    by_cases hz : (fileB b).1 = 0
    · have HZ := Lib.hid hz
      have h24 := file_zero b hz
      rw [hz]
      obtain ⟨ad, rfl, hcell⟩ := rb_first HR.out (by omega)
      have HCL : Hid (∀ W, Below w0.heap.size w0 W → W.cell? ad = some (B (b.getD 0 0))) := Lib.hid (fun W hb => pw_cell_below hb hcell)
      have hc3 := HCL.out w3 HB
      have hp : 0 < b.length := by omega
      by_cases h0 : b.getD 0 0 = 212
      · rw [h0, show B 212 = Value.int .u8 212 from rfl] at hc3
        have HFB := Lib.hid (file_bytes b hz h0)
        have HAR := Lib.hid (all_right HE1.out HFB.out.2)
        clear hz h24 hcell h0
        go_wp2_with fail
        refine (bytes_any A1 c1 l1 w3 HW1.out (fun p hp => ⟨(HAR.out p hp).1, by have := right_le (HAR.out p hp).2; omega, HD1.out p hp⟩) (by have := HLL.out; have := HLE.out; omega)).mono ?_
        rintro e w4 hh
        unfold Out at hh
        rw [if_pos (allRight_of HAR.out), HE1.out, HFB.out.1] at hh
        obtain ⟨⟨v, rfl, ho⟩, hb4⟩ := hh
        replace HB := below_comp HB hb4
        have HRB := Lib.hid ho.rb
        clear hc3 ho hb4
        go_wp2_with fail
        refine (same_any v _ b b w4 HRB.out (HR.out.below HB)).mono ?_
        rintro e w5 ⟨rfl, hb5⟩
        rw [decide_eq_true rfl]
        replace HB := below_comp HB hb5
        clear hb5
        go_wp2_with fail
        refine (HAL.out _).mono ?_
        rintro e w6 ⟨rfl, hb6⟩
        replace HB := below_comp HB hb6
        clear hb6
        go_wp2_with fail
        go_ret
        exact ⟨rfl, HB⟩
      · have hne : (((b.getD 0 0).toNat : Int) == 212) = false := by
          rw [beq_eq_false_iff_ne]
          intro e
          exact h0 (UInt8.toNat_inj.1 (by have : (b.getD 0 0).toNat = 212 := by omega
                                          exact this))
        have hne2 : (((b.getD 0 0).toNat : Int) != 212) = true := by rw [bne, hne]; rfl
        unfold B at hc3
        generalize ((b.getD 0 0).toNat : Int) = x0 at hc3 hne hne2
        clear hz h24 hcell h0 HCL
        go_wp2_with fail
        refine (HAL.out _).mono ?_
        rintro e w6 ⟨rfl, hb6⟩
        replace HB := below_comp HB hb6
        clear hb6
        go_wp2_with fail
        go_ret
        exact ⟨rfl, HB⟩
    · have hne : ((((fileB b).1 : Nat) : Int) == 0) = false := by rw [beq_eq_false_iff_ne]; omega
      have hne2 : ((((fileB b).1 : Nat) : Int) != 0) = true := by rw [bne, hne]; rfl
      clear hz
      generalize (((fileB b).1 : Nat) : Int) = x0 at hne hne2 ⊢
      go_wp2_with fail
      refine (HAL.out _).mono ?_
      rintro e w6 ⟨rfl, hb6⟩
      replace HB := below_comp HB hb6
      clear hb6
      go_wp2_with fail
      go_ret
      exact ⟨rfl, HB⟩
end Go.Proofs.Ytnehbhhjdjiieaa.Cp
