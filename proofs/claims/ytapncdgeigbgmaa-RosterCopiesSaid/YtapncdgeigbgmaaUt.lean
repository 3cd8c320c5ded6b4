/- Chapter 27, RosterCopies: a copy has the same, and goes its own way. -/
import Derived.Test.YtapncdgeigbgmaaUs
set_option linter.unusedSimpArgs false
set_option linter.unusedVariables false
set_option linter.unusedSectionVars false
set_option maxRecDepth 100000
namespace Go.Proofs.Ytapncdgeigbgmaa.Tb
open Go.RowKit Go.Proofs.YtapncdgeigbgmaaW.PrintWords Go.Proofs.Ytapncdgeigbgmaa.Bs Go.Proofs.Ytapncdgeigbgmaa.Gm Go.Proofs.Ytapncdgeigbgmaa.Sf

theorem endR_of {D E : List (Int × Key)} : endR (D ++ E) = E.foldl stepR (endR D) := by unfold endR; rw [List.foldl_append]
theorem OkR.all2 (D E : List (Int × Key)) : ∀ i, i ≤ E.length → OkR ((E.take i).foldl stepR (endR D)) (D.length + i) := fun i hi => by
  have h := OkR.all (D ++ E) (D.length + i) (by rw [List.length_append]; omega)
  rw [List.take_length_add_append, endR_of] at h
  exact h
theorem endE_snoc {D : List (Int × Key)} {q : List (Key × Int) × Int} {i : Nat} {d : Int × Key} (h : D[i]? = some d) : (D.take (i + 1)).foldl stepR q = stepR ((D.take i).foldl stepR q) d := by
  rw [take_snoc h, List.foldl_append]
  rfl
/-- The rows that there are: the first list's, and, where it is another, the second's. -/
def RowsR (A : Option Addr) (n c : Nat) (l : List (Key × Int)) (A2 : Option Addr) (n2 c2 : Nat) (l2 : List (Key × Int)) (R : List Ent) : Prop :=
  (R = [rowE ROne (.slice A n c) l] ∧ A2 = A ∧ n2 = n ∧ c2 = c ∧ l2 = l) ∨ R = [rowE ROne (.slice A2 n2 c2) l2, rowE ROne (.slice A n c) l]
section
variable {w0 w : World} {R : List Ent} {br bm n c n2 c2 m : Nat} {last last2 last3 : Int} {A A2 : Option Addr} {l l2 : List (Key × Int)}
theorem step_rows (d : Int × Key) (e1 e2 e3 e4 e5 : Ent) (HM : HMem w0 w (rosB br bm last2 :: mapE MI bm l2 :: e1 :: e2 :: e3 :: e4 :: e5 :: R)) (HR : RowsR A n c l A2 n2 c2 l2 R) (hn : l2.length = n2) (hq : OkR (l2, last2) m) (hm : m < 1000000) {l3 : List (Key × Int)} {n3 : Nat} (hs : stepR (l2, last2) d = (l3, last3)) (hn3 : l3.length = n3) :
    Calls Try.prog 26 #[.pointer (some ⟨br, 0, none⟩), .agg (RV A2 n2 c2 last2), .agg (deedC d)] w fun e w' => ∃ A3 c3 R3, e = .returned (.tuple #[.agg (RV A3 n3 c3 last3), .bool true]) ∧ RowsR A n c l A3 n3 c3 l3 R3 ∧ HMem w0 w' (rosB br bm last3 :: mapE MI bm l3 :: e1 :: e2 :: e3 :: e4 :: e5 :: R3) := by
  subst hn3
  rcases HR with ⟨rfl, rfl, rfl, rfl, rfl⟩ | rfl
  · refine (step_any d (es := e1 :: e2 :: e3 :: e4 :: e5 :: []) (Lib.hid (HM.out.perm (by ((repeat (first | exact List.Perm.refl _ | (refine List.Perm.trans (Del.perm (by (first | ((repeat (first | with_reducible exact Del.head _ | with_reducible apply Del.tail)); done) | ((repeat (first | exact Del.head _ | apply Del.tail)); done)))) (List.Perm.cons _ ?_)))); done)))) hn hq hm hs).mono ?_
    rintro e w' ⟨A3, c3, rfl, ⟨rfl, rfl, hqq, hM⟩ | hM⟩
    · injection hqq with h1 h2
      subst h1 h2
      subst hn
      exact ⟨_, _, _, rfl, .inl ⟨rfl, rfl, rfl, rfl, rfl⟩, Lib.hid (hM.out.perm (by ((repeat (first | exact List.Perm.refl _ | (refine List.Perm.trans (Del.perm (by (first | ((repeat (first | with_reducible exact Del.head _ | with_reducible apply Del.tail)); done) | ((repeat (first | exact Del.head _ | apply Del.tail)); done)))) (List.Perm.cons _ ?_)))); done)))⟩
    · exact ⟨_, _, _, rfl, .inr rfl, Lib.hid (hM.out.perm (by ((repeat (first | exact List.Perm.refl _ | (refine List.Perm.trans (Del.perm (by (first | ((repeat (first | with_reducible exact Del.head _ | with_reducible apply Del.tail)); done) | ((repeat (first | exact Del.head _ | apply Del.tail)); done)))) (List.Perm.cons _ ?_)))); done)))⟩
  · refine (step_any d (es := e1 :: e2 :: e3 :: e4 :: e5 :: rowE ROne (.slice A n c) l :: []) (Lib.hid (HM.out.perm (by ((repeat (first | exact List.Perm.refl _ | (refine List.Perm.trans (Del.perm (by (first | ((repeat (first | with_reducible exact Del.head _ | with_reducible apply Del.tail)); done) | ((repeat (first | exact Del.head _ | apply Del.tail)); done)))) (List.Perm.cons _ ?_)))); done)))) hn hq hm hs).mono ?_
    rintro e w' ⟨A3, c3, rfl, ⟨rfl, rfl, hqq, hM⟩ | hM⟩
    · injection hqq with h1 h2
      subst h1 h2
      subst hn
      exact ⟨_, _, _, rfl, .inr rfl, Lib.hid (hM.out.perm (by ((repeat (first | exact List.Perm.refl _ | (refine List.Perm.trans (Del.perm (by (first | ((repeat (first | with_reducible exact Del.head _ | with_reducible apply Del.tail)); done) | ((repeat (first | exact Del.head _ | apply Del.tail)); done)))) (List.Perm.cons _ ?_)))); done)))⟩
    · exact ⟨_, _, _, rfl, .inr rfl, Lib.hid ((hM.out.perm (es' := rowE ROne (.slice A2 n2 c2) l2 :: rosB br bm last3 :: mapE MI bm l3 :: e1 :: e2 :: e3 :: e4 :: e5 :: rowE ROne (.slice A3 l3.length c3) l3 :: rowE ROne (.slice A n c) l :: []) (by ((repeat (first | exact List.Perm.refl _ | (refine List.Perm.trans (Del.perm (by (first | ((repeat (first | with_reducible exact Del.head _ | with_reducible apply Del.tail)); done) | ((repeat (first | exact Del.head _ | apply Del.tail)); done)))) (List.Perm.cons _ ?_)))); done))).tail)⟩
theorem alike_rows (e1 e2 e3 e4 : Ent) (HM : HMem w0 w (rosB br bm last2 :: mapE MI bm l2 :: e1 :: e2 :: e3 :: e4 :: R)) (HR : RowsR A n c l A2 n2 c2 l2 R) (hn : l2.length = n2) (hl : n2 ≤ 1000) (hr : Rising l2) :
    Calls Try.prog 27 #[.pointer (some ⟨br, 0, none⟩), .agg (RV A2 n2 c2 last3)] w fun e w' => e = .returned (.bool true) ∧ HMem w0 w' (rosB br bm last2 :: mapE MI bm l2 :: e1 :: e2 :: e3 :: e4 :: R) := by
  have hnd := (HM.out.mapAt (M := MI) (by (first | ((repeat (first | with_reducible exact List.Mem.head _ | with_reducible apply List.Mem.tail)); done) | ((repeat (first | exact List.Mem.head _ | apply List.Mem.tail)); done)))).nodup
  rcases HR with ⟨rfl, rfl, rfl, rfl, rfl⟩ | rfl
  · refine (ralike_any (es := e1 :: e2 :: e3 :: e4 :: []) (Lib.hid (HM.out.perm (by ((repeat (first | exact List.Perm.refl _ | (refine List.Perm.trans (Del.perm (by (first | ((repeat (first | with_reducible exact Del.head _ | with_reducible apply Del.tail)); done) | ((repeat (first | exact Del.head _ | apply Del.tail)); done)))) (List.Perm.cons _ ?_)))); done)))) hn hl hr hnd).mono ?_
    rintro e w' ⟨rfl, hM⟩
    exact ⟨rfl, Lib.hid (hM.out.perm (by ((repeat (first | exact List.Perm.refl _ | (refine List.Perm.trans (Del.perm (by (first | ((repeat (first | with_reducible exact Del.head _ | with_reducible apply Del.tail)); done) | ((repeat (first | exact Del.head _ | apply Del.tail)); done)))) (List.Perm.cons _ ?_)))); done)))⟩
  · refine (ralike_any (es := e1 :: e2 :: e3 :: e4 :: rowE ROne (.slice A n c) l :: []) (Lib.hid (HM.out.perm (by ((repeat (first | exact List.Perm.refl _ | (refine List.Perm.trans (Del.perm (by (first | ((repeat (first | with_reducible exact Del.head _ | with_reducible apply Del.tail)); done) | ((repeat (first | exact Del.head _ | apply Del.tail)); done)))) (List.Perm.cons _ ?_)))); done)))) hn hl hr hnd).mono ?_
    rintro e w' ⟨rfl, hM⟩
    exact ⟨rfl, Lib.hid (hM.out.perm (by ((repeat (first | exact List.Perm.refl _ | (refine List.Perm.trans (Del.perm (by (first | ((repeat (first | with_reducible exact Del.head _ | with_reducible apply Del.tail)); done) | ((repeat (first | exact Del.head _ | apply Del.tail)); done)))) (List.Perm.cons _ ?_)))); done)))⟩
theorem alike_rows2 (e1 e2 e3 e4 : Ent) (HM : HMem w0 w (rosB br bm last :: mapE MI bm l :: e1 :: e2 :: e3 :: e4 :: R)) (HR : RowsR A n c l A2 n2 c2 l2 R) (hn : l.length = n) (hl : n ≤ 1000) (hr : Rising l) :
    Calls Try.prog 27 #[.pointer (some ⟨br, 0, none⟩), .agg (RV A n c last3)] w fun e w' => e = .returned (.bool true) ∧ HMem w0 w' (rosB br bm last :: mapE MI bm l :: e1 :: e2 :: e3 :: e4 :: R) := by
  have hnd := (HM.out.mapAt (M := MI) (by (first | ((repeat (first | with_reducible exact List.Mem.head _ | with_reducible apply List.Mem.tail)); done) | ((repeat (first | exact List.Mem.head _ | apply List.Mem.tail)); done)))).nodup
  rcases HR with ⟨rfl, rfl, rfl, rfl, rfl⟩ | rfl
  · refine (ralike_any (es := e1 :: e2 :: e3 :: e4 :: []) (Lib.hid (HM.out.perm (by ((repeat (first | exact List.Perm.refl _ | (refine List.Perm.trans (Del.perm (by (first | ((repeat (first | with_reducible exact Del.head _ | with_reducible apply Del.tail)); done) | ((repeat (first | exact Del.head _ | apply Del.tail)); done)))) (List.Perm.cons _ ?_)))); done)))) hn hl hr hnd).mono ?_
    rintro e w' ⟨rfl, hM⟩
    exact ⟨rfl, Lib.hid (hM.out.perm (by ((repeat (first | exact List.Perm.refl _ | (refine List.Perm.trans (Del.perm (by (first | ((repeat (first | with_reducible exact Del.head _ | with_reducible apply Del.tail)); done) | ((repeat (first | exact Del.head _ | apply Del.tail)); done)))) (List.Perm.cons _ ?_)))); done)))⟩
  · refine (ralike_any (es := e1 :: e2 :: e3 :: e4 :: rowE ROne (.slice A2 n2 c2) l2 :: []) (Lib.hid (HM.out.perm (by ((repeat (first | exact List.Perm.refl _ | (refine List.Perm.trans (Del.perm (by (first | ((repeat (first | with_reducible exact Del.head _ | with_reducible apply Del.tail)); done) | ((repeat (first | exact Del.head _ | apply Del.tail)); done)))) (List.Perm.cons _ ?_)))); done)))) hn hl hr hnd).mono ?_
    rintro e w' ⟨rfl, hM⟩
    exact ⟨rfl, Lib.hid (hM.out.perm (by ((repeat (first | exact List.Perm.refl _ | (refine List.Perm.trans (Del.perm (by (first | ((repeat (first | with_reducible exact Del.head _ | with_reducible apply Del.tail)); done) | ((repeat (first | exact Del.head _ | apply Del.tail)); done)))) (List.Perm.cons _ ?_)))); done)))⟩
end
set_option maxHeartbeats 8000000 in
theorem rosterCopies_walk (A B : Option Addr) (ca cb : Nat) (D E : List (Int × Key)) (w0 : World) (hD : RW RDeed w0 (.slice A D.length ca) D) (hE : RW RDeed w0 (.slice B E.length cb) E) :
    Calls Try.prog 8 #[.slice A D.length ca, .slice B E.length cb] w0 fun e w' => e = .returned (.bool true) ∧ Below w0.heap.size w0 w' := by
  obtain ⟨N, hN⟩ : ∃ N, D.length = N := ⟨_, rfl⟩
  obtain ⟨M, hM⟩ : ∃ M, E.length = M := ⟨_, rfl⟩
  rw [hN] at hD ⊢
  rw [hM] at hE ⊢
  have HD := Lib.hid hD
  have HDN := Lib.hid hN
  have HE := Lib.hid hE
  have HEN := Lib.hid hM
  have AL1 := Lib.hid zeroRV
  have AL2 := Lib.hid zeroDeed
  by_cases hl : N ≤ 60
  case neg =>
    have h0 : decide ((60 : Int) < (N : Int)) = true := decide_eq_true (by omega)
    clear hD hN hl hE hM
    have HM := Lib.hid (Mem.start w0)
    have HB := HM.out.below
    go_enter Try.func8, Try.ntmps8
    go_wp2_with (first | refine m_rd ?_ | (refine m_wr ?_; clear HM HB; intro w b HM HB; try clear b) | fail)
    refine (alive27 _).mono ?_
    rintro e w ⟨rfl, hb⟩
    replace HM := Lib.hid (HM.out.call hb)
    replace HB := HM.out.below
    clear hb
    go_wp2_with (first | refine m_rd ?_ | (refine m_wr ?_; clear HM HB; intro w b HM HB; try clear b) | fail)
    go_ret
    exact ⟨rfl, HB⟩
  case pos =>
  by_cases hl2 : M ≤ 60
  case neg =>
    have h0 : decide ((60 : Int) < (N : Int)) = false := decide_eq_false (by omega)
    have h1 : decide ((60 : Int) < (M : Int)) = true := decide_eq_true (by omega)
    clear hD hN hl hl2 hE hM
    have HM := Lib.hid (Mem.start w0)
    have HB := HM.out.below
    go_enter Try.func8, Try.ntmps8
    go_wp2_with (first | refine m_rd ?_ | (refine m_wr ?_; clear HM HB; intro w b HM HB; try clear b) | fail)
    refine (alive27 _).mono ?_
    rintro e w ⟨rfl, hb⟩
    replace HM := Lib.hid (HM.out.call hb)
    replace HB := HM.out.below
    clear hb
    go_wp2_with (first | refine m_rd ?_ | (refine m_wr ?_; clear HM HB; intro w b HM HB; try clear b) | fail)
    go_ret
    exact ⟨rfl, HB⟩
  case pos =>
    have h0 : decide ((60 : Int) < (N : Int)) = false := decide_eq_false (by omega)
    have h1 : decide ((60 : Int) < (M : Int)) = false := decide_eq_false (by omega)
    have HN60 := Lib.hid hl
    have HM60 := Lib.hid hl2
    have hmax : N ≤ 9223372036854775807 := by omega
    have hmax2 : M ≤ 9223372036854775807 := by omega
    clear hD hN hl hl2 hE hM
    have HM := Lib.hid (Mem.start w0)
    have HB := HM.out.below
    go_enter Try.func8, Try.ntmps8
    go_wp2_with (first | refine m_rd ?_ | (refine m_wr ?_; clear HM HB; intro w b HM HB; try clear b) | fail)
    refine (new_ros_in HM).mono ?_
    rintro e w ⟨br, bm, rfl, HM'⟩
    replace HM := HM'
    replace HB := HM.out.below
    clear HM' h0 h1
    go_wp2_with (first | (refine m_wr ?_ HM (Wr.alloc rfl AL1.out.1 AL1.out.2) (wanted_none rfl); clear HM HB; intro w b6 HM HB) | refine m_rd ?_ | (refine m_wr ?_; clear HM HB; intro w b HM HB; try clear b) | fail)
    replace HM : HMem w0 w (rosB br bm 0 :: mapE MI bm [] :: rowE ROne (.slice none 0 0) [] :: Ent.blk b6 (RV none 0 0 0) 65 :: []) := Lib.hid ((HM.out.nilR ROne).perm (by ((repeat (first | exact List.Perm.refl _ | (refine List.Perm.trans (Del.perm (by (first | ((repeat (first | with_reducible exact Del.head _ | with_reducible apply Del.tail)); done) | ((repeat (first | exact Del.head _ | apply Del.tail)); done)))) (List.Perm.cons _ ?_)))); done)))
    go_loopw [27] (fun v27 wr => ∃ i n l last A' c', i ≤ N ∧ v27 = .int .i64 (i : Nat) ∧ Hid (endR (D.take i) = (l, last)) ∧ Hid (l.length = n) ∧ HMem w0 wr (rosB br bm last :: mapE MI bm l :: rowE ROne (.slice A' n c') l :: Ent.blk b6 (RV A' n c' last) 65 :: [])) (fun v27 _ => N - (intOf v27).toNat)
    case atStart => exact ⟨0, 0, [], 0, none, 0, Nat.zero_le _, rfl, Lib.hid rfl, Lib.hid rfl, HM⟩
    case round =>
      clear HM HB
      obtain ⟨i, n, l, last, A', c', hi, rfl, HQ, HN, HM⟩ := hrel
      have HB := HM.out.below
      have HOK : Hid (OkR (l, last) i) := Lib.hid (by rw [← HQ.out]; exact OkR.all D i (by rw [HDN.out]; exact hi))
      by_cases hlt : i < N
      · obtain ⟨d, hd⟩ : ∃ d, D[i]? = some d := ⟨D[i]'(by rw [HDN.out]; exact hlt), by simp [HDN.out, hlt]⟩
        obtain ⟨ad, rfl, hrd⟩ := deed_at HD.out hd
        have HRD := Lib.hid hrd
        have HCD := Lib.hid (cellsDeed d)
        have HCR := Lib.hid (cellsRV A' n c' last)
        obtain ⟨⟨l2, last2⟩, hs⟩ : ∃ q, stepR (l, last) d = q := ⟨_, rfl⟩
        have HS := Lib.hid hs
        have HQ2 : Hid (endR (D.take (i + 1)) = (l2, last2)) := Lib.hid (by rw [endR_snoc hd, HQ.out, hs])
        clear hd hrd HD hs HE
        go_wp2_with (first | (refine m_rd ?_ HM (Rd.elem rfl (by kernel_rfl) rfl (fun w hm => HRD.out w hm.below) (by rw [deedC_size]; exact info_deed)) (wanted_none rfl)) | (refine m_wr ?_ HM (Wr.alloc rfl AL2.out.1 AL2.out.2) (wanted_none rfl); clear HM HB; intro w b8 HM HB) | refine m_rd ?_ | (refine m_wr ?_; clear HM HB; intro w b HM HB; try clear b) | fail)
        replace HM : HMem w0 w (rosB br bm last :: mapE MI bm l :: rowE ROne (.slice A' n c') l :: Ent.blk b8 (deedC d) 67 :: Ent.blk b6 (RV A' n c' last) 65 :: []) := Lib.hid (HM.out.perm (by ((repeat (first | exact List.Perm.refl _ | (refine List.Perm.trans (Del.perm (by (first | ((repeat (first | with_reducible exact Del.head _ | with_reducible apply Del.tail)); done) | ((repeat (first | exact Del.head _ | apply Del.tail)); done)))) (List.Perm.cons _ ?_)))); done)))
        refine (step_any d HM HN.out HOK.out (by have := HN60.out; omega) HS.out).mono ?_
        rintro e w ⟨A2, c2, rfl, hcase⟩
        obtain ⟨n2, hn2⟩ : ∃ n2, l2.length = n2 := ⟨_, rfl⟩
        have HN2 := Lib.hid hn2
        have HM2 : Hid (Mem w0 w (rosB br bm last2 :: mapE MI bm l2 :: rowE ROne (.slice A2 n2 c2) l2 :: Ent.blk b8 (deedC d) 67 :: Ent.blk b6 (RV A' n c' last) 65 :: [])) := by
          rcases hcase with ⟨rfl, rfl, hq, hM⟩ | hM
          · injection hq with h1 h2
            subst h1 h2
            obtain rfl : n2 = n := hn2.symm.trans HN.out
            exact hM
          · simp only at hM
            rw [hn2] at hM
            exact Lib.hid ((hM.out.perm (es' := rowE ROne (.slice A' n c') l :: rosB br bm last2 :: mapE MI bm l2 :: rowE ROne (.slice A2 n2 c2) l2 :: Ent.blk b8 (deedC d) 67 :: Ent.blk b6 (RV A' n c' last) 65 :: []) (by ((repeat (first | exact List.Perm.refl _ | (refine List.Perm.trans (Del.perm (by (first | ((repeat (first | with_reducible exact Del.head _ | with_reducible apply Del.tail)); done) | ((repeat (first | exact Del.head _ | apply Del.tail)); done)))) (List.Perm.cons _ ?_)))); done))).tail)
        simp only
        rw [hn2]
        clear hcase hn2 HM HB HS HOK HQ HN HCD HCR HRD
        have HM := HM2
        have HB := HM.out.below
        clear HM2
        have HCR := Lib.hid (cellsRV A2 n2 c2 last2)
        go_wp2_with (first | refine m_rd ?_ | (refine m_wr ?_; clear HM HB; intro w b HM HB; try clear b) | fail)
        go_roundw
        case rel => exact ⟨i + 1, n2, l2, last2, A2, c2, by omega, by go_num, HQ2, HN2, Lib.hid ((HM.out.perm (es' := Ent.blk b8 (deedC d) 67 :: rosB br bm last2 :: mapE MI bm l2 :: rowE ROne (.slice A2 n2 c2) l2 :: Ent.blk b6 (RV A2 n2 c2 last2) 65 :: []) (by ((repeat (first | exact List.Perm.refl _ | (refine List.Perm.trans (Del.perm (by (first | ((repeat (first | with_reducible exact Del.head _ | with_reducible apply Del.tail)); done) | ((repeat (first | exact Del.head _ | apply Del.tail)); done)))) (List.Perm.cons _ ?_)))); done))).tail)⟩
        case measure => (simp [intOf]) <;> omega
      · obtain rfl : i = N := by omega
        have HQ' : Hid (endR D = (l, last)) := Lib.hid (by rw [← HQ.out, List.take_of_length_le (by rw [HDN.out]; exact Nat.le_refl _)])
        have HLR := Lib.hid (show l.length ≤ 16 from HOK.out.room)
        have HCR := Lib.hid (cellsRV A' n c' last)
        have hnd := (HM.out.mapAt (M := MI) (by (first | ((repeat (first | with_reducible exact List.Mem.head _ | with_reducible apply List.Mem.tail)); done) | ((repeat (first | exact List.Mem.head _ | apply List.Mem.tail)); done)))).nodup
        have HND := Lib.hid hnd
        have HRS : Hid (Rising l) := Lib.hid HOK.out.rise
        have HN1000 : Hid (n ≤ 1000) := Lib.hid (by have := HLR.out; have := HN.out; omega)
        clear hnd HQ hlt hmax hi HD HOK
        go_wp2_with (first | refine m_rd ?_ | (refine m_wr ?_; clear HM HB; intro w b HM HB; try clear b) | fail)
        refine (rcopy_any HM).mono ?_
        rintro e w ⟨cr, cm, rfl, HM'⟩
        replace HM := HM'
        replace HB := HM.out.below
        clear HM'
        go_wp2_with (first | refine m_rd ?_ | (refine m_wr ?_; clear HM HB; intro w b HM HB; try clear b) | fail)
        replace HM : HMem w0 w (rosB cr cm last :: mapE MI cm l :: rowE ROne (.slice A' n c') l :: rosB br bm last :: mapE MI bm l :: Ent.blk b6 (RV A' n c' last) 65 :: []) := Lib.hid (HM.out.perm (by ((repeat (first | exact List.Perm.refl _ | (refine List.Perm.trans (Del.perm (by (first | ((repeat (first | with_reducible exact Del.head _ | with_reducible apply Del.tail)); done) | ((repeat (first | exact Del.head _ | apply Del.tail)); done)))) (List.Perm.cons _ ?_)))); done)))
        refine (ralike_any HM HN.out HN1000.out HRS.out HND.out).mono ?_
        rintro e w ⟨rfl, HM'⟩
        replace HM := HM'
        replace HB := HM.out.below
        clear HM'
        go_wp2_with (first | (refine m_wr ?_ HM (Wr.alloc rfl AL1.out.1 AL1.out.2) (wanted_none rfl); clear HM HB; intro w b10 HM HB) | refine m_rd ?_ | (refine m_wr ?_; clear HM HB; intro w b HM HB; try clear b) | fail)
        replace HM : HMem w0 w (rosB cr cm last :: mapE MI cm l :: rosB br bm last :: mapE MI bm l :: Ent.blk b6 (RV A' n c' last) 65 :: Ent.blk b10 (RV A' n c' last) 65 :: rowE ROne (.slice A' n c') l :: []) := Lib.hid (HM.out.perm (by ((repeat (first | exact List.Perm.refl _ | (refine List.Perm.trans (Del.perm (by (first | ((repeat (first | with_reducible exact Del.head _ | with_reducible apply Del.tail)); done) | ((repeat (first | exact Del.head _ | apply Del.tail)); done)))) (List.Perm.cons _ ?_)))); done)))
        go_loopw [48] (fun v48 wr => ∃ i n2 l2 last2 A2 c2 R, i ≤ M ∧ v48 = .int .i64 (i : Nat) ∧ Hid ((E.take i).foldl stepR (endR D) = (l2, last2)) ∧ Hid (l2.length = n2) ∧ Hid (RowsR A' n c' l A2 n2 c2 l2 R) ∧ HMem w0 wr (rosB cr cm last2 :: mapE MI cm l2 :: rosB br bm last :: mapE MI bm l :: Ent.blk b6 (RV A' n c' last) 65 :: Ent.blk b10 (RV A2 n2 c2 last2) 65 :: R)) (fun v48 _ => M - (intOf v48).toNat)
        case atStart => exact ⟨0, n, l, last, A', c', _, Nat.zero_le _, rfl, Lib.hid HQ'.out, HN, Lib.hid (.inl ⟨rfl, rfl, rfl, rfl, rfl⟩), HM⟩
        case round =>
          clear HM HB
          obtain ⟨i, n2, l2, last2, A2, c2, R, hi, rfl, HQ, HN2, HROW, HM⟩ := hrel
          have HB := HM.out.below
          have HOK : Hid (OkR (l2, last2) 120) := Lib.hid (by
            rw [← HQ.out]
            have := OkR.all2 D E i (by rw [HEN.out]; exact hi)
            exact ⟨this.rise, this.last, this.pos, by have := this.le; have := HN60.out; have := HM60.out; have := HDN.out; have := HEN.out; omega, this.room⟩)
          by_cases hlt : i < M
          · obtain ⟨d, hd⟩ : ∃ d, E[i]? = some d := ⟨E[i]'(by rw [HEN.out]; exact hlt), by simp [HEN.out, hlt]⟩
            obtain ⟨ad, rfl, hrd⟩ := deed_at HE.out hd
            have HRD := Lib.hid hrd
            have HCD := Lib.hid (cellsDeed d)
            have HCR2 := Lib.hid (cellsRV A2 n2 c2 last2)
            obtain ⟨⟨l3, last3⟩, hs⟩ : ∃ q, stepR (l2, last2) d = q := ⟨_, rfl⟩
            have HS := Lib.hid hs
            have HQ2 : Hid ((E.take (i + 1)).foldl stepR (endR D) = (l3, last3)) := Lib.hid (by rw [endE_snoc hd, HQ.out, hs])
            obtain ⟨n3, hn3⟩ : ∃ n3, l3.length = n3 := ⟨_, rfl⟩
            have HN3 := Lib.hid hn3
            clear hd hrd HE hs hn3 HQ HQ'
            go_wp2_with (first | (refine m_rd ?_ HM (Rd.elem rfl (by kernel_rfl) rfl (fun w hm => HRD.out w hm.below) (by rw [deedC_size]; exact info_deed)) (wanted_none rfl)) | (refine m_wr ?_ HM (Wr.alloc rfl AL2.out.1 AL2.out.2) (wanted_none rfl); clear HM HB; intro w b12 HM HB) | refine m_rd ?_ | (refine m_wr ?_; clear HM HB; intro w b HM HB; try clear b) | fail)
            replace HM : HMem w0 w (rosB cr cm last2 :: mapE MI cm l2 :: rosB br bm last :: mapE MI bm l :: Ent.blk b12 (deedC d) 67 :: Ent.blk b6 (RV A' n c' last) 65 :: Ent.blk b10 (RV A2 n2 c2 last2) 65 :: R) := Lib.hid (HM.out.perm (by ((repeat (first | exact List.Perm.refl _ | (refine List.Perm.trans (Del.perm (by (first | ((repeat (first | with_reducible exact Del.head _ | with_reducible apply Del.tail)); done) | ((repeat (first | exact Del.head _ | apply Del.tail)); done)))) (List.Perm.cons _ ?_)))); done)))
            refine (step_rows d _ _ _ _ _ HM HROW.out HN2.out HOK.out (by decide) HS.out HN3.out).mono ?_
            clear HM HB HROW HN2 HOK HS
            rintro e w ⟨A3, c3, R3, rfl, hrow, HM⟩
            have HROW := Lib.hid hrow
            have HB := HM.out.below
            have HCR3 := Lib.hid (cellsRV A3 n3 c3 last3)
            clear hrow
            go_wp2_with (first | (refine m_wr ?_ HM (Wr.alloc rfl AL1.out.1 AL1.out.2) (wanted_none rfl); clear HM HB; intro w b13 HM HB) | refine m_rd ?_ | (refine m_wr ?_; clear HM HB; intro w b HM HB; try clear b) | fail)
            go_roundw
            case rel => exact ⟨i + 1, n3, l3, last3, A3, c3, R3, by omega, by go_num, HQ2, HN3, HROW, Lib.hid ((HM.out.perm (es' := Ent.blk b13 (RV A3 n3 c3 last3) 65 :: Ent.blk b12 (deedC d) 67 :: rosB cr cm last3 :: mapE MI cm l3 :: rosB br bm last :: mapE MI bm l :: Ent.blk b6 (RV A' n c' last) 65 :: Ent.blk b10 (RV A3 n3 c3 last3) 65 :: R3) (by ((repeat (first | exact List.Perm.refl _ | (refine List.Perm.trans (Del.perm (by (first | ((repeat (first | with_reducible exact Del.head _ | with_reducible apply Del.tail)); done) | ((repeat (first | exact Del.head _ | apply Del.tail)); done)))) (List.Perm.cons _ ?_)))); done))).tail.tail)⟩
            case measure => (simp [intOf]) <;> omega
          · obtain rfl : i = M := by omega
            have HRS2 : Hid (Rising l2) := Lib.hid HOK.out.rise
            have HN21000 : Hid (n2 ≤ 1000) := Lib.hid (by have : l2.length ≤ 16 := HOK.out.room; have := HN2.out; omega)
            have HCR2 := Lib.hid (cellsRV A2 n2 c2 last2)
            clear HOK HQ HQ' hlt hmax2 hi HE
            go_wp2_with (first | refine m_rd ?_ | (refine m_wr ?_; clear HM HB; intro w b HM HB; try clear b) | fail)
            refine (alike_rows _ _ _ _ HM HROW.out HN2.out HN21000.out HRS2.out).mono ?_
            rintro e w ⟨rfl, HM'⟩
            replace HM : HMem w0 w (rosB br bm last :: mapE MI bm l :: rosB cr cm last2 :: mapE MI cm l2 :: Ent.blk b6 (RV A' n c' last) 65 :: Ent.blk b10 (RV A2 n2 c2 last2) 65 :: R) := Lib.hid (HM'.out.perm (by ((repeat (first | exact List.Perm.refl _ | (refine List.Perm.trans (Del.perm (by (first | ((repeat (first | with_reducible exact Del.head _ | with_reducible apply Del.tail)); done) | ((repeat (first | exact Del.head _ | apply Del.tail)); done)))) (List.Perm.cons _ ?_)))); done)))
            replace HB := HM.out.below
            clear HM'
            go_wp2_with (first | refine m_rd ?_ | (refine m_wr ?_; clear HM HB; intro w b HM HB; try clear b) | fail)
            refine (alike_rows2 _ _ _ _ HM HROW.out HN.out HN1000.out HRS.out).mono ?_
            rintro e w ⟨rfl, HM'⟩
            replace HM := HM'
            replace HB := HM.out.below
            clear HM'
            go_wp2_with (first | refine m_rd ?_ | (refine m_wr ?_; clear HM HB; intro w b HM HB; try clear b) | fail)
            refine (alive27 _).mono ?_
            rintro e w ⟨rfl, hb⟩
            replace HM := Lib.hid (HM.out.call hb)
            replace HB := HM.out.below
            clear hb
            go_wp2_with (first | refine m_rd ?_ | (refine m_wr ?_; clear HM HB; intro w b HM HB; try clear b) | fail)
            go_ret
            exact ⟨rfl, HB⟩
end Go.Proofs.Ytapncdgeigbgmaa.Tb
