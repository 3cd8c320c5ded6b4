/- Chapter 27, RosterPlays: whoever comes and goes. -/
import Derived.Test.YtapncdgeigbgmaaUq
set_option linter.unusedSimpArgs false
set_option linter.unusedVariables false
set_option linter.unusedSectionVars false
set_option maxRecDepth 100000
namespace Go.Proofs.Ytapncdgeigbgmaa.Tb
open Go.RowKit Go.Proofs.YtapncdgeigbgmaaW.PrintWords Go.Proofs.Ytapncdgeigbgmaa.Bs Go.Proofs.Ytapncdgeigbgmaa.Gm Go.Proofs.Ytapncdgeigbgmaa.Sf

theorem id_any {w0 w : World} {es : List Ent} {br bm : Nat} {last : Int} {l : List (Key × Int)} (k : Key) (HM : HMem w0 w (rosB br bm last :: mapE MI bm l :: es)) :
    Calls Try.prog 28 #[.pointer (some ⟨br, 0, none⟩), .agg (keyC k)] w fun e w' => ∃ v, e = .returned (.tuple #[.int .i64 v, .bool (inL l k)]) ∧ (inL l k = false → v = 0) ∧ HMem w0 w' (rosB br bm last :: mapE MI bm l :: es) := by
  cases hg : getK l k with
  | some v =>
    have hi : inL l k = true := by unfold inL; rw [hg]; rfl
    rw [hi]
    refine (id_some k HM hg).mono ?_
    rintro e w' ⟨rfl, hM⟩
    exact ⟨v, rfl, fun h => by (cases h), hM⟩
  | none =>
    rw [get_none_in hg]
    refine (id_none k HM hg).mono ?_
    rintro e w' ⟨rfl, hM⟩
    exact ⟨0, rfl, fun _ => rfl, hM⟩
theorem new_ros_in {w0 w : World} {es : List Ent} (HM : HMem w0 w es) : Calls Try.prog 25 #[] w fun e w' => ∃ br bm, e = .returned (.pointer (some ⟨br, 0, none⟩)) ∧ HMem w0 w' (rosB br bm 0 :: mapE MI bm [] :: es) := by
  have HB := HM.out.below
  go_enter Try.func25, Try.ntmps25
  go_wp2_with (first | (refine m_wr ?_ HM (Wr.mnew LI rfl) (wanted_none rfl); clear HM HB; intro w bm HM HB) | (refine m_rd ?_ HM (Rd.build rfl (built_ros bm) rfl) (wanted_none rfl)) | (refine m_wr ?_ HM (Wr.box rfl rfl (cells_ros bm 0)) (wanted_none rfl); clear HM HB; intro w br HM HB))
  go_ret
  exact ⟨br, bm, rfl, HM⟩
/-- Is a number among the first so many? -/
def anyB (l : List (Key × Int)) (i : Nat) (id : Int) : Bool := (l.take i).any fun p => p.2 == id
theorem anyB_snoc {l : List (Key × Int)} {i : Nat} {p : Key × Int} {id : Int} (h : l[i]? = some p) : anyB l (i + 1) id = (anyB l i id || p.2 == id) := by
  unfold anyB
  rw [take_snoc h, List.any_append]
  simp
theorem anyB_all {l : List (Key × Int)} {n : Nat} {id : Int} (h : l.length = n) : anyB l n id = (keyOfId l id).isSome := by
  unfold anyB keyOfId
  rw [List.take_of_length_le (by omega), Option.isSome_map, List.isSome_find?]
set_option maxHeartbeats 8000000 in
theorem rosterPlays_walk (A : Option Addr) (cc : Nat) (D : List (Int × Key)) (k : Key) (id : Int) (w0 : World) (hD : RW RDeed w0 (.slice A D.length cc) D) :
    Calls Try.prog 7 #[.slice A D.length cc, .agg (keyC k), .int .i64 id] w0 fun e w' => e = .returned (.bool true) ∧ Below w0.heap.size w0 w' := by
  obtain ⟨N, hN⟩ : ∃ N, D.length = N := ⟨_, rfl⟩
  rw [hN] at hD ⊢
  have HD := Lib.hid hD
  have HDN := Lib.hid hN
  have HCK := Lib.hid (cellsKV k)
  have AL1 := Lib.hid zeroRV
  have AL2 := Lib.hid zeroDeed
  have AL3 := Lib.hid zeroKey
  have BH1 := Lib.hid build_zero
  have EQ1 := Lib.hid eql_zero
  by_cases hl : N ≤ 60
  case neg =>
    have h0 : decide ((60 : Int) < (N : Int)) = true := decide_eq_true (by omega)
    clear hD hN hl
    have HM := Lib.hid (Mem.start w0)
    have HB := HM.out.below
    go_enter Try.func7, Try.ntmps7
    go_wp2_with (first | refine m_rd ?_ | (refine m_wr ?_; clear HM HB; intro w b HM HB; try clear b) | fail)
    refine (alive27 _).mono ?_
    rintro e w ⟨rfl, hb⟩
    replace HM := Lib.hid (HM.out.call hb)
    replace HB := HM.out.below
    clear hb
    go_wp2_with (first | refine m_rd ?_ | (refine m_wr ?_; clear HM HB; intro w b HM HB; try clear b) | fail)
    go_ret
    exact ⟨rfl, HB⟩
  case pos =>
    have h0 : decide ((60 : Int) < (N : Int)) = false := decide_eq_false (by omega)
    have HN60 := Lib.hid hl
    have hmax : N ≤ 9223372036854775807 := by omega
    clear hD hN hl
    have HM := Lib.hid (Mem.start w0)
    have HB := HM.out.below
    go_enter Try.func7, Try.ntmps7
    go_wp2_with (first | (refine m_wr ?_ HM (Wr.box rfl rfl HCK.out) (wanted_none rfl); clear HM HB; intro w b4 HM HB) | refine m_rd ?_ | (refine m_wr ?_; clear HM HB; intro w b HM HB; try clear b) | fail)
    refine (new_ros_in HM).mono ?_
    rintro e w ⟨br, bm, rfl, HM'⟩
    replace HM := HM'
    replace HB := HM.out.below
    clear HM'
    go_wp2_with (first | (refine m_wr ?_ HM (Wr.alloc rfl AL1.out.1 AL1.out.2) (wanted_none rfl); clear HM HB; intro w b8 HM HB) | refine m_rd ?_ | (refine m_wr ?_; clear HM HB; intro w b HM HB; try clear b) | fail)
    replace HM : HMem w0 w (rosB br bm 0 :: mapE MI bm [] :: rowE ROne (.slice none 0 0) [] :: Ent.blk b8 (RV none 0 0 0) 65 :: Ent.blk b4 (keyC k) 29 :: []) := Lib.hid ((HM.out.nilR ROne).perm (by ((repeat (first | exact List.Perm.refl _ | (refine List.Perm.trans (Del.perm (by (first | ((repeat (first | with_reducible exact Del.head _ | with_reducible apply Del.tail)); done) | ((repeat (first | exact Del.head _ | apply Del.tail)); done)))) (List.Perm.cons _ ?_)))); done)))
    go_loopw [26] (fun v26 wr => ∃ i n l last A' c', i ≤ N ∧ v26 = .int .i64 (i : Nat) ∧ Hid (endR (D.take i) = (l, last)) ∧ Hid (l.length = n) ∧ HMem w0 wr (rosB br bm last :: mapE MI bm l :: rowE ROne (.slice A' n c') l :: Ent.blk b8 (RV A' n c' last) 65 :: Ent.blk b4 (keyC k) 29 :: [])) (fun v26 _ => N - (intOf v26).toNat)
    case atStart => exact ⟨0, 0, [], 0, none, 0, Nat.zero_le _, rfl, Lib.hid rfl, Lib.hid rfl, HM⟩
    case round =>
      clear HM HB
      obtain ⟨i, n, l, last, A', c', hi, rfl, HQ, HN, HM⟩ := hrel
      have HB := HM.out.below
      have HOK : Hid (OkR (l, last) i) := Lib.hid (by rw [← HQ.out]; exact OkR.all D i (by rw [HDN.out]; exact hi))
      by_cases hlt : i < N
      · obtain ⟨d, hd⟩ : ∃ d, D[i]? = some d := ⟨D[i]'(by rw [HDN.out]; exact hlt), by simp [HDN.out, hlt]⟩
        obtain ⟨ad, rfl, hrd⟩ := deed_at HD.out hd
        have HRD := Lib.hid hrd
        have HCD := Lib.hid (cellsDeed d)
        have HCR := Lib.hid (cellsRV A' n c' last)
        obtain ⟨⟨l2, last2⟩, hs⟩ : ∃ q, stepR (l, last) d = q := ⟨_, rfl⟩
        have HS := Lib.hid hs
        have HQ2 : Hid (endR (D.take (i + 1)) = (l2, last2)) := Lib.hid (by rw [endR_snoc hd, HQ.out, hs])
        clear hd hrd HD hs
        go_wp2_with (first | (refine m_rd ?_ HM (Rd.elem rfl (by kernel_rfl) rfl (fun w hm => HRD.out w hm.below) (by rw [deedC_size]; exact info_deed)) (wanted_none rfl)) | (refine m_wr ?_ HM (Wr.alloc rfl AL2.out.1 AL2.out.2) (wanted_none rfl); clear HM HB; intro w b10 HM HB) | refine m_rd ?_ | (refine m_wr ?_; clear HM HB; intro w b HM HB; try clear b) | fail)
        replace HM : HMem w0 w (rosB br bm last :: mapE MI bm l :: rowE ROne (.slice A' n c') l :: Ent.blk b10 (deedC d) 67 :: Ent.blk b8 (RV A' n c' last) 65 :: Ent.blk b4 (keyC k) 29 :: []) := Lib.hid (HM.out.perm (by ((repeat (first | exact List.Perm.refl _ | (refine List.Perm.trans (Del.perm (by (first | ((repeat (first | with_reducible exact Del.head _ | with_reducible apply Del.tail)); done) | ((repeat (first | exact Del.head _ | apply Del.tail)); done)))) (List.Perm.cons _ ?_)))); done)))
        refine (step_any d HM HN.out HOK.out (by have := HN60.out; omega) HS.out).mono ?_
        rintro e w ⟨A2, c2, rfl, hcase⟩
        obtain ⟨n2, hn2⟩ : ∃ n2, l2.length = n2 := ⟨_, rfl⟩
        have HN2 := Lib.hid hn2
        have HM2 : Hid (Mem w0 w (rosB br bm last2 :: mapE MI bm l2 :: rowE ROne (.slice A2 n2 c2) l2 :: Ent.blk b10 (deedC d) 67 :: Ent.blk b8 (RV A' n c' last) 65 :: Ent.blk b4 (keyC k) 29 :: [])) := by
          rcases hcase with ⟨rfl, rfl, hq, hM⟩ | hM
          · injection hq with h1 h2
            subst h1 h2
            obtain rfl : n2 = n := hn2.symm.trans HN.out
            exact hM
          · simp only at hM
            rw [hn2] at hM
            exact Lib.hid ((hM.out.perm (es' := rowE ROne (.slice A' n c') l :: rosB br bm last2 :: mapE MI bm l2 :: rowE ROne (.slice A2 n2 c2) l2 :: Ent.blk b10 (deedC d) 67 :: Ent.blk b8 (RV A' n c' last) 65 :: Ent.blk b4 (keyC k) 29 :: []) (by ((repeat (first | exact List.Perm.refl _ | (refine List.Perm.trans (Del.perm (by (first | ((repeat (first | with_reducible exact Del.head _ | with_reducible apply Del.tail)); done) | ((repeat (first | exact Del.head _ | apply Del.tail)); done)))) (List.Perm.cons _ ?_)))); done))).tail)
        simp only
        rw [hn2]
        clear hcase hn2 HM HB HS HOK HQ HN HCD HCR HRD
        have HM := HM2
        have HB := HM.out.below
        clear HM2
        have HOK : Hid (OkR (l2, last2) (i + 1)) := Lib.hid (by rw [← HQ2.out]; exact OkR.all D (i + 1) (by rw [HDN.out]; omega))
        have HCR := Lib.hid (cellsRV A2 n2 c2 last2)
        go_wp2_with (first | (refine m_wr ?_ HM (Wr.alloc rfl AL1.out.1 AL1.out.2) (wanted_none rfl); clear HM HB; intro w b11 HM HB) | refine m_rd ?_ | (refine m_wr ?_; clear HM HB; intro w b HM HB; try clear b) | fail)
        replace HM : HMem w0 w (rosB br bm last2 :: mapE MI bm l2 :: rowE ROne (.slice A2 n2 c2) l2 :: Ent.blk b8 (RV A2 n2 c2 last2) 65 :: Ent.blk b4 (keyC k) 29 :: []) := Lib.hid ((HM.out.perm (es' := Ent.blk b11 (RV A2 n2 c2 last2) 65 :: Ent.blk b10 (deedC d) 67 :: rosB br bm last2 :: mapE MI bm l2 :: rowE ROne (.slice A2 n2 c2) l2 :: Ent.blk b8 (RV A2 n2 c2 last2) 65 :: Ent.blk b4 (keyC k) 29 :: []) (by ((repeat (first | exact List.Perm.refl _ | (refine List.Perm.trans (Del.perm (by (first | ((repeat (first | with_reducible exact Del.head _ | with_reducible apply Del.tail)); done) | ((repeat (first | exact Del.head _ | apply Del.tail)); done)))) (List.Perm.cons _ ?_)))); done))).tail.tail)
        replace HB := HM.out.below
        refine (ralike_any HM HN2.out (by have : l2.length ≤ 16 := HOK.out.room; have := HN2.out; omega) HOK.out.rise (HM.out.mapAt (M := MI) (by (first | ((repeat (first | with_reducible exact List.Mem.head _ | with_reducible apply List.Mem.tail)); done) | ((repeat (first | exact List.Mem.head _ | apply List.Mem.tail)); done)))).nodup).mono ?_
        rintro e w ⟨rfl, HM'⟩
        replace HM := HM'
        replace HB := HM.out.below
        clear HM'
        go_wp2_with (first | refine m_rd ?_ | (refine m_wr ?_; clear HM HB; intro w b HM HB; try clear b) | fail)
        go_roundw
        case rel => exact ⟨i + 1, n2, l2, last2, A2, c2, by omega, by go_num, HQ2, HN2, HM⟩
        case measure => (simp [intOf]) <;> omega
      · obtain rfl : i = N := by omega
        obtain ⟨o, ho⟩ : ∃ o, keyOfId l id = o := ⟨_, rfl⟩
        obtain ⟨is, his⟩ : ∃ is, inL l k = is := ⟨_, rfl⟩
        have HO := Lib.hid ho
        have HI := Lib.hid his
        have HL16 : Hid (n ≤ 16) := Lib.hid (by have : l.length ≤ 16 := HOK.out.room; have := HN.out; omega)
        have HR : Hid (Rising l) := Lib.hid HOK.out.rise
        have HND : Hid ((l.map (·.1)).Nodup) := Lib.hid (HM.out.mapAt (M := MI) (by (first | ((repeat (first | with_reducible exact List.Mem.head _ | with_reducible apply List.Mem.tail)); done) | ((repeat (first | exact List.Mem.head _ | apply List.Mem.tail)); done)))).nodup
        have HCO : Hid (Cells 29 (keyV o)) := Lib.hid (by
          cases o with
          | some k => exact cellsKV k
          | none => exact zeroKey.2)
        have HCR := Lib.hid (cellsRV A' n c' last)
        have CV1 : Hid ((RV A' n c' last)[0]? = some (.slice A' n c')) := Lib.hid rfl
        have HY := id_any k HM
        rw [his] at HY
        clear ho his HOK HQ HD HDN HN60 hlt
        go_wp2_with (first | refine m_rd ?_ | (refine m_wr ?_; clear HM HB; intro w b HM HB; try clear b) | fail)
        refine HY.mono ?_
        clear HY
        rintro e w ⟨v, rfl, hv, HM'⟩
        have HV := Lib.hid hv
        replace HM := HM'
        replace HB := HM.out.below
        clear HM' hv
        go_wp2_with (first | refine m_rd ?_ | (refine m_wr ?_; clear HM HB; intro w b HM HB; try clear b) | fail)
        have HY := rkey_any id HM (by rw [HN.out]; exact Nat.le_trans HL16.out (by decide)) HR.out HND.out
        rw [HO.out] at HY
        refine HY.mono ?_
        clear HY
        rintro e w ⟨rfl, HM'⟩
        replace HM := HM'
        replace HB := HM.out.below
        clear HM'
        go_wp2_with (first | (refine m_wr ?_ HM (Wr.alloc rfl AL3.out.1 AL3.out.2) (wanted_none rfl); clear HM HB; intro w b15 HM HB) | refine m_rd ?_ | (refine m_wr ?_; clear HM HB; intro w b HM HB; try clear b) | fail)
        replace HM : HMem w0 w (rosB br bm last :: mapE MI bm l :: rowE ROne (.slice A' n c') l :: Ent.blk b15 (keyV o) 29 :: Ent.blk b8 (RV A' n c' last) 65 :: Ent.blk b4 (keyC k) 29 :: []) := Lib.hid (HM.out.perm (by ((repeat (first | exact List.Perm.refl _ | (refine List.Perm.trans (Del.perm (by (first | ((repeat (first | with_reducible exact Del.head _ | with_reducible apply Del.tail)); done) | ((repeat (first | exact Del.head _ | apply Del.tail)); done)))) (List.Perm.cons _ ?_)))); done)))
        clear AL1 AL2 AL3 hmax
        have hmax : n ≤ 9223372036854775807 := by have := HL16.out; omega
        go_loopw [17, 18] (fun v17 v18 wr => ∃ i b, i ≤ n ∧ v17 = .bool b ∧ v18 = .int .i64 (i : Nat) ∧ Hid (anyB l i id = b) ∧ HMem w0 wr (rosB br bm last :: mapE MI bm l :: rowE ROne (.slice A' n c') l :: Ent.blk b15 (keyV o) 29 :: Ent.blk b8 (RV A' n c' last) 65 :: Ent.blk b4 (keyC k) 29 :: [])) (fun _ v18 _ => n - (intOf v18).toNat)
        case atStart => exact ⟨0, false, Nat.zero_le _, rfl, rfl, Lib.hid rfl, HM⟩
        case round =>
          clear HM HB
          obtain ⟨i, b, hi, rfl, rfl, HBI, HM⟩ := hrel
          have HB := HM.out.below
          by_cases hlt : i < n
          · obtain ⟨⟨kx, v⟩, hp⟩ : ∃ p, l[i]? = some p := ⟨l[i]'(by rw [HN.out]; exact hlt), by simp [HN.out, hlt]⟩
            obtain ⟨ad, rfl, _⟩ := row_at HM.out (by (first | ((repeat (first | with_reducible exact List.Mem.head _ | with_reducible apply List.Mem.tail)); done) | ((repeat (first | exact List.Mem.head _ | apply List.Mem.tail)); done))) hp
            have HP := Lib.hid hp
            have HB1 : Hid (anyB l (i + 1) id = (b || v == id)) := Lib.hid (by rw [anyB_snoc hp, HBI.out])
            have HKO : Hid (v = id → o = some kx) := Lib.hid (fun e => by rw [← HO.out, ← e]; exact keyOfId_mem HR.out (List.mem_of_getElem? hp))
            clear hp
            go_wp2_with (first | refine m_rd ?_ | (refine m_wr ?_; clear HM HB; intro w b HM HB; try clear b) | fail)
            cases b with
            | true =>
              have HB2 : Hid (anyB l (i + 1) id = true) := Lib.hid (by rw [HB1.out]; rfl)
              try simp only [Act.put, List.setIfInBounds_toArray, List.set_cons_zero, List.set_cons_succ]
              refine wp_region_held_drew (S := fun w' => Mem w0 w' (rosB br bm last :: mapE MI bm l :: rowE ROne (.slice (some ad) n c') l :: Ent.blk b15 (keyV o) 29 :: Ent.blk b8 (RV (some ad) n c' last) 65 :: Ent.blk b4 (keyC k) 29 :: [])) (by kernel_rfl) (HM.out.drew) (fun hS => ?_)
              replace HM := Lib.hid HM.out.drew
              replace HB := HM.out.below
              refine tk 0 66 ?_
              refine tk 1 67 ?_
              refine tku 2 68 ?_
              refine tku 3 69 ?_
              refine tku 4 70 ?_
              refine tku 5 71 ?_
              refine tku 6 72 ?_
              refine tku 7 73 ?_
              refine tku 8 74 ?_
              refine tku 9 75 ?_
              refine tku 10 76 ?_
              refine tku 11 77 ?_
              refine tku 12 78 ?_
              refine tku 13 79 ?_
              refine tku 14 80 ?_
              refine tku 15 81 ?_
              refine tku 16 82 ?_
              refine tku 17 83 ?_
              refine tku 18 84 ?_
              refine tku 19 85 ?_
              refine tk 20 86 ?_
              refine tk 21 17 ?_
              refine wpAnyH_done (by kernel_rfl) ?_ _
              clear hS
              go_wp2_with fail
              go_roundw
              case rel => exact ⟨i + 1, true, by omega, rfl, by go_num, HB2, HM⟩
              case measure => (simp [intOf]) <;> omega
            | false =>
              by_cases hv : v = id
              · have hve : (v == id) = true := by simpa using hv
                obtain rfl := HKO.out hv
                have HB2 : Hid (anyB l (i + 1) id = true) := Lib.hid (by rw [HB1.out, hve]; rfl)
                have HCX := Lib.hid (cellsKV kx)
                have HE : Hid (EqlOf 29 (keyC kx) (keyC kx) true) := Lib.hid (by have := eq_key kx kx; rwa [decide_eq_true rfl] at this)
                clear hv
                try simp only [Act.put, List.setIfInBounds_toArray, List.set_cons_zero, List.set_cons_succ]
                refine wp_region_held_drew (S := fun w' => Mem w0 w' (rosB br bm last :: mapE MI bm l :: rowE ROne (.slice (some ad) n c') l :: Ent.blk b15 (keyV (some kx)) 29 :: Ent.blk b8 (RV (some ad) n c' last) 65 :: Ent.blk b4 (keyC k) 29 :: [])) (by kernel_rfl) (HM.out.drew) (fun hS => ?_)
                replace HM := Lib.hid HM.out.drew
                replace HB := HM.out.below
                refine tk 0 66 ?_
                refine tk 1 67 ?_
                refine tk 2 68 ?_
                refine tkv 3 69 (.slice (some ad) n c') rfl (yields_cell rfl (by kernel_rfl) rfl (fun _ h => h) (by (first | ((repeat (first | with_reducible exact List.Mem.head _ | with_reducible apply List.Mem.tail)); done) | ((repeat (first | exact List.Mem.head _ | apply List.Mem.tail)); done))) rfl (by kernel_rfl)) ?_
                refine tk 4 70 ?_
                refine tk 5 71 ?_
                refine tk 6 72 ?_
                refine tkv 7 73 (.int .i64 v) rfl (yields_fact rfl (by kernel_rfl) rfl (fun w hw => one_id (row_at' hw (by (first | ((repeat (first | with_reducible exact List.Mem.head _ | with_reducible apply List.Mem.tail)); done) | ((repeat (first | exact List.Mem.head _ | apply List.Mem.tail)); done))) HP.out)) (by kernel_rfl)) ?_
                refine tk 8 74 ?_
                refine tk 9 75 ?_
                refine tk 10 76 ?_
                refine tk 11 77 ?_
                refine tkv 12 78 (.slice (some ad) n c') rfl (yields_cell rfl (by kernel_rfl) rfl (fun _ h => h) (by (first | ((repeat (first | with_reducible exact List.Mem.head _ | with_reducible apply List.Mem.tail)); done) | ((repeat (first | exact List.Mem.head _ | apply List.Mem.tail)); done))) rfl (by kernel_rfl)) ?_
                refine tk 13 79 ?_
                refine tk 14 80 ?_
                refine tk 15 81 ?_
                refine tkv 16 82 (.agg (keyC kx)) rfl (yields_elem rfl (by kernel_rfl) rfl (fun w hw => one_key (row_at' hw (by (first | ((repeat (first | with_reducible exact List.Mem.head _ | with_reducible apply List.Mem.tail)); done) | ((repeat (first | exact List.Mem.head _ | apply List.Mem.tail)); done))) HP.out)) (by rw [keyC_size]; exact info_key) (by kernel_rfl)) ?_
                refine tkv 17 83 (.agg (keyC kx)) rfl (yields_own rfl rfl (fun _ h => h) (by (first | ((repeat (first | with_reducible exact List.Mem.head _ | with_reducible apply List.Mem.tail)); done) | ((repeat (first | exact List.Mem.head _ | apply List.Mem.tail)); done))) Try.underlying29 rfl HCX.out.1 (by kernel_rfl)) ?_
                refine tkv 18 84 (.bool true) rfl (yields_eqK rfl rfl rfl (by kernel_rfl) HE.out (by kernel_rfl)) ?_
                refine tk 19 85 ?_
                refine tk 20 86 ?_
                refine tk 21 17 ?_
                refine wpAnyH_done (by kernel_rfl) ?_ _
                clear hS
                go_wp2_with fail
                go_roundw
                case rel => exact ⟨i + 1, true, by omega, rfl, by go_num, HB2, HM⟩
                case measure => (simp [intOf]) <;> omega
              · have hve : (v == id) = false := by simpa using hv
                have HB2 : Hid (anyB l (i + 1) id = false) := Lib.hid (by rw [HB1.out, hve]; rfl)
                clear hv
                try simp only [Act.put, List.setIfInBounds_toArray, List.set_cons_zero, List.set_cons_succ]
                refine wp_region_held_drew (S := fun w' => Mem w0 w' (rosB br bm last :: mapE MI bm l :: rowE ROne (.slice (some ad) n c') l :: Ent.blk b15 (keyV o) 29 :: Ent.blk b8 (RV (some ad) n c' last) 65 :: Ent.blk b4 (keyC k) 29 :: [])) (by kernel_rfl) (HM.out.drew) (fun hS => ?_)
                replace HM := Lib.hid HM.out.drew
                replace HB := HM.out.below
                refine tk 0 66 ?_
                refine tk 1 67 ?_
                refine tk 2 68 ?_
                refine tkv 3 69 (.slice (some ad) n c') rfl (yields_cell rfl (by kernel_rfl) rfl (fun _ h => h) (by (first | ((repeat (first | with_reducible exact List.Mem.head _ | with_reducible apply List.Mem.tail)); done) | ((repeat (first | exact List.Mem.head _ | apply List.Mem.tail)); done))) rfl (by kernel_rfl)) ?_
                refine tk 4 70 ?_
                refine tk 5 71 ?_
                refine tk 6 72 ?_
                refine tkv 7 73 (.int .i64 v) rfl (yields_fact rfl (by kernel_rfl) rfl (fun w hw => one_id (row_at' hw (by (first | ((repeat (first | with_reducible exact List.Mem.head _ | with_reducible apply List.Mem.tail)); done) | ((repeat (first | exact List.Mem.head _ | apply List.Mem.tail)); done))) HP.out)) (by kernel_rfl)) ?_
                refine tk 8 74 ?_
                refine tk 9 75 ?_
                refine tk 10 76 ?_
                refine tku 11 77 ?_
                refine tku 12 78 ?_
                refine tku 13 79 ?_
                refine tku 14 80 ?_
                refine tku 15 81 ?_
                refine tku 16 82 ?_
                refine tku 17 83 ?_
                refine tku 18 84 ?_
                refine tk 19 85 ?_
                refine tk 20 86 ?_
                refine tk 21 17 ?_
                refine wpAnyH_done (by kernel_rfl) ?_ _
                clear hS
                go_wp2_with fail
                go_roundw
                case rel => exact ⟨i + 1, false, by omega, rfl, by go_num, HB2, HM⟩
                case measure => (simp [intOf]) <;> omega
          · obtain rfl : i = n := by omega
            have hb : b = o.isSome := by rw [← HBI.out, anyB_all HN.out, HO.out]
            subst hb
            clear HO HR HND HBI HCO hi HL16
            cases o with
            | some kx =>
              replace HM : HMem w0 wr (rosB br bm last :: mapE MI bm l :: rowE ROne (.slice A' i c') l :: Ent.blk b15 (keyC kx) 29 :: Ent.blk b8 (RV A' i c' last) 65 :: Ent.blk b4 (keyC k) 29 :: []) := HM
              have HCX := Lib.hid (cellsKV kx)
              rw [Option.isSome_some]
              cases is with
              | true =>
                go_wp2_with (first | refine m_rd ?_ | (refine m_wr ?_; clear HM HB; intro w b HM HB; try clear b) | fail)
                refine (place_any A' i c' last l k _ (HM.out.rw_ (R := ROne) LOne (by (first | ((repeat (first | with_reducible exact List.Mem.head _ | with_reducible apply List.Mem.tail)); done) | ((repeat (first | exact List.Mem.head _ | apply List.Mem.tail)); done)))) HN.out).mono ?_
                rintro e w ⟨z, rfl, hz, _, _, hb⟩
                have hz0 := hz HI.out
                replace HM := Lib.hid (HM.out.call hb)
                replace HB := HM.out.below
                clear hb hz
                go_wp2_with (first | refine m_rd ?_ | (refine m_wr ?_; clear HM HB; intro w b HM HB; try clear b) | fail)
                refine (alive27 _).mono ?_
                rintro e w ⟨rfl, hb⟩
                replace HM := Lib.hid (HM.out.call hb)
                replace HB := HM.out.below
                clear hb
                go_wp2_with (first | refine m_rd ?_ | (refine m_wr ?_; clear HM HB; intro w b HM HB; try clear b) | fail)
                go_ret
                exact ⟨rfl, HB⟩
              | false =>
                obtain rfl := HV.out rfl
                go_wp2_with (first | refine m_rd ?_ | (refine m_wr ?_; clear HM HB; intro w b HM HB; try clear b) | fail)
                refine (place_any A' i c' last l k _ (HM.out.rw_ (R := ROne) LOne (by (first | ((repeat (first | with_reducible exact List.Mem.head _ | with_reducible apply List.Mem.tail)); done) | ((repeat (first | exact List.Mem.head _ | apply List.Mem.tail)); done)))) HN.out).mono ?_
                rintro e w ⟨z, rfl, _, hz, _, hb⟩
                obtain rfl := hz HI.out
                replace HM := Lib.hid (HM.out.call hb)
                replace HB := HM.out.below
                clear hb
                go_wp2_with (first | refine m_rd ?_ | (refine m_wr ?_; clear HM HB; intro w b HM HB; try clear b) | fail)
                refine (alive27 _).mono ?_
                rintro e w ⟨rfl, hb⟩
                replace HM := Lib.hid (HM.out.call hb)
                replace HB := HM.out.below
                clear hb
                go_wp2_with (first | refine m_rd ?_ | (refine m_wr ?_; clear HM HB; intro w b HM HB; try clear b) | fail)
                go_ret
                exact ⟨rfl, HB⟩
            | none =>
              replace HM : HMem w0 wr (rosB br bm last :: mapE MI bm l :: rowE ROne (.slice A' i c') l :: Ent.blk b15 (ZK) 29 :: Ent.blk b8 (RV A' i c' last) 65 :: Ent.blk b4 (keyC k) 29 :: []) := HM
              have HCX := Lib.hid (zeroKey.2)
              rw [Option.isSome_none]
              cases is with
              | true =>
                go_wp2_with (first | refine m_rd ?_ | (refine m_wr ?_; clear HM HB; intro w b HM HB; try clear b) | fail)
                refine (place_any A' i c' last l k _ (HM.out.rw_ (R := ROne) LOne (by (first | ((repeat (first | with_reducible exact List.Mem.head _ | with_reducible apply List.Mem.tail)); done) | ((repeat (first | exact List.Mem.head _ | apply List.Mem.tail)); done)))) HN.out).mono ?_
                rintro e w ⟨z, rfl, hz, _, _, hb⟩
                have hz0 := hz HI.out
                replace HM := Lib.hid (HM.out.call hb)
                replace HB := HM.out.below
                clear hb hz
                go_wp2_with (first | refine m_rd ?_ | (refine m_wr ?_; clear HM HB; intro w b HM HB; try clear b) | fail)
                refine (alive27 _).mono ?_
                rintro e w ⟨rfl, hb⟩
                replace HM := Lib.hid (HM.out.call hb)
                replace HB := HM.out.below
                clear hb
                go_wp2_with (first | refine m_rd ?_ | (refine m_wr ?_; clear HM HB; intro w b HM HB; try clear b) | fail)
                go_ret
                exact ⟨rfl, HB⟩
              | false =>
                obtain rfl := HV.out rfl
                go_wp2_with (first | refine m_rd ?_ | (refine m_wr ?_; clear HM HB; intro w b HM HB; try clear b) | fail)
                refine (place_any A' i c' last l k _ (HM.out.rw_ (R := ROne) LOne (by (first | ((repeat (first | with_reducible exact List.Mem.head _ | with_reducible apply List.Mem.tail)); done) | ((repeat (first | exact List.Mem.head _ | apply List.Mem.tail)); done)))) HN.out).mono ?_
                rintro e w ⟨z, rfl, _, hz, _, hb⟩
                obtain rfl := hz HI.out
                replace HM := Lib.hid (HM.out.call hb)
                replace HB := HM.out.below
                clear hb
                go_wp2_with (first | refine m_rd ?_ | (refine m_wr ?_; clear HM HB; intro w b HM HB; try clear b) | fail)
                refine (alive27 _).mono ?_
                rintro e w ⟨rfl, hb⟩
                replace HM := Lib.hid (HM.out.call hb)
                replace HB := HM.out.below
                clear hb
                go_wp2_with (first | refine m_rd ?_ | (refine m_wr ?_; clear HM HB; intro w b HM HB; try clear b) | fail)
                go_ret
                exact ⟨rfl, HB⟩
end Go.Proofs.Ytapncdgeigbgmaa.Tb
