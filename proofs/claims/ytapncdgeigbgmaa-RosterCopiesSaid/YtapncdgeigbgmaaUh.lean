/- Chapter 27: its example, and RosterNobody. -/
import Derived.Test.YtapncdgeigbgmaaUg
import Derived.Test.YtapncdgeigbgmaaTg
set_option linter.unusedSimpArgs false
set_option linter.unusedVariables false
set_option linter.unusedSectionVars false
set_option maxRecDepth 100000
namespace Go.Proofs.Ytapncdgeigbgmaa.Tb
open Go.RowKit Go.Proofs.YtapncdgeigbgmaaW.PrintWords Go.Proofs.Ytapncdgeigbgmaa.Bs Go.Proofs.Ytapncdgeigbgmaa.Gm Go.Proofs.Ytapncdgeigbgmaa.Sf

def kB : Key := ⟨#[2, 0, 0, 0, 0, 0, 0, 0, 0, 0, 0, 0, 0, 0, 0, 0, 0, 0, 0, 0, 0, 0, 0, 0, 0, 0, 0, 0, 0, 0, 0, 0], rfl⟩
theorem builtB : Built 29 #[(0, .int .u8 2)] (.agg (keyC kB)) := fun W => by kernel_rfl
theorem kAB : kA ≠ kB := by decide
theorem litBA : LitR RKey 2 #[(0, .agg (keyC kB)), (1, .agg (keyC kA))] [kB, kA] := ⟨rfl, by decide, fun W => by kernel_rfl⟩
theorem r2 : getK [(kA, (1 : Int))] kB = none := by simp [getK, kAB]
theorem r3 : putK [(kA, (1 : Int))] kB 2 = [(kA, 1), (kB, 2)] := by simp [putK, getK, kAB]
theorem r4 : getK [(kA, (1 : Int)), (kB, 2)] kA = some 1 := by simp [getK]
theorem r5 : delK [(kA, (1 : Int)), (kB, 2)] kA = [(kB, 2)] := by simp [delK, kAB.symm]
theorem r6 : getK [(kB, (2 : Int))] kA = none := by simp [getK, kAB.symm]
theorem r7 : putK [(kB, (2 : Int))] kA 3 = [(kB, 2), (kA, 3)] := by simp [putK, getK, kAB.symm]
set_option maxHeartbeats 1000000 in
theorem alive27 (w0 : World) : Calls Try.prog 24 #[] w0 fun e w' => e = .returned (.bool true) ∧ Below w0.heap.size w0 w' := by
  have BH1 := Lib.hid builtA
  have BH2 := Lib.hid builtB
  have LT1 := Lib.hid litBA
  go_enter Try.func24, Try.ntmps24
  go_wp2_with fail
  refine (new_ros w0).mono ?_
  rintro e w ⟨br, bm, rfl, HM⟩
  have HB := HM.out.below
  go_wp2_with (first | refine m_rd ?_ | (refine m_wr ?_; clear HM HB; intro w b HM HB; try clear b) | fail)
  refine (add_new kA HM get_nil (by decide) (by decide) (by decide)).mono ?_
  rintro e w ⟨rfl, HM'⟩
  rw [put_nil, show (0 : Int) + 1 = 1 from rfl] at HM'
  replace HM := HM'
  replace HB := HM.out.below
  clear HM'
  go_wp2_with (first | refine m_rd ?_ | (refine m_wr ?_; clear HM HB; intro w b HM HB; try clear b) | fail)
  refine (add_new kB HM r2 (by decide) (by decide) (by decide)).mono ?_
  rintro e w ⟨rfl, HM'⟩
  rw [show (1 : Int) + 1 = 2 from rfl, r3] at HM'
  replace HM := HM'
  replace HB := HM.out.below
  clear HM'
  go_wp2_with (first | refine m_rd ?_ | (refine m_wr ?_; clear HM HB; intro w b HM HB; try clear b) | fail)
  refine (rdrop_some kA HM r4).mono ?_
  rintro e w ⟨rfl, HM'⟩
  rw [r5] at HM'
  replace HM := HM'
  replace HB := HM.out.below
  clear HM'
  go_wp2_with (first | refine m_rd ?_ | (refine m_wr ?_; clear HM HB; intro w b HM HB; try clear b) | fail)
  refine (add_new kA HM r6 (by decide) (by decide) (by decide)).mono ?_
  rintro e w ⟨rfl, HM'⟩
  rw [show (2 : Int) + 1 = 3 from rfl, r7] at HM'
  rw [show (2 : Int) + 1 = 3 from rfl]
  replace HM := HM'
  replace HB := HM.out.below
  clear HM'
  go_wp2_with (first | refine m_rd ?_ | (refine m_wr ?_; clear HM HB; intro w b HM HB; try clear b) | fail)
  refine (rkeys_any HM (by decide) (by unfold Rising; decide)).mono ?_
  rintro e w ⟨A, c, rfl, HM'⟩
  replace HM : HMem w0 w (rowE RKey (.slice A 2 c) [kB, kA] :: rosB br bm 3 :: mapE MI bm [(kB, 2), (kA, 3)] :: []) := HM'
  replace HB := HM.out.below
  clear HM'
  go_wp2_with (first | (refine m_wr ?_ HM (Wr.litR LKey rfl LT1.out rfl) (wanted_some rfl rfl rfl); clear HM HB; intro w bl HM HB) | refine m_rd ?_ | (refine m_wr ?_; clear HM HB; intro w b HM HB; try clear b) | fail)
  refine (same_keys A (some ⟨bl, 0, none⟩) c 2 [kB, kA] _ (HM.out.rw_ LKey (by (first | ((repeat (first | with_reducible exact List.Mem.head _ | with_reducible apply List.Mem.tail)); done) | ((repeat (first | exact List.Mem.head _ | apply List.Mem.tail)); done)))) (HM.out.rw_ LKey (by (first | ((repeat (first | with_reducible exact List.Mem.head _ | with_reducible apply List.Mem.tail)); done) | ((repeat (first | exact List.Mem.head _ | apply List.Mem.tail)); done))))).mono ?_
  rintro e w ⟨rfl, hb⟩
  replace HM := Lib.hid (HM.out.call hb)
  replace HB := HM.out.below
  clear hb
  go_wp2_with (first | refine m_rd ?_ | (refine m_wr ?_; clear HM HB; intro w b HM HB; try clear b) | fail)
  go_ret
  exact ⟨rfl, HB⟩
def ZRos : Array Value := #[.map none, .int .i64 0]
theorem zeroRos : ZeroOf 82 ZRos := ⟨fun W => zero_of (by kernel_rfl) W, by kernel_rfl, by kernel_rfl⟩
theorem no_ros {w0 w : World} {es : List Ent} {b : Nat} (HM : Mem w0 w es) (m : Ent.blk b ZRos 82 ∈ es) : NoTab w (.pointer (some ⟨b, 0, none⟩)) := .inr ⟨b, rfl, (blk_cell (HM.get m) 0).trans rfl⟩
set_option maxHeartbeats 8000000 in
theorem rosterNobody_walk (k : Key) (id : Int) (w0 : World) : Calls Try.prog 9 #[.agg (keyC k), .int .i64 id] w0 fun e w' => e = .returned (.bool true) ∧ Below w0.heap.size w0 w' := by
  have HC := Lib.hid (cells_key (keyC k) (keyC_size k) (keyC_one k))
  have HCZ := Lib.hid zeroKey.2
  have AL1 := Lib.hid zeroRos
  have AL2 := Lib.hid zeroKey
  have BH1 := Lib.hid build_zero
  have EQ1 := Lib.hid eql_zero
  have HM := Lib.hid (Mem.start w0)
  have HB := HM.out.below
  go_enter Try.func9, Try.ntmps9
  go_wp2_with (first | (refine m_wr ?_ HM (Wr.box rfl rfl HC.out) (wanted_none rfl); clear HM HB; intro w bk HM HB) | (refine m_wr ?_ HM (Wr.alloc rfl AL1.out.1 AL1.out.2) (wanted_none rfl); clear HM HB; intro w bz HM HB) | refine m_rd ?_ | (refine m_wr ?_; clear HM HB; intro w b HM HB; try clear b) | fail)
  refine (add_no (no_nil _) k).mono ?_
  rintro e w ⟨rfl, hb⟩
  replace HM := Lib.hid (HM.out.call hb)
  replace HB := HM.out.below
  clear hb
  go_wp2_with (first | refine m_rd ?_ | (refine m_wr ?_; clear HM HB; intro w b HM HB; try clear b) | fail)
  refine (add_no (no_ros HM.out (by (first | ((repeat (first | with_reducible exact List.Mem.head _ | with_reducible apply List.Mem.tail)); done) | ((repeat (first | exact List.Mem.head _ | apply List.Mem.tail)); done)))) k).mono ?_
  rintro e w ⟨rfl, hb⟩
  replace HM := Lib.hid (HM.out.call hb)
  replace HB := HM.out.below
  clear hb
  go_wp2_with (first | refine m_rd ?_ | (refine m_wr ?_; clear HM HB; intro w b HM HB; try clear b) | fail)
  refine (rdrop_no (no_nil _) k).mono ?_
  rintro e w ⟨rfl, hb⟩
  replace HM := Lib.hid (HM.out.call hb)
  replace HB := HM.out.below
  clear hb
  go_wp2_with (first | refine m_rd ?_ | (refine m_wr ?_; clear HM HB; intro w b HM HB; try clear b) | fail)
  refine (rdrop_no (no_ros HM.out (by (first | ((repeat (first | with_reducible exact List.Mem.head _ | with_reducible apply List.Mem.tail)); done) | ((repeat (first | exact List.Mem.head _ | apply List.Mem.tail)); done)))) k).mono ?_
  rintro e w ⟨rfl, hb⟩
  replace HM := Lib.hid (HM.out.call hb)
  replace HB := HM.out.below
  clear hb
  go_wp2_with (first | refine m_rd ?_ | (refine m_wr ?_; clear HM HB; intro w b HM HB; try clear b) | fail)
  refine (clear_no (no_nil _)).mono ?_
  rintro e w' ⟨rfl, rfl⟩
  go_wp2_with (first | refine m_rd ?_ | (refine m_wr ?_; clear HM HB; intro w b HM HB; try clear b) | fail)
  refine (clear_no (no_ros HM.out (by (first | ((repeat (first | with_reducible exact List.Mem.head _ | with_reducible apply List.Mem.tail)); done) | ((repeat (first | exact List.Mem.head _ | apply List.Mem.tail)); done))))).mono ?_
  rintro e w' ⟨rfl, rfl⟩
  go_wp2_with (first | refine m_rd ?_ | (refine m_wr ?_; clear HM HB; intro w b HM HB; try clear b) | fail)
  refine (copy_nil _).mono ?_
  rintro e w' ⟨rfl, rfl⟩
  go_wp2_with (first | refine m_rd ?_ | (refine m_wr ?_; clear HM HB; intro w b HM HB; try clear b) | fail)
  refine (id_no (no_nil _) k).mono ?_
  rintro e w ⟨rfl, hb⟩
  replace HM := Lib.hid (HM.out.call hb)
  replace HB := HM.out.below
  clear hb
  go_wp2_with (first | refine m_rd ?_ | (refine m_wr ?_; clear HM HB; intro w b HM HB; try clear b) | fail)
  refine (key_no (no_nil _) rfl id).mono ?_
  rintro e w ⟨rfl, hb⟩
  replace HM := Lib.hid (HM.out.call hb)
  replace HB := HM.out.below
  clear hb
  go_wp2_with (first | refine m_rd ?_ | (refine m_wr ?_; clear HM HB; intro w b HM HB; try clear b) | fail)
  refine (id_no (no_ros HM.out (by (first | ((repeat (first | with_reducible exact List.Mem.head _ | with_reducible apply List.Mem.tail)); done) | ((repeat (first | exact List.Mem.head _ | apply List.Mem.tail)); done)))) k).mono ?_
  rintro e w ⟨rfl, hb⟩
  replace HM := Lib.hid (HM.out.call hb)
  replace HB := HM.out.below
  clear hb
  go_wp2_with (first | refine m_rd ?_ | (refine m_wr ?_; clear HM HB; intro w b HM HB; try clear b) | fail)
  refine (key_no (no_ros HM.out (by (first | ((repeat (first | with_reducible exact List.Mem.head _ | with_reducible apply List.Mem.tail)); done) | ((repeat (first | exact List.Mem.head _ | apply List.Mem.tail)); done)))) rfl id).mono ?_
  rintro e w ⟨rfl, hb⟩
  replace HM := Lib.hid (HM.out.call hb)
  replace HB := HM.out.below
  clear hb
  go_wp2_with (first | refine m_rd ?_ | (refine m_wr ?_; clear HM HB; intro w b HM HB; try clear b) | fail)
  refine (rlen_no (no_nil _)).mono ?_
  rintro e w' ⟨rfl, rfl⟩
  go_wp2_with (first | refine m_rd ?_ | (refine m_wr ?_; clear HM HB; intro w b HM HB; try clear b) | fail)
  refine (rlen_no (no_ros HM.out (by (first | ((repeat (first | with_reducible exact List.Mem.head _ | with_reducible apply List.Mem.tail)); done) | ((repeat (first | exact List.Mem.head _ | apply List.Mem.tail)); done))))).mono ?_
  rintro e w' ⟨rfl, rfl⟩
  go_wp2_with (first | refine m_rd ?_ | (refine m_wr ?_; clear HM HB; intro w b HM HB; try clear b) | fail)
  refine (keys_no (no_nil _) rfl).mono ?_
  rintro e w ⟨rfl, hb⟩
  replace HM := Lib.hid (HM.out.call hb)
  replace HB := HM.out.below
  clear hb
  go_wp2_with (first | refine m_rd ?_ | (refine m_wr ?_; clear HM HB; intro w b HM HB; try clear b) | fail)
  refine (keys_no (no_ros HM.out (by (first | ((repeat (first | with_reducible exact List.Mem.head _ | with_reducible apply List.Mem.tail)); done) | ((repeat (first | exact List.Mem.head _ | apply List.Mem.tail)); done)))) rfl).mono ?_
  rintro e w ⟨rfl, hb⟩
  replace HM := Lib.hid (HM.out.call hb)
  replace HB := HM.out.below
  clear hb
  go_wp2_with (first | refine m_rd ?_ | (refine m_wr ?_; clear HM HB; intro w b HM HB; try clear b) | fail)
  refine (alive27 _).mono ?_
  rintro e w ⟨rfl, hb⟩
  replace HM := Lib.hid (HM.out.call hb)
  replace HB := HM.out.below
  clear hb
  go_wp2_with (first | refine m_rd ?_ | (refine m_wr ?_; clear HM HB; intro w b HM HB; try clear b) | fail)
  go_ret
  exact ⟨rfl, HB⟩
end Go.Proofs.Ytapncdgeigbgmaa.Tb
