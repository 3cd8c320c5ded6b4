/- Layer 31: the chapter's example; nil and a zero table have no sessions. -/
import Derived.Test.YtapncdgeigbgmaaTf
set_option linter.unusedSimpArgs false
set_option linter.unusedVariables false
set_option linter.unusedSectionVars false
set_option maxRecDepth 100000
namespace Go.Proofs.Ytapncdgeigbgmaa.Tb
open Go.RowKit Go.Proofs.YtapncdgeigbgmaaW.PrintWords Go.Proofs.Ytapncdgeigbgmaa.Bs Go.Proofs.Ytapncdgeigbgmaa.Gm Go.Proofs.Ytapncdgeigbgmaa.Sf

def kA : Key := ⟨#[1, 0, 0, 0, 0, 0, 0, 0, 0, 0, 0, 0, 0, 0, 0, 0, 0, 0, 0, 0, 0, 0, 0, 0, 0, 0, 0, 0, 0, 0, 0, 0], rfl⟩
theorem builtA : Built 29 #[(0, .int .u8 1)] (.agg (keyC kA)) := fun W => by kernel_rfl
section
variable {κ ν : Type} [DecidableEq κ] {x : κ} {u v : ν}
theorem put_nil : putK ([] : List (κ × ν)) x v = [(x, v)] := rfl
theorem get_nil : getK ([] : List (κ × ν)) x = none := rfl
theorem get_one : getK [(x, v)] x = some v := by simp [getK]
theorem put_one : putK [(x, u)] x v = [(x, v)] := by simp [putK, getK]
end
theorem put_two (a b : Nat) : putK [((1 : UInt32), a)] 2 b = [(1, a), (2, b)] := rfl
theorem put_three (a b c : Nat) : putK (delK [((1 : UInt32), a), (2, b)] 1) 3 c = [(2, b), (3, c)] := rfl
theorem alive31 (w0 : World) : Calls Try.prog 20 #[] w0 fun e w' => e = .returned (.bool true) ∧ Below w0.heap.size w0 w' := by
  have BH1 := Lib.hid builtA
  go_enter Try.func20, Try.ntmps20
  go_wp2_with fail
  refine (new_tab w0).mono ?_
  rintro e w ⟨bt, bb, bo, rfl, HM⟩
  have HB := HM.out.below
  go_wp2_with (first | refine m_rd ?_ | (refine m_wr ?_; clear HM HB; intro w b HM HB; try clear b) | fail)
  refine (install_first kA 1 9 0 HM get_nil get_nil (by decide)).mono ?_
  rintro e w ⟨rfl, b1, A1, c1, HM'⟩
  rw [put_nil, put_nil, List.nil_append] at HM'
  replace HM := HM'
  replace HB := HM.out.below
  clear HM'
  go_wp2_with (first | refine m_rd ?_ | (refine m_wr ?_; clear HM HB; intro w b HM HB; try clear b) | fail)
  have HM2 : HMem w0 w (tabB bt bb bo :: mapE MB bb [(1, b1)] :: mapE MO bo [(kA, .slice A1 1 c1)] :: rowE RN (.slice A1 1 c1) [1] :: sesE b1 (keyC kA) 1 9 0 [] :: []) := HM
  refine (install_second kA 2 9 0 HM2 rfl get_one rfl (by simp)).mono ?_
  rintro e w ⟨rfl, b2, A2, c2, HM'⟩
  clear HM2
  rw [put_two, put_one] at HM'
  replace HM : HMem w0 w (tabB bt bb bo :: sesE b1 (keyC kA) 1 9 0 [] :: mapE MB bb [(1, b1), (2, b2)] :: mapE MO bo [(kA, .slice A2 2 c2)] :: rowE RN (.slice A2 2 c2) [1, 2] :: sesE b2 (keyC kA) 2 9 0 [] :: []) := Lib.hid (HM'.out.perm (by ((repeat (first | exact List.Perm.refl _ | (refine List.Perm.trans (Del.perm (by (first | ((repeat (first | with_reducible exact Del.head _ | with_reducible apply Del.tail)); done) | ((repeat (first | exact Del.head _ | apply Del.tail)); done)))) (List.Perm.cons _ ?_)))); done)))
  replace HB := HM.out.below
  clear HM'
  go_wp2_with (first | refine m_rd ?_ | (refine m_wr ?_; clear HM HB; intro w b HM HB; try clear b) | fail)
  refine (install_third kA 3 9 0 HM rfl get_one rfl (by decide)).mono ?_
  rintro e w ⟨rfl, b3, A3, c3, HM'⟩
  rw [put_three, put_one, put_one] at HM'
  replace HM : HMem w0 w (tabB bt bb bo :: mapE MO bo [(kA, .slice A3 2 c3)] :: mapE MB bb [(2, b2), (3, b3)] :: rowE RN (.slice A3 2 c3) [2, 3] :: sesE b3 (keyC kA) 3 9 0 [] :: sesE b2 (keyC kA) 2 9 0 [] :: []) := Lib.hid (HM'.out.perm (by ((repeat (first | exact List.Perm.refl _ | (refine List.Perm.trans (Del.perm (by (first | ((repeat (first | with_reducible exact Del.head _ | with_reducible apply Del.tail)); done) | ((repeat (first | exact Del.head _ | apply Del.tail)); done)))) (List.Perm.cons _ ?_)))); done)))
  replace HB := HM.out.below
  clear HM'
  go_wp2_with (first | refine m_rd ?_ | (refine m_wr ?_; clear HM HB; intro w b HM HB; try clear b) | fail)
  refine (get_none (lo := 1) HM (by (first | ((repeat (first | with_reducible exact List.Mem.head _ | with_reducible apply List.Mem.tail)); done) | ((repeat (first | exact List.Mem.head _ | apply List.Mem.tail)); done))) (by (first | ((repeat (first | with_reducible exact List.Mem.head _ | with_reducible apply List.Mem.tail)); done) | ((repeat (first | exact List.Mem.head _ | apply List.Mem.tail)); done))) rfl).mono ?_
  rintro e w' ⟨rfl, rfl⟩
  go_wp2_with (first | refine m_rd ?_ | (refine m_wr ?_; clear HM HB; intro w b HM HB; try clear b) | fail)
  refine (current_2 HM get_one (show [(2 : UInt32), 3][1]? = some 3 from rfl) (show getK [((2 : UInt32), b2), (3, b3)] 3 = some b3 from rfl)).mono ?_
  rintro e w ⟨rfl, HM'⟩
  replace HM := HM'
  replace HB := HM.out.below
  clear HM'
  go_wp2_with (first | (refine m_rd ?_ HM (Rd.fact rfl (by kernel_rfl) rfl (fun w hm => (hm.sesAt (by (first | ((repeat (first | with_reducible exact List.Mem.head _ | with_reducible apply List.Mem.tail)); done) | ((repeat (first | exact List.Mem.head _ | apply List.Mem.tail)); done)))).plo))) | (refine m_rd ?_ HM (Rd.fact rfl (by kernel_rfl) rfl (fun w hm => (hm.sesAt (by (first | ((repeat (first | with_reducible exact List.Mem.head _ | with_reducible apply List.Mem.tail)); done) | ((repeat (first | exact List.Mem.head _ | apply List.Mem.tail)); done)))).pre))) | refine m_rd ?_ | (refine m_wr ?_; clear HM HB; intro w b HM HB; try clear b) | fail)
  refine (len_any (L := [⟨b2, kA, 2, 9, 0, [], none, 0⟩, ⟨b3, kA, 3, 9, 0, [], none, 0⟩]) HM (by (first | ((repeat (first | with_reducible exact List.Mem.head _ | with_reducible apply List.Mem.tail)); done) | ((repeat (first | exact List.Mem.head _ | apply List.Mem.tail)); done))) (by (first | ((repeat (first | with_reducible exact List.Mem.head _ | with_reducible apply List.Mem.tail)); done) | ((repeat (first | exact List.Mem.head _ | apply List.Mem.tail)); done)))).mono ?_
  rintro e w' ⟨rfl, rfl⟩
  go_wp2_with (first | refine m_rd ?_ | (refine m_wr ?_; clear HM HB; intro w b HM HB; try clear b) | fail)
  go_ret
  exact ⟨rfl, HB⟩
def ZT : Array Value := #[.map none, .map none]
theorem zeroT : ZeroOf 92 ZT := ⟨fun W => zero_of (by kernel_rfl) W, by kernel_rfl, by kernel_rfl⟩
theorem no_nil (w : World) : NoTab w (.pointer none) := .inl rfl
theorem no_zero {w0 w : World} {es : List Ent} {b : Nat} (HM : Mem w0 w es) (m : Ent.blk b ZT 92 ∈ es) : NoTab w (.pointer (some ⟨b, 0, none⟩)) := .inr ⟨b, rfl, (blk_cell (HM.get m) 0).trans rfl⟩
set_option maxHeartbeats 8000000 in
theorem sessionsNobody_walk (k : Key) (lo : UInt32) (w0 : World) : Calls Try.prog 10 #[.agg (keyC k), .int .u32 (lo.toNat : Int)] w0 fun e w' => e = .returned (.bool true) ∧ Below w0.heap.size w0 w' := by
  have HC := Lib.hid (cells_key (keyC k) (keyC_size k) (keyC_one k))
  have AL1 := Lib.hid zeroT
  have HM := Lib.hid (Mem.start w0)
  have HB := HM.out.below
  go_enter Try.func10, Try.ntmps10
  go_wp2_with (first | (refine m_wr ?_ HM (Wr.box rfl rfl HC.out) (wanted_none rfl); clear HM HB; intro w bk HM HB) | (refine m_wr ?_ HM (Wr.alloc rfl AL1.out.1 AL1.out.2) (wanted_none rfl); clear HM HB; intro w bz HM HB) | fail)
  refine (get_no (no_nil _) _).mono ?_
  rintro e w' ⟨rfl, rfl⟩
  go_wp2_with (first | refine m_rd ?_ | (refine m_wr ?_; clear HM HB; intro w b HM HB; try clear b) | fail)
  refine (current_no (no_nil _) k).mono ?_
  rintro e w ⟨rfl, hb⟩
  replace HM := Lib.hid (HM.out.call hb)
  replace HB := HM.out.below
  clear hb
  go_wp2_with (first | refine m_rd ?_ | (refine m_wr ?_; clear HM HB; intro w b HM HB; try clear b) | fail)
  refine (get_no (no_zero HM.out (by (first | ((repeat (first | with_reducible exact List.Mem.head _ | with_reducible apply List.Mem.tail)); done) | ((repeat (first | exact List.Mem.head _ | apply List.Mem.tail)); done)))) _).mono ?_
  rintro e w' ⟨rfl, rfl⟩
  go_wp2_with (first | refine m_rd ?_ | (refine m_wr ?_; clear HM HB; intro w b HM HB; try clear b) | fail)
  refine (current_no (no_zero HM.out (by (first | ((repeat (first | with_reducible exact List.Mem.head _ | with_reducible apply List.Mem.tail)); done) | ((repeat (first | exact List.Mem.head _ | apply List.Mem.tail)); done)))) k).mono ?_
  rintro e w ⟨rfl, hb⟩
  replace HM := Lib.hid (HM.out.call hb)
  replace HB := HM.out.below
  clear hb
  go_wp2_with (first | refine m_rd ?_ | (refine m_wr ?_; clear HM HB; intro w b HM HB; try clear b) | fail)
  refine (install_no (no_nil _) k _ _ _).mono ?_
  rintro e w ⟨rfl, hb⟩
  replace HM := Lib.hid (HM.out.call hb)
  replace HB := HM.out.below
  clear hb
  go_wp2_with (first | refine m_rd ?_ | (refine m_wr ?_; clear HM HB; intro w b HM HB; try clear b) | fail)
  refine (install_no (no_zero HM.out (by (first | ((repeat (first | with_reducible exact List.Mem.head _ | with_reducible apply List.Mem.tail)); done) | ((repeat (first | exact List.Mem.head _ | apply List.Mem.tail)); done)))) k _ _ _).mono ?_
  rintro e w ⟨rfl, hb⟩
  replace HM := Lib.hid (HM.out.call hb)
  replace HB := HM.out.below
  clear hb
  go_wp2_with (first | refine m_rd ?_ | (refine m_wr ?_; clear HM HB; intro w b HM HB; try clear b) | fail)
  refine (forget_no (no_nil _) _).mono ?_
  rintro e w ⟨rfl, hb⟩
  replace HM := Lib.hid (HM.out.call hb)
  replace HB := HM.out.below
  clear hb
  go_wp2_with (first | refine m_rd ?_ | (refine m_wr ?_; clear HM HB; intro w b HM HB; try clear b) | fail)
  refine (forget_no (no_zero HM.out (by (first | ((repeat (first | with_reducible exact List.Mem.head _ | with_reducible apply List.Mem.tail)); done) | ((repeat (first | exact List.Mem.head _ | apply List.Mem.tail)); done)))) _).mono ?_
  rintro e w ⟨rfl, hb⟩
  replace HM := Lib.hid (HM.out.call hb)
  replace HB := HM.out.below
  clear hb
  go_wp2_with (first | refine m_rd ?_ | (refine m_wr ?_; clear HM HB; intro w b HM HB; try clear b) | fail)
  try simp only [Act.put, List.setIfInBounds_toArray, List.set_cons_zero, List.set_cons_succ]
  refine wp_region_held_drew (S := fun w' => Mem w0 w' (Ent.blk bz ZT 92 :: Ent.blk bk (keyC k) 29 :: [])) (by kernel_rfl) (HM.out.drew.two) (fun hS => ?_)
  replace HM := Lib.hid HM.out.drew
  replace HB := HM.out.below
  refine tk 0 59 ?_
  refine tk 1 60 ?_
  refine tk 2 61 ?_
  refine tk 3 62 ?_
  refine tk 4 63 ?_
  refine tk 5 64 ?_
  refine tk 6 65 ?_
  refine tk 7 66 ?_
  refine tk 8 67 ?_
  refine tk 9 68 ?_
  refine tk 10 69 ?_
  refine tk 11 70 ?_
  refine tk 12 71 ?_
  refine tk 13 72 ?_
  refine tk 14 73 ?_
  refine tk 15 74 ?_
  refine tk 16 75 ?_
  refine tk 17 76 ?_
  refine tk 18 77 ?_
  refine tk 19 78 ?_
  refine tk 20 79 ?_
  refine tk 21 80 ?_
  refine tk 22 81 ?_
  refine tk 23 82 ?_
  refine tk 24 83 ?_
  refine tk 25 84 ?_
  refine tk 26 85 ?_
  refine tk 27 86 ?_
  refine tk 28 87 ?_
  refine tk 29 88 ?_
  refine tk 30 89 ?_
  refine tk 31 90 ?_
  refine tkv 32 91 _ rfl (yields_own rfl rfl (fun _ h => h) (by (first | ((repeat (first | with_reducible exact List.Mem.head _ | with_reducible apply List.Mem.tail)); done) | ((repeat (first | exact List.Mem.head _ | apply List.Mem.tail)); done))) Try.underlying29 rfl HC.out.1 (by kernel_rfl)) ?_
  refine tkv 34 93 _ rfl (yields_own rfl rfl (fun _ h => h) (by (first | ((repeat (first | with_reducible exact List.Mem.head _ | with_reducible apply List.Mem.tail)); done) | ((repeat (first | exact List.Mem.head _ | apply List.Mem.tail)); done))) Try.underlying29 rfl HC.out.1 (by kernel_rfl)) ?_
  refine rone 33 rfl fun K' hK => ?_
  go_simp
  refine (drop_no (no_nil _) k).mono ?_
  rintro e w ⟨rfl, hb⟩
  replace HM := Lib.hid (HM.out.call hb)
  replace HB := HM.out.below
  clear hb
  refine hK.out _ _ (HM.out.two) (fun hS2 => ?_)
  clear hS hK
  have hS := hS2
  clear hS2
  try simp only [Act.put, List.setIfInBounds_toArray, List.set_cons_zero, List.set_cons_succ]
  refine rone 35 rfl fun K' hK => ?_
  go_simp
  refine (drop_no (no_zero HM.out (by (first | ((repeat (first | with_reducible exact List.Mem.head _ | with_reducible apply List.Mem.tail)); done) | ((repeat (first | exact List.Mem.head _ | apply List.Mem.tail)); done)))) k).mono ?_
  rintro e w ⟨rfl, hb⟩
  replace HM := Lib.hid (HM.out.call hb)
  replace HB := HM.out.below
  clear hb
  refine hK.out _ _ (HM.out.two) (fun hS2 => ?_)
  clear hS hK
  have hS := hS2
  clear hS2
  try simp only [Act.put, List.setIfInBounds_toArray, List.set_cons_zero, List.set_cons_succ]
  refine tk 36 95 ?_
  refine tk 37 96 ?_
  refine tk 38 97 ?_
  refine tk 39 98 ?_
  refine tk 40 99 ?_
  refine rone 41 rfl fun K' hK => ?_
  go_simp
  refine (locals_no (no_nil _)).mono ?_
  rintro e w' ⟨rfl, rfl⟩
  refine hK.out _ _ (HM.out.two) (fun hS2 => ?_)
  clear hS hK
  have hS := hS2
  clear hS2
  try simp only [Act.put, List.setIfInBounds_toArray, List.set_cons_zero, List.set_cons_succ]
  refine tk 42 101 ?_
  refine rone 43 rfl fun K' hK => ?_
  go_simp
  refine (locals_no (no_zero HM.out (by (first | ((repeat (first | with_reducible exact List.Mem.head _ | with_reducible apply List.Mem.tail)); done) | ((repeat (first | exact List.Mem.head _ | apply List.Mem.tail)); done))))).mono ?_
  rintro e w' ⟨rfl, rfl⟩
  refine hK.out _ _ (HM.out.two) (fun hS2 => ?_)
  clear hS hK
  have hS := hS2
  clear hS2
  try simp only [Act.put, List.setIfInBounds_toArray, List.set_cons_zero, List.set_cons_succ]
  refine tk 44 103 ?_
  refine tk 45 104 ?_
  refine tk 46 105 ?_
  refine tk 47 106 ?_
  refine tk 48 107 ?_
  refine tk 49 108 ?_
  refine rone 50 rfl fun K' hK => ?_
  go_simp
  refine (len_no (no_nil _)).mono ?_
  rintro e w' ⟨rfl, rfl⟩
  refine hK.out _ _ (HM.out.two) (fun hS2 => ?_)
  clear hS hK
  have hS := hS2
  clear hS2
  try simp only [Act.put, List.setIfInBounds_toArray, List.set_cons_zero, List.set_cons_succ]
  refine rone 51 rfl fun K' hK => ?_
  go_simp
  refine (len_no (no_zero HM.out (by (first | ((repeat (first | with_reducible exact List.Mem.head _ | with_reducible apply List.Mem.tail)); done) | ((repeat (first | exact List.Mem.head _ | apply List.Mem.tail)); done))))).mono ?_
  rintro e w' ⟨rfl, rfl⟩
  refine hK.out _ _ (HM.out.two) (fun hS2 => ?_)
  clear hS hK
  have hS := hS2
  clear hS2
  try simp only [Act.put, List.setIfInBounds_toArray, List.set_cons_zero, List.set_cons_succ]
  refine tk 52 111 ?_
  refine tk 53 112 ?_
  refine tk 54 113 ?_
  refine tk 55 114 ?_
  refine rone 56 rfl fun K' hK => ?_
  go_simp
  refine (alive31 _).mono ?_
  rintro e w ⟨rfl, hb⟩
  replace HM := Lib.hid (HM.out.call hb)
  replace HB := HM.out.below
  clear hb
  refine hK.out _ _ (HM.out.two) (fun hS2 => ?_)
  clear hS hK
  have hS := hS2
  clear hS2
  try simp only [Act.put, List.setIfInBounds_toArray, List.set_cons_zero, List.set_cons_succ]
  refine tk 57 116 ?_
  refine tk 58 4 ?_
  refine wpAnyH_done (by kernel_rfl) ?_ _
  clear hS
  go_wp2_with fail
  go_ret
  exact ⟨rfl, HB⟩
end Go.Proofs.Ytapncdgeigbgmaa.Tb
