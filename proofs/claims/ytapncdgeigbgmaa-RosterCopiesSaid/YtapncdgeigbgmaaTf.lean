/- Package sessions: a session is installed. -/
import Derived.Test.YtapncdgeigbgmaaTe
set_option linter.unusedSimpArgs false
set_option linter.unusedVariables false
set_option linter.unusedSectionVars false
set_option maxRecDepth 100000
namespace Go.Proofs.Ytapncdgeigbgmaa.Tb
open Go.RowKit Go.Proofs.YtapncdgeigbgmaaW.PrintWords Go.Proofs.Ytapncdgeigbgmaa.Bs Go.Proofs.Ytapncdgeigbgmaa.Gm Go.Proofs.Ytapncdgeigbgmaa.Sf

theorem getK_put_same {κ ν : Type} [DecidableEq κ] {l : List (κ × ν)} {x : κ} {v : ν} : getK (putK l x v) x = some v := by
  unfold putK
  split
  · rename_i h
    obtain ⟨y, hy⟩ := Option.isSome_iff_exists.1 h
    unfold getK at hy ⊢
    obtain ⟨p, hp, _⟩ := Option.map_eq_some_iff.1 hy
    rw [List.find?_map]
    have e : ((fun p : κ × ν => decide (p.1 = x)) ∘ fun p => if p.1 = x then (x, v) else p) = fun p => decide (p.1 = x) := by
      funext q
      simp only [Function.comp]
      by_cases hq : q.1 = x <;> simp [hq]
    rw [e, hp]
    have := List.find?_some hp
    have h3 : p.1 = x := by simpa using this
    simp [h3]
  · rename_i h
    have hn : getK l x = none := by simpa using h
    unfold getK at hn ⊢
    rw [List.find?_append]
    have hf : l.find? (fun p => decide (p.1 = x)) = none := by simpa using hn
    simp [hf]
theorem lit1 (x : UInt32) : LitR RN 1 #[(0, .int .u32 (x.toNat : Int))] [x] := ⟨rfl, by decide, fun W => by kernel_rfl⟩
theorem install_twice {w0 w : World} {es : List Ent} {bt bb bo y : Nat} {l : List (UInt32 × Nat)} (k : Key) (lo : UInt32) (re n : Int) (HM : HMem w0 w (tabB bt bb bo :: mapE MB bb l :: es)) (hg : getK l lo = some y) :
    Calls Try.prog 22 #[.pointer (some ⟨bt, 0, none⟩), .agg (keyC k), .int .u32 (lo.toNat : Int), .int .u32 re, .int .u64 n] w fun e w' => e = .returned (.int .i64 13) ∧ HMem w0 w' (tabB bt bb bo :: mapE MB bb l :: es) := by
  have HC := Lib.hid (cells_key (keyC k) (keyC_size k) (keyC_one k))
  have HG := Lib.hid hg
  have HB := HM.out.below
  clear hg
  go_enter Try.func22, Try.ntmps22
  go_wp2_with (first | refine m_rd ?_ | (refine m_wr ?_; clear HM HB; intro w b HM HB; try clear b) | fail)
  refine (made_yes (tab_cells HM.out (by (first | ((repeat (first | with_reducible exact List.Mem.head _ | with_reducible apply List.Mem.tail)); done) | ((repeat (first | exact List.Mem.head _ | apply List.Mem.tail)); done)))).1).mono ?_
  rintro e w' ⟨rfl, rfl⟩
  have hc := (tab_cells HM.out (by (first | ((repeat (first | with_reducible exact List.Mem.head _ | with_reducible apply List.Mem.tail)); done) | ((repeat (first | exact List.Mem.head _ | apply List.Mem.tail)); done)))).1
  go_wp2_with (first | (refine m_rd ?_ HM (look_b1 (x := lo) rfl rfl rfl (by (first | ((repeat (first | with_reducible exact List.Mem.head _ | with_reducible apply List.Mem.tail)); done) | ((repeat (first | exact List.Mem.head _ | apply List.Mem.tail)); done))) HG.out) (wanted_none rfl)) | fail)
  go_ret
  exact ⟨rfl, Lib.hid HM.out.tail⟩
set_option maxHeartbeats 1000000 in
theorem install_first {w0 w : World} {es : List Ent} {bt bb bo : Nat} {l : List (UInt32 × Nat)} {o : List (Key × Value)} (k : Key) (lo : UInt32) (re nn : Int) (HM : HMem w0 w (tabB bt bb bo :: mapE MB bb l :: mapE MO bo o :: es)) (hg : getK l lo = none) (ho : getK o k = none) (hl : l.length < 32) :
    Calls Try.prog 22 #[.pointer (some ⟨bt, 0, none⟩), .agg (keyC k), .int .u32 (lo.toNat : Int), .int .u32 re, .int .u64 nn] w fun e w' => e = .returned (.int .i64 0) ∧ ∃ bs A' c', HMem w0 w' (tabB bt bb bo :: mapE MB bb (putK l lo bs) :: mapE MO bo (putK o k (.slice A' 1 c')) :: rowE RN (.slice A' 1 c') ([] ++ [lo]) :: sesE bs (keyC k) (lo.toNat : Int) re nn [] :: es) := by
  have HC := Lib.hid (cells_key (keyC k) (keyC_size k) (keyC_one k))
  have HG := Lib.hid hg
  have HO := Lib.hid ho
  have HB := HM.out.below
  have HL1 : Hid (1 * RN.bytes ≤ 140737488355328) := Lib.hid (by decide)
  have HN1 : Hid (([] : List UInt32).length + [lo].length = 1) := Lib.hid (rfl)
  have HV : Hid (((getK o k).map MO.ev).getD MO.z = .slice none 0 0) := Lib.hid (by rw [ho]; rfl)
  obtain ⟨N, hN⟩ : ∃ N, l.length = N := ⟨_, rfl⟩
  have hge : decide ((32 : Int) ≤ (N : Int)) = false := decide_eq_false (by omega)
  clear hg ho hl
  go_enter Try.func22, Try.ntmps22
  go_wp2_with (first | refine m_rd ?_ | (refine m_wr ?_; clear HM HB; intro w b HM HB; try clear b) | fail)
  refine (made_yes (tab_cells HM.out (by (first | ((repeat (first | with_reducible exact List.Mem.head _ | with_reducible apply List.Mem.tail)); done) | ((repeat (first | exact List.Mem.head _ | apply List.Mem.tail)); done)))).1).mono ?_
  rintro e w' ⟨rfl, rfl⟩
  have hc := (tab_cells HM.out (by (first | ((repeat (first | with_reducible exact List.Mem.head _ | with_reducible apply List.Mem.tail)); done) | ((repeat (first | exact List.Mem.head _ | apply List.Mem.tail)); done)))).1
  go_wp2_with (first | (refine m_rd ?_ HM (look_b0 (x := lo) rfl rfl rfl (by (first | ((repeat (first | with_reducible exact List.Mem.head _ | with_reducible apply List.Mem.tail)); done) | ((repeat (first | exact List.Mem.head _ | apply List.Mem.tail)); done))) HG.out) (wanted_none rfl)) | fail)
  clear hc
  try simp only [Act.put, List.setIfInBounds_toArray, List.set_cons_zero, List.set_cons_succ]
  refine wp_region_held_drew (S := fun w' => Mem w0 w' (Ent.blk b (keyC k) 29 :: tabB bt bb bo :: [])) (by kernel_rfl) (HM.out.drew.two) (fun hS => ?_)
  replace HM := Lib.hid HM.out.drew
  replace HB := HM.out.below
  refine tk 0 27 ?_
  refine tk 1 28 ?_
  refine tk 2 29 ?_
  refine tkv 3 30 (.map (some bo)) rfl (yields_cell rfl (by kernel_rfl) rfl (fun _ h => h) (by (first | ((repeat (first | with_reducible exact List.Mem.head _ | with_reducible apply List.Mem.tail)); done) | ((repeat (first | exact List.Mem.head _ | apply List.Mem.tail)); done))) rfl (by kernel_rfl)) ?_
  refine tkv 4 31 _ rfl (yields_own rfl rfl (fun _ h => h) (by (first | ((repeat (first | with_reducible exact List.Mem.head _ | with_reducible apply List.Mem.tail)); done) | ((repeat (first | exact List.Mem.head _ | apply List.Mem.tail)); done))) Try.underlying29 rfl HC.out.1 (by kernel_rfl)) ?_
  refine rone 5 rfl fun K' hK => ?_
  refine s_rd ?_ HM (look_o0 (k := k) rfl rfl rfl (by (first | ((repeat (first | with_reducible exact List.Mem.head _ | with_reducible apply List.Mem.tail)); done) | ((repeat (first | exact List.Mem.head _ | apply List.Mem.tail)); done))) HO.out) (by kernel_rfl)
  refine hK.out _ _ (HM.out.two) (fun hS2 => ?_)
  clear hS hK
  have hS := hS2
  clear hS2
  try simp only [Act.put, List.setIfInBounds_toArray, List.set_cons_zero, List.set_cons_succ]
  refine tk 6 13 ?_
  refine wpAnyH_done (by kernel_rfl) ?_ _
  clear hS
  have hc := (tab_cells HM.out (by (first | ((repeat (first | with_reducible exact List.Mem.head _ | with_reducible apply List.Mem.tail)); done) | ((repeat (first | exact List.Mem.head _ | apply List.Mem.tail)); done)))).1
  go_wp2_with (first | (refine m_rd ?_ HM (Rd.mlen LB rfl rfl (by (first | ((repeat (first | with_reducible exact List.Mem.head _ | with_reducible apply List.Mem.tail)); done) | ((repeat (first | exact List.Mem.head _ | apply List.Mem.tail)); done))) hN) (wanted_none rfl)) | fail)
  replace HM : HMem w0 _ (Ent.blk b (keyC k) 29 :: tabB bt bb bo :: mapE MB bb l :: mapE MO bo o :: rowE RN (.slice none 0 0) [] :: es) := Lib.hid ((HM.out.nilR RN).perm (by ((repeat (first | exact List.Perm.refl _ | (refine List.Perm.trans (Del.perm (by (first | ((repeat (first | with_reducible exact Del.head _ | with_reducible apply Del.tail)); done) | ((repeat (first | exact Del.head _ | apply Del.tail)); done)))) (List.Perm.cons _ ?_)))); done)))
  replace HB := HM.out.below
  clear hN hge
  clear hc
  go_wp2_with fail
  try simp only [Act.put, List.setIfInBounds_toArray, List.set_cons_zero, List.set_cons_succ]
  refine wp_region_held_drew (S := fun w' => Mem w0 w' (Ent.blk b (keyC k) 29 :: tabB bt bb bo :: [])) (by kernel_rfl) (HM.out.drew.two) (fun hS => ?_)
  replace HM := Lib.hid HM.out.drew
  replace HB := HM.out.below
  refine tk 0 49 ?_
  refine tk 1 50 ?_
  refine tk 2 51 ?_
  refine tkv 3 52 (.map (some bb)) rfl (yields_cell rfl (by kernel_rfl) rfl (fun _ h => h) (by (first | ((repeat (first | with_reducible exact List.Mem.head _ | with_reducible apply List.Mem.tail)); done) | ((repeat (first | exact List.Mem.head _ | apply List.Mem.tail)); done))) rfl (by kernel_rfl)) ?_
  refine tk 4 53 ?_
  refine tkv 5 54 _ rfl (yields_own rfl rfl (fun _ h => h) (by (first | ((repeat (first | with_reducible exact List.Mem.head _ | with_reducible apply List.Mem.tail)); done) | ((repeat (first | exact List.Mem.head _ | apply List.Mem.tail)); done))) Try.underlying29 rfl HC.out.1 (by kernel_rfl)) ?_
  refine tk 6 55 ?_
  refine tk 7 56 ?_
  refine tk 8 57 ?_
  refine rone 9 rfl fun K' hK => ?_
  go_simp
  refine (new_any (keyC k) (lo.toNat : Int) re nn _ (keyC_size k) (keyC_one k)).mono ?_
  rintro e w ⟨bs, rfl, hf, hp, hb⟩
  replace HM := Lib.hid (Mem.newSes HM.out hb hf hp)
  replace HB := HM.out.below
  clear hf hp hb
  refine hK.out _ _ (HM.out.tail.two) (fun hS2 => ?_)
  clear hS hK
  have hS := hS2
  clear hS2
  try simp only [Act.put, List.setIfInBounds_toArray, List.set_cons_zero, List.set_cons_succ]
  refine rone 10 rfl fun K' hK => ?_
  refine s_wr ?_ HM (Wr.mput LB (x := lo) (y := bs) rfl rfl rfl rfl (by (first | ((repeat (first | with_reducible exact Upd.head _ | with_reducible apply Upd.tail)); done) | ((repeat (first | exact Upd.head _ | apply Upd.tail)); done)))) (by kernel_rfl)
  clear HM HB
  intro w _ HM HB
  refine hK.out _ _ (HM.out.tail.two) (fun hS2 => ?_)
  clear hS hK
  have hS := hS2
  clear hS2
  try simp only [Act.put, List.setIfInBounds_toArray, List.set_cons_zero, List.set_cons_succ]
  refine wpAnyH_done (by kernel_rfl) ?_ _
  clear hS
  go_wp2_with fail
  try simp only [Act.put, List.setIfInBounds_toArray, List.set_cons_zero, List.set_cons_succ]
  refine wp_region_held_drew (S := fun w' => Mem w0 w' (Ent.blk b (keyC k) 29 :: tabB bt bb bo :: [])) (by kernel_rfl) (HM.out.drew.tail.two) (fun hS => ?_)
  replace HM := Lib.hid HM.out.drew
  replace HB := HM.out.below
  refine tk 0 59 ?_
  refine tk 1 60 ?_
  refine tk 2 61 ?_
  refine tkv 3 62 (.map (some bo)) rfl (yields_cell rfl (by kernel_rfl) rfl (fun _ h => h) (by (first | ((repeat (first | with_reducible exact List.Mem.head _ | with_reducible apply List.Mem.tail)); done) | ((repeat (first | exact List.Mem.head _ | apply List.Mem.tail)); done))) rfl (by kernel_rfl)) ?_
  refine tkv 4 63 _ rfl (yields_own rfl rfl (fun _ h => h) (by (first | ((repeat (first | with_reducible exact List.Mem.head _ | with_reducible apply List.Mem.tail)); done) | ((repeat (first | exact List.Mem.head _ | apply List.Mem.tail)); done))) Try.underlying29 rfl HC.out.1 (by kernel_rfl)) ?_
  refine tk 5 65 ?_
  refine rone 6 rfl fun K' hK => ?_
  refine s_wr ?_ HM (Wr.litR LN rfl (lit1 lo) rfl) (by kernel_rfl)
  clear HM HB
  intro w bl HM HB
  refine hK.out _ _ (HM.out.tail.tail.two) (fun hS2 => ?_)
  clear hS hK
  have hS := hS2
  clear hS2
  try simp only [Act.put, List.setIfInBounds_toArray, List.set_cons_zero, List.set_cons_succ]
  refine rone 7 rfl fun K' hK => ?_
  refine s_wr ?_ HM (Wr.ment LO (x := k) rfl rfl rfl (fun st => by (first | ((repeat (first | with_reducible exact Upd.head _ | with_reducible apply Upd.tail)); done) | ((repeat (first | exact Upd.head _ | apply Upd.tail)); done)))) (by kernel_rfl)
  clear HM HB
  intro w st HM HB
  rw [HV.out]
  refine hK.out _ _ (HM.out.tail.tail.two) (fun hS2 => ?_)
  clear hS hK
  have hS := hS2
  clear hS2
  try simp only [Act.put, List.setIfInBounds_toArray, List.set_cons_zero, List.set_cons_succ]
  refine tk 8 64 ?_
  refine tk 10 69 ?_
  refine rone 9 rfl fun K' hK => ?_
  refine s_wx ?_ HM (Wx.app LN rfl (by first | (go_simp; with_reducible rfl) | rfl) (by first | (go_simp; with_reducible rfl) | rfl) (by (first | ((repeat (first | with_reducible exact Del.head _ | with_reducible apply Del.tail)); done) | ((repeat (first | exact Del.head _ | apply Del.tail)); done))) (by intro w hm; first | with_reducible exact HR1.out.below hm.below | with_reducible exact HR2.out.below hm.below | exact hm.rw_ LN (by (first | ((repeat (first | with_reducible exact List.Mem.head _ | with_reducible apply List.Mem.tail)); done) | ((repeat (first | exact List.Mem.head _ | apply List.Mem.tail)); done))) | exact HR1.out.below hm.below | exact HR2.out.below hm.below) (by first | exact HN1.out | exact HN2.out | exact HN3.out | exact HN4.out) (by first | exact HL1.out | exact HL2.out)) (by kernel_rfl)
  clear HM HB
  rintro w ⟨Aq, cq⟩ HM HB
  refine hK.out _ _ (HM.out.tail.tail.tail.two) (fun hS2 => ?_)
  clear hS hK
  have hS := hS2
  clear hS2
  try simp only [Act.put, List.setIfInBounds_toArray, List.set_cons_zero, List.set_cons_succ]
  refine rone 11 rfl fun K' hK => ?_
  refine s_wr ?_ HM (Wr.mst (x := k) (y := Value.slice Aq 1 cq) rfl rfl rfl rfl (by (first | ((repeat (first | with_reducible exact Upd.head _ | with_reducible apply Upd.tail)); done) | ((repeat (first | exact Upd.head _ | apply Upd.tail)); done)))) (by kernel_rfl)
  clear HM HB
  intro w _ HM HB
  refine hK.out _ _ (HM.out.tail.tail.tail.two) (fun hS2 => ?_)
  clear hS hK
  have hS := hS2
  clear hS2
  try simp only [Act.put, List.setIfInBounds_toArray, List.set_cons_zero, List.set_cons_succ]
  refine wpAnyH_done (by kernel_rfl) ?_ _
  clear hS
  go_wp2_with fail
  go_ret
  exact ⟨rfl, bs, Aq, cq, Lib.hid ((HM.out.perm (es' := Ent.blk b (keyC k) 29 :: rowE RN (.slice (some ⟨bl, 0, none⟩) 1 1) [lo] :: tabB bt bb bo :: mapE MB bb (putK l lo bs) :: mapE MO bo (putK o k (.slice Aq 1 cq)) :: rowE RN (.slice Aq 1 cq) ([] ++ [lo]) :: sesE bs (keyC k) (lo.toNat : Int) re nn [] :: es) (by ((repeat (first | exact List.Perm.refl _ | (refine List.Perm.trans (Del.perm (by (first | ((repeat (first | with_reducible exact Del.head _ | with_reducible apply Del.tail)); done) | ((repeat (first | exact Del.head _ | apply Del.tail)); done)))) (List.Perm.cons _ ?_)))); done))).tail.tail)⟩
theorem install_full0 {w0 w : World} {es : List Ent} {bt bb bo c : Nat} {A : Option Addr} {l : List (UInt32 × Nat)} {o : List (Key × Value)} (k : Key) (lo : UInt32) (re nn : Int) (HM : HMem w0 w (tabB bt bb bo :: mapE MB bb l :: mapE MO bo o :: es)) (hg : getK l lo = none) (ho : getK o k = none) (hl : 32 ≤ l.length) :
    Calls Try.prog 22 #[.pointer (some ⟨bt, 0, none⟩), .agg (keyC k), .int .u32 (lo.toNat : Int), .int .u32 re, .int .u64 nn] w fun e w' => e = .returned (.int .i64 7) ∧ HMem w0 w' (tabB bt bb bo :: mapE MB bb l :: mapE MO bo o :: es) := by
  have HC := Lib.hid (cells_key (keyC k) (keyC_size k) (keyC_one k))
  have HG := Lib.hid hg
  have HO := Lib.hid ho
  have HB := HM.out.below
  obtain ⟨N, hN⟩ : ∃ N, l.length = N := ⟨_, rfl⟩
  have hge : decide ((32 : Int) ≤ (N : Int)) = true := decide_eq_true (by omega)
  clear hg ho hl
  go_enter Try.func22, Try.ntmps22
  go_wp2_with (first | refine m_rd ?_ | (refine m_wr ?_; clear HM HB; intro w b HM HB; try clear b) | fail)
  refine (made_yes (tab_cells HM.out (by (first | ((repeat (first | with_reducible exact List.Mem.head _ | with_reducible apply List.Mem.tail)); done) | ((repeat (first | exact List.Mem.head _ | apply List.Mem.tail)); done)))).1).mono ?_
  rintro e w' ⟨rfl, rfl⟩
  have hc := (tab_cells HM.out (by (first | ((repeat (first | with_reducible exact List.Mem.head _ | with_reducible apply List.Mem.tail)); done) | ((repeat (first | exact List.Mem.head _ | apply List.Mem.tail)); done)))).1
  go_wp2_with (first | (refine m_rd ?_ HM (look_b0 (x := lo) rfl rfl rfl (by (first | ((repeat (first | with_reducible exact List.Mem.head _ | with_reducible apply List.Mem.tail)); done) | ((repeat (first | exact List.Mem.head _ | apply List.Mem.tail)); done))) HG.out) (wanted_none rfl)) | fail)
  clear hc
  try simp only [Act.put, List.setIfInBounds_toArray, List.set_cons_zero, List.set_cons_succ]
  refine wp_region_held_drew (S := fun w' => Mem w0 w' (Ent.blk b (keyC k) 29 :: tabB bt bb bo :: [])) (by kernel_rfl) (HM.out.drew.two) (fun hS => ?_)
  replace HM := Lib.hid HM.out.drew
  replace HB := HM.out.below
  refine tk 0 27 ?_
  refine tk 1 28 ?_
  refine tk 2 29 ?_
  refine tkv 3 30 (.map (some bo)) rfl (yields_cell rfl (by kernel_rfl) rfl (fun _ h => h) (by (first | ((repeat (first | with_reducible exact List.Mem.head _ | with_reducible apply List.Mem.tail)); done) | ((repeat (first | exact List.Mem.head _ | apply List.Mem.tail)); done))) rfl (by kernel_rfl)) ?_
  refine tkv 4 31 _ rfl (yields_own rfl rfl (fun _ h => h) (by (first | ((repeat (first | with_reducible exact List.Mem.head _ | with_reducible apply List.Mem.tail)); done) | ((repeat (first | exact List.Mem.head _ | apply List.Mem.tail)); done))) Try.underlying29 rfl HC.out.1 (by kernel_rfl)) ?_
  refine rone 5 rfl fun K' hK => ?_
  refine s_rd ?_ HM (look_o0 (k := k) rfl rfl rfl (by (first | ((repeat (first | with_reducible exact List.Mem.head _ | with_reducible apply List.Mem.tail)); done) | ((repeat (first | exact List.Mem.head _ | apply List.Mem.tail)); done))) HO.out) (by kernel_rfl)
  refine hK.out _ _ (HM.out.two) (fun hS2 => ?_)
  clear hS hK
  have hS := hS2
  clear hS2
  try simp only [Act.put, List.setIfInBounds_toArray, List.set_cons_zero, List.set_cons_succ]
  refine tk 6 13 ?_
  refine wpAnyH_done (by kernel_rfl) ?_ _
  clear hS
  have hc := (tab_cells HM.out (by (first | ((repeat (first | with_reducible exact List.Mem.head _ | with_reducible apply List.Mem.tail)); done) | ((repeat (first | exact List.Mem.head _ | apply List.Mem.tail)); done)))).1
  go_wp2_with (first | (refine m_rd ?_ HM (Rd.mlen LB rfl rfl (by (first | ((repeat (first | with_reducible exact List.Mem.head _ | with_reducible apply List.Mem.tail)); done) | ((repeat (first | exact List.Mem.head _ | apply List.Mem.tail)); done))) hN) (wanted_none rfl)) | fail)
  go_ret
  exact ⟨rfl, Lib.hid HM.out.tail⟩
theorem install_full1 {w0 w : World} {es : List Ent} {bt bb bo c : Nat} {A : Option Addr} {l : List (UInt32 × Nat)} {o : List (Key × Value)} (k : Key) (lo : UInt32) (re nn : Int) (HM : HMem w0 w (tabB bt bb bo :: mapE MB bb l :: mapE MO bo o :: es)) (hg : getK l lo = none) (ho : getK o k = some (.slice A 1 c)) (hl : 32 ≤ l.length) :
    Calls Try.prog 22 #[.pointer (some ⟨bt, 0, none⟩), .agg (keyC k), .int .u32 (lo.toNat : Int), .int .u32 re, .int .u64 nn] w fun e w' => e = .returned (.int .i64 7) ∧ HMem w0 w' (tabB bt bb bo :: mapE MB bb l :: mapE MO bo o :: es) := by
  have HC := Lib.hid (cells_key (keyC k) (keyC_size k) (keyC_one k))
  have HG := Lib.hid hg
  have HO := Lib.hid ho
  have HB := HM.out.below
  obtain ⟨N, hN⟩ : ∃ N, l.length = N := ⟨_, rfl⟩
  have hge : decide ((32 : Int) ≤ (N : Int)) = true := decide_eq_true (by omega)
  clear hg ho hl
  go_enter Try.func22, Try.ntmps22
  go_wp2_with (first | refine m_rd ?_ | (refine m_wr ?_; clear HM HB; intro w b HM HB; try clear b) | fail)
  refine (made_yes (tab_cells HM.out (by (first | ((repeat (first | with_reducible exact List.Mem.head _ | with_reducible apply List.Mem.tail)); done) | ((repeat (first | exact List.Mem.head _ | apply List.Mem.tail)); done)))).1).mono ?_
  rintro e w' ⟨rfl, rfl⟩
  have hc := (tab_cells HM.out (by (first | ((repeat (first | with_reducible exact List.Mem.head _ | with_reducible apply List.Mem.tail)); done) | ((repeat (first | exact List.Mem.head _ | apply List.Mem.tail)); done)))).1
  go_wp2_with (first | (refine m_rd ?_ HM (look_b0 (x := lo) rfl rfl rfl (by (first | ((repeat (first | with_reducible exact List.Mem.head _ | with_reducible apply List.Mem.tail)); done) | ((repeat (first | exact List.Mem.head _ | apply List.Mem.tail)); done))) HG.out) (wanted_none rfl)) | fail)
  clear hc
  try simp only [Act.put, List.setIfInBounds_toArray, List.set_cons_zero, List.set_cons_succ]
  refine wp_region_held_drew (S := fun w' => Mem w0 w' (Ent.blk b (keyC k) 29 :: tabB bt bb bo :: [])) (by kernel_rfl) (HM.out.drew.two) (fun hS => ?_)
  replace HM := Lib.hid HM.out.drew
  replace HB := HM.out.below
  refine tk 0 27 ?_
  refine tk 1 28 ?_
  refine tk 2 29 ?_
  refine tkv 3 30 (.map (some bo)) rfl (yields_cell rfl (by kernel_rfl) rfl (fun _ h => h) (by (first | ((repeat (first | with_reducible exact List.Mem.head _ | with_reducible apply List.Mem.tail)); done) | ((repeat (first | exact List.Mem.head _ | apply List.Mem.tail)); done))) rfl (by kernel_rfl)) ?_
  refine tkv 4 31 _ rfl (yields_own rfl rfl (fun _ h => h) (by (first | ((repeat (first | with_reducible exact List.Mem.head _ | with_reducible apply List.Mem.tail)); done) | ((repeat (first | exact List.Mem.head _ | apply List.Mem.tail)); done))) Try.underlying29 rfl HC.out.1 (by kernel_rfl)) ?_
  refine rone 5 rfl fun K' hK => ?_
  refine s_rd ?_ HM (look_o1 (k := k) rfl rfl rfl (by (first | ((repeat (first | with_reducible exact List.Mem.head _ | with_reducible apply List.Mem.tail)); done) | ((repeat (first | exact List.Mem.head _ | apply List.Mem.tail)); done))) HO.out) (by kernel_rfl)
  refine hK.out _ _ (HM.out.two) (fun hS2 => ?_)
  clear hS hK
  have hS := hS2
  clear hS2
  try simp only [Act.put, List.setIfInBounds_toArray, List.set_cons_zero, List.set_cons_succ]
  refine tk 6 13 ?_
  refine wpAnyH_done (by kernel_rfl) ?_ _
  clear hS
  have hc := (tab_cells HM.out (by (first | ((repeat (first | with_reducible exact List.Mem.head _ | with_reducible apply List.Mem.tail)); done) | ((repeat (first | exact List.Mem.head _ | apply List.Mem.tail)); done)))).1
  go_wp2_with (first | (refine m_rd ?_ HM (Rd.mlen LB rfl rfl (by (first | ((repeat (first | with_reducible exact List.Mem.head _ | with_reducible apply List.Mem.tail)); done) | ((repeat (first | exact List.Mem.head _ | apply List.Mem.tail)); done))) hN) (wanted_none rfl)) | fail)
  go_ret
  exact ⟨rfl, Lib.hid HM.out.tail⟩
set_option maxHeartbeats 1000000 in
theorem install_second {w0 w : World} {es : List Ent} {bt bb bo c : Nat} {A : Option Addr} {xs : List UInt32} {l : List (UInt32 × Nat)} {o : List (Key × Value)} (k : Key) (lo : UInt32) (re nn : Int) (HM : HMem w0 w (tabB bt bb bo :: mapE MB bb l :: mapE MO bo o :: rowE RN (.slice A 1 c) xs :: es)) (hg : getK l lo = none) (ho : getK o k = some (.slice A 1 c)) (hx : xs.length = 1) (hl : l.length < 32) :
    Calls Try.prog 22 #[.pointer (some ⟨bt, 0, none⟩), .agg (keyC k), .int .u32 (lo.toNat : Int), .int .u32 re, .int .u64 nn] w fun e w' => e = .returned (.int .i64 0) ∧ ∃ bs A' c', HMem w0 w' (tabB bt bb bo :: mapE MB bb (putK l lo bs) :: mapE MO bo (putK o k (.slice A' 2 c')) :: rowE RN (.slice A' 2 c') (xs ++ [lo]) :: sesE bs (keyC k) (lo.toNat : Int) re nn [] :: es) := by
  have HC := Lib.hid (cells_key (keyC k) (keyC_size k) (keyC_one k))
  have HG := Lib.hid hg
  have HO := Lib.hid ho
  have HB := HM.out.below
  have HL1 : Hid (2 * RN.bytes ≤ 140737488355328) := Lib.hid (by decide)
  have HN1 : Hid (xs.length + [lo].length = 2) := Lib.hid (by rw [hx]; rfl)
  have HV : Hid (((getK o k).map MO.ev).getD MO.z = .slice A 1 c) := Lib.hid (by rw [ho]; rfl)
  obtain ⟨N, hN⟩ : ∃ N, l.length = N := ⟨_, rfl⟩
  have hge : decide ((32 : Int) ≤ (N : Int)) = false := decide_eq_false (by omega)
  clear hg ho hl hx
  go_enter Try.func22, Try.ntmps22
  go_wp2_with (first | refine m_rd ?_ | (refine m_wr ?_; clear HM HB; intro w b HM HB; try clear b) | fail)
  refine (made_yes (tab_cells HM.out (by (first | ((repeat (first | with_reducible exact List.Mem.head _ | with_reducible apply List.Mem.tail)); done) | ((repeat (first | exact List.Mem.head _ | apply List.Mem.tail)); done)))).1).mono ?_
  rintro e w' ⟨rfl, rfl⟩
  have hc := (tab_cells HM.out (by (first | ((repeat (first | with_reducible exact List.Mem.head _ | with_reducible apply List.Mem.tail)); done) | ((repeat (first | exact List.Mem.head _ | apply List.Mem.tail)); done)))).1
  go_wp2_with (first | (refine m_rd ?_ HM (look_b0 (x := lo) rfl rfl rfl (by (first | ((repeat (first | with_reducible exact List.Mem.head _ | with_reducible apply List.Mem.tail)); done) | ((repeat (first | exact List.Mem.head _ | apply List.Mem.tail)); done))) HG.out) (wanted_none rfl)) | fail)
  clear hc
  try simp only [Act.put, List.setIfInBounds_toArray, List.set_cons_zero, List.set_cons_succ]
  refine wp_region_held_drew (S := fun w' => Mem w0 w' (Ent.blk b (keyC k) 29 :: tabB bt bb bo :: [])) (by kernel_rfl) (HM.out.drew.two) (fun hS => ?_)
  replace HM := Lib.hid HM.out.drew
  replace HB := HM.out.below
  refine tk 0 27 ?_
  refine tk 1 28 ?_
  refine tk 2 29 ?_
  refine tkv 3 30 (.map (some bo)) rfl (yields_cell rfl (by kernel_rfl) rfl (fun _ h => h) (by (first | ((repeat (first | with_reducible exact List.Mem.head _ | with_reducible apply List.Mem.tail)); done) | ((repeat (first | exact List.Mem.head _ | apply List.Mem.tail)); done))) rfl (by kernel_rfl)) ?_
  refine tkv 4 31 _ rfl (yields_own rfl rfl (fun _ h => h) (by (first | ((repeat (first | with_reducible exact List.Mem.head _ | with_reducible apply List.Mem.tail)); done) | ((repeat (first | exact List.Mem.head _ | apply List.Mem.tail)); done))) Try.underlying29 rfl HC.out.1 (by kernel_rfl)) ?_
  refine rone 5 rfl fun K' hK => ?_
  refine s_rd ?_ HM (look_o1 (k := k) rfl rfl rfl (by (first | ((repeat (first | with_reducible exact List.Mem.head _ | with_reducible apply List.Mem.tail)); done) | ((repeat (first | exact List.Mem.head _ | apply List.Mem.tail)); done))) HO.out) (by kernel_rfl)
  refine hK.out _ _ (HM.out.two) (fun hS2 => ?_)
  clear hS hK
  have hS := hS2
  clear hS2
  try simp only [Act.put, List.setIfInBounds_toArray, List.set_cons_zero, List.set_cons_succ]
  refine tk 6 13 ?_
  refine wpAnyH_done (by kernel_rfl) ?_ _
  clear hS
  have hc := (tab_cells HM.out (by (first | ((repeat (first | with_reducible exact List.Mem.head _ | with_reducible apply List.Mem.tail)); done) | ((repeat (first | exact List.Mem.head _ | apply List.Mem.tail)); done)))).1
  go_wp2_with (first | (refine m_rd ?_ HM (Rd.mlen LB rfl rfl (by (first | ((repeat (first | with_reducible exact List.Mem.head _ | with_reducible apply List.Mem.tail)); done) | ((repeat (first | exact List.Mem.head _ | apply List.Mem.tail)); done))) hN) (wanted_none rfl)) | fail)
  clear hN hge
  clear hc
  go_wp2_with fail
  try simp only [Act.put, List.setIfInBounds_toArray, List.set_cons_zero, List.set_cons_succ]
  refine wp_region_held_drew (S := fun w' => Mem w0 w' (Ent.blk b (keyC k) 29 :: tabB bt bb bo :: [])) (by kernel_rfl) (HM.out.drew.two) (fun hS => ?_)
  replace HM := Lib.hid HM.out.drew
  replace HB := HM.out.below
  refine tk 0 49 ?_
  refine tk 1 50 ?_
  refine tk 2 51 ?_
  refine tkv 3 52 (.map (some bb)) rfl (yields_cell rfl (by kernel_rfl) rfl (fun _ h => h) (by (first | ((repeat (first | with_reducible exact List.Mem.head _ | with_reducible apply List.Mem.tail)); done) | ((repeat (first | exact List.Mem.head _ | apply List.Mem.tail)); done))) rfl (by kernel_rfl)) ?_
  refine tk 4 53 ?_
  refine tkv 5 54 _ rfl (yields_own rfl rfl (fun _ h => h) (by (first | ((repeat (first | with_reducible exact List.Mem.head _ | with_reducible apply List.Mem.tail)); done) | ((repeat (first | exact List.Mem.head _ | apply List.Mem.tail)); done))) Try.underlying29 rfl HC.out.1 (by kernel_rfl)) ?_
  refine tk 6 55 ?_
  refine tk 7 56 ?_
  refine tk 8 57 ?_
  refine rone 9 rfl fun K' hK => ?_
  go_simp
  refine (new_any (keyC k) (lo.toNat : Int) re nn _ (keyC_size k) (keyC_one k)).mono ?_
  rintro e w ⟨bs, rfl, hf, hp, hb⟩
  replace HM := Lib.hid (Mem.newSes HM.out hb hf hp)
  replace HB := HM.out.below
  clear hf hp hb
  refine hK.out _ _ (HM.out.tail.two) (fun hS2 => ?_)
  clear hS hK
  have hS := hS2
  clear hS2
  try simp only [Act.put, List.setIfInBounds_toArray, List.set_cons_zero, List.set_cons_succ]
  refine rone 10 rfl fun K' hK => ?_
  refine s_wr ?_ HM (Wr.mput LB (x := lo) (y := bs) rfl rfl rfl rfl (by (first | ((repeat (first | with_reducible exact Upd.head _ | with_reducible apply Upd.tail)); done) | ((repeat (first | exact Upd.head _ | apply Upd.tail)); done)))) (by kernel_rfl)
  clear HM HB
  intro w _ HM HB
  refine hK.out _ _ (HM.out.tail.two) (fun hS2 => ?_)
  clear hS hK
  have hS := hS2
  clear hS2
  try simp only [Act.put, List.setIfInBounds_toArray, List.set_cons_zero, List.set_cons_succ]
  refine wpAnyH_done (by kernel_rfl) ?_ _
  clear hS
  go_wp2_with fail
  try simp only [Act.put, List.setIfInBounds_toArray, List.set_cons_zero, List.set_cons_succ]
  refine wp_region_held_drew (S := fun w' => Mem w0 w' (Ent.blk b (keyC k) 29 :: tabB bt bb bo :: [])) (by kernel_rfl) (HM.out.drew.tail.two) (fun hS => ?_)
  replace HM := Lib.hid HM.out.drew
  replace HB := HM.out.below
  refine tk 0 59 ?_
  refine tk 1 60 ?_
  refine tk 2 61 ?_
  refine tkv 3 62 (.map (some bo)) rfl (yields_cell rfl (by kernel_rfl) rfl (fun _ h => h) (by (first | ((repeat (first | with_reducible exact List.Mem.head _ | with_reducible apply List.Mem.tail)); done) | ((repeat (first | exact List.Mem.head _ | apply List.Mem.tail)); done))) rfl (by kernel_rfl)) ?_
  refine tkv 4 63 _ rfl (yields_own rfl rfl (fun _ h => h) (by (first | ((repeat (first | with_reducible exact List.Mem.head _ | with_reducible apply List.Mem.tail)); done) | ((repeat (first | exact List.Mem.head _ | apply List.Mem.tail)); done))) Try.underlying29 rfl HC.out.1 (by kernel_rfl)) ?_
  refine tk 5 65 ?_
  refine rone 6 rfl fun K' hK => ?_
  refine s_wr ?_ HM (Wr.litR LN rfl (lit1 lo) rfl) (by kernel_rfl)
  clear HM HB
  intro w bl HM HB
  refine hK.out _ _ (HM.out.tail.tail.two) (fun hS2 => ?_)
  clear hS hK
  have hS := hS2
  clear hS2
  try simp only [Act.put, List.setIfInBounds_toArray, List.set_cons_zero, List.set_cons_succ]
  refine rone 7 rfl fun K' hK => ?_
  refine s_wr ?_ HM (Wr.ment LO (x := k) rfl rfl rfl (fun st => by (first | ((repeat (first | with_reducible exact Upd.head _ | with_reducible apply Upd.tail)); done) | ((repeat (first | exact Upd.head _ | apply Upd.tail)); done)))) (by kernel_rfl)
  clear HM HB
  intro w st HM HB
  rw [HV.out]
  refine hK.out _ _ (HM.out.tail.tail.two) (fun hS2 => ?_)
  clear hS hK
  have hS := hS2
  clear hS2
  try simp only [Act.put, List.setIfInBounds_toArray, List.set_cons_zero, List.set_cons_succ]
  refine tk 8 64 ?_
  refine tk 10 69 ?_
  refine rone 9 rfl fun K' hK => ?_
  refine s_wx ?_ HM (Wx.app LN rfl (by first | (go_simp; with_reducible rfl) | rfl) (by first | (go_simp; with_reducible rfl) | rfl) (by (first | ((repeat (first | with_reducible exact Del.head _ | with_reducible apply Del.tail)); done) | ((repeat (first | exact Del.head _ | apply Del.tail)); done))) (by intro w hm; first | with_reducible exact HR1.out.below hm.below | with_reducible exact HR2.out.below hm.below | exact hm.rw_ LN (by (first | ((repeat (first | with_reducible exact List.Mem.head _ | with_reducible apply List.Mem.tail)); done) | ((repeat (first | exact List.Mem.head _ | apply List.Mem.tail)); done))) | exact HR1.out.below hm.below | exact HR2.out.below hm.below) (by first | exact HN1.out | exact HN2.out | exact HN3.out | exact HN4.out) (by first | exact HL1.out | exact HL2.out)) (by kernel_rfl)
  clear HM HB
  rintro w ⟨Aq, cq⟩ HM HB
  refine hK.out _ _ (HM.out.tail.tail.tail.two) (fun hS2 => ?_)
  clear hS hK
  have hS := hS2
  clear hS2
  try simp only [Act.put, List.setIfInBounds_toArray, List.set_cons_zero, List.set_cons_succ]
  refine rone 11 rfl fun K' hK => ?_
  refine s_wr ?_ HM (Wr.mst (x := k) (y := Value.slice Aq 2 cq) rfl rfl rfl rfl (by (first | ((repeat (first | with_reducible exact Upd.head _ | with_reducible apply Upd.tail)); done) | ((repeat (first | exact Upd.head _ | apply Upd.tail)); done)))) (by kernel_rfl)
  clear HM HB
  intro w _ HM HB
  refine hK.out _ _ (HM.out.tail.tail.tail.two) (fun hS2 => ?_)
  clear hS hK
  have hS := hS2
  clear hS2
  try simp only [Act.put, List.setIfInBounds_toArray, List.set_cons_zero, List.set_cons_succ]
  refine wpAnyH_done (by kernel_rfl) ?_ _
  clear hS
  go_wp2_with fail
  go_ret
  exact ⟨rfl, bs, Aq, cq, Lib.hid ((HM.out.perm (es' := Ent.blk b (keyC k) 29 :: rowE RN (.slice (some ⟨bl, 0, none⟩) 1 1) [lo] :: tabB bt bb bo :: mapE MB bb (putK l lo bs) :: mapE MO bo (putK o k (.slice Aq 2 cq)) :: rowE RN (.slice Aq 2 cq) (xs ++ [lo]) :: sesE bs (keyC k) (lo.toNat : Int) re nn [] :: es) (by ((repeat (first | exact List.Perm.refl _ | (refine List.Perm.trans (Del.perm (by (first | ((repeat (first | with_reducible exact Del.head _ | with_reducible apply Del.tail)); done) | ((repeat (first | exact Del.head _ | apply Del.tail)); done)))) (List.Perm.cons _ ?_)))); done))).tail.tail)⟩
set_option maxHeartbeats 1000000 in
theorem install_third {w0 w : World} {es : List Ent} {bt bb bo c y : Nat} {A : Option Addr} {x0 x1 : UInt32} {lo' re' nn' : Int} {m : List Nat} {l : List (UInt32 × Nat)} {o : List (Key × Value)} (k : Key) (lo : UInt32) (re nn : Int) (HM : HMem w0 w (tabB bt bb bo :: sesE y (keyC k) lo' re' nn' m :: mapE MB bb l :: mapE MO bo o :: rowE RN (.slice A 2 c) [x0, x1] :: es)) (hg : getK l lo = none) (ho : getK o k = some (.slice A 2 c)) (h0 : getK l x0 = some y) (h1 : x1 ≠ x0) :
    Calls Try.prog 22 #[.pointer (some ⟨bt, 0, none⟩), .agg (keyC k), .int .u32 (lo.toNat : Int), .int .u32 re, .int .u64 nn] w fun e w' => e = .returned (.int .i64 0) ∧ ∃ bs A' c', HMem w0 w' (tabB bt bb bo :: mapE MB bb (putK (delK l x0) lo bs) :: mapE MO bo (putK (putK o k (.slice A 1 c)) k (.slice A' 2 c')) :: rowE RN (.slice A' 2 c') ([x1] ++ [lo]) :: sesE bs (keyC k) (lo.toNat : Int) re nn [] :: es) := by
  have HC := Lib.hid (cells_key (keyC k) (keyC_size k) (keyC_one k))
  have HG := Lib.hid hg
  have HO := Lib.hid ho
  have HB := HM.out.below
  have HL1 : Hid (2 * RN.bytes ≤ 140737488355328) := Lib.hid (by decide)
  have HN1 : Hid ([x1].length + [lo].length = 2) := Lib.hid (rfl)
  have HV : Hid (((getK (putK o k (.slice A 1 c)) k).map MO.ev).getD MO.z = .slice A 1 c) := Lib.hid (by rw [getK_put_same]; rfl)
  have H0 := Lib.hid h0
  have H1 : Hid (([x0, x1].filter fun x => !decide (x = x0)) = [x1]) := Lib.hid (by simp [h1])
  clear hg ho h0 h1
  go_enter Try.func22, Try.ntmps22
  go_wp2_with (first | refine m_rd ?_ | (refine m_wr ?_; clear HM HB; intro w b HM HB; try clear b) | fail)
  refine (made_yes (tab_cells HM.out (by (first | ((repeat (first | with_reducible exact List.Mem.head _ | with_reducible apply List.Mem.tail)); done) | ((repeat (first | exact List.Mem.head _ | apply List.Mem.tail)); done)))).1).mono ?_
  rintro e w' ⟨rfl, rfl⟩
  have hc := (tab_cells HM.out (by (first | ((repeat (first | with_reducible exact List.Mem.head _ | with_reducible apply List.Mem.tail)); done) | ((repeat (first | exact List.Mem.head _ | apply List.Mem.tail)); done)))).1
  go_wp2_with (first | (refine m_rd ?_ HM (look_b0 (x := lo) rfl rfl rfl (by (first | ((repeat (first | with_reducible exact List.Mem.head _ | with_reducible apply List.Mem.tail)); done) | ((repeat (first | exact List.Mem.head _ | apply List.Mem.tail)); done))) HG.out) (wanted_none rfl)) | fail)
  clear hc
  try simp only [Act.put, List.setIfInBounds_toArray, List.set_cons_zero, List.set_cons_succ]
  refine wp_region_held_drew (S := fun w' => Mem w0 w' (Ent.blk b (keyC k) 29 :: tabB bt bb bo :: [])) (by kernel_rfl) (HM.out.drew.two) (fun hS => ?_)
  replace HM := Lib.hid HM.out.drew
  replace HB := HM.out.below
  refine tk 0 27 ?_
  refine tk 1 28 ?_
  refine tk 2 29 ?_
  refine tkv 3 30 (.map (some bo)) rfl (yields_cell rfl (by kernel_rfl) rfl (fun _ h => h) (by (first | ((repeat (first | with_reducible exact List.Mem.head _ | with_reducible apply List.Mem.tail)); done) | ((repeat (first | exact List.Mem.head _ | apply List.Mem.tail)); done))) rfl (by kernel_rfl)) ?_
  refine tkv 4 31 _ rfl (yields_own rfl rfl (fun _ h => h) (by (first | ((repeat (first | with_reducible exact List.Mem.head _ | with_reducible apply List.Mem.tail)); done) | ((repeat (first | exact List.Mem.head _ | apply List.Mem.tail)); done))) Try.underlying29 rfl HC.out.1 (by kernel_rfl)) ?_
  refine rone 5 rfl fun K' hK => ?_
  refine s_rd ?_ HM (look_o1 (k := k) rfl rfl rfl (by (first | ((repeat (first | with_reducible exact List.Mem.head _ | with_reducible apply List.Mem.tail)); done) | ((repeat (first | exact List.Mem.head _ | apply List.Mem.tail)); done))) HO.out) (by kernel_rfl)
  refine hK.out _ _ (HM.out.two) (fun hS2 => ?_)
  clear hS hK
  have hS := hS2
  clear hS2
  try simp only [Act.put, List.setIfInBounds_toArray, List.set_cons_zero, List.set_cons_succ]
  refine tk 6 13 ?_
  refine wpAnyH_done (by kernel_rfl) ?_ _
  clear hS
  have hc := (tab_cells HM.out (by (first | ((repeat (first | with_reducible exact List.Mem.head _ | with_reducible apply List.Mem.tail)); done) | ((repeat (first | exact List.Mem.head _ | apply List.Mem.tail)); done)))).1
  clear hc
  obtain ⟨ad, rfl, hr⟩ := (HM.out.rw_ LN (by (first | ((repeat (first | with_reducible exact List.Mem.head _ | with_reducible apply List.Mem.tail)); done) | ((repeat (first | exact List.Mem.head _ | apply List.Mem.tail)); done)))).elem LN (show [x0, x1][0]? = some x0 from rfl)
  have hc := hr 0 _ rfl
  simp [Addr.add, RN] at hc
  clear hr
  go_wp2_with fail
  clear hc
  replace HM : HMem w0 _ (tabB bt bb bo :: sesE y (keyC k) lo' re' nn' m :: mapE MB bb l :: mapE MO bo o :: rowE RN (.slice (some ad) 2 c) [x0, x1] :: Ent.blk b (keyC k) 29 :: es) := Lib.hid (HM.out.perm (by ((repeat (first | exact List.Perm.refl _ | (refine List.Perm.trans (Del.perm (by (first | ((repeat (first | with_reducible exact Del.head _ | with_reducible apply Del.tail)); done) | ((repeat (first | exact Del.head _ | apply Del.tail)); done)))) (List.Perm.cons _ ?_)))); done)))
  refine (forget_some (k := k) x0 HM H0.out HO.out (Nat.succ_pos _) H1.out).mono ?_
  rintro e w ⟨rfl, HM'⟩
  replace HM : HMem w0 w (Ent.blk b (keyC k) 29 :: tabB bt bb bo :: mapE MB bb (delK l x0) :: mapE MO bo (putK o k (.slice (some ad) 1 c)) :: rowE RN (.slice (some ad) 1 c) [x1] :: es) := Lib.hid ((HM'.out.perm (es' := sesE y (keyC k) lo' re' nn' m :: Ent.blk b (keyC k) 29 :: tabB bt bb bo :: mapE MB bb (delK l x0) :: mapE MO bo (putK o k (.slice (some ad) 1 c)) :: rowE RN (.slice (some ad) 1 c) [x1] :: es) (by ((repeat (first | exact List.Perm.refl _ | (refine List.Perm.trans (Del.perm (by (first | ((repeat (first | with_reducible exact Del.head _ | with_reducible apply Del.tail)); done) | ((repeat (first | exact Del.head _ | apply Del.tail)); done)))) (List.Perm.cons _ ?_)))); done))).tail)
  replace HB := HM.out.below
  clear HM'
  have hc : True := trivial
  clear hc
  go_wp2_with fail
  try simp only [Act.put, List.setIfInBounds_toArray, List.set_cons_zero, List.set_cons_succ]
  refine wp_region_held_drew (S := fun w' => Mem w0 w' (Ent.blk b (keyC k) 29 :: tabB bt bb bo :: [])) (by kernel_rfl) (HM.out.drew.two) (fun hS => ?_)
  replace HM := Lib.hid HM.out.drew
  replace HB := HM.out.below
  refine tk 0 49 ?_
  refine tk 1 50 ?_
  refine tk 2 51 ?_
  refine tkv 3 52 (.map (some bb)) rfl (yields_cell rfl (by kernel_rfl) rfl (fun _ h => h) (by (first | ((repeat (first | with_reducible exact List.Mem.head _ | with_reducible apply List.Mem.tail)); done) | ((repeat (first | exact List.Mem.head _ | apply List.Mem.tail)); done))) rfl (by kernel_rfl)) ?_
  refine tk 4 53 ?_
  refine tkv 5 54 _ rfl (yields_own rfl rfl (fun _ h => h) (by (first | ((repeat (first | with_reducible exact List.Mem.head _ | with_reducible apply List.Mem.tail)); done) | ((repeat (first | exact List.Mem.head _ | apply List.Mem.tail)); done))) Try.underlying29 rfl HC.out.1 (by kernel_rfl)) ?_
  refine tk 6 55 ?_
  refine tk 7 56 ?_
  refine tk 8 57 ?_
  refine rone 9 rfl fun K' hK => ?_
  go_simp
  refine (new_any (keyC k) (lo.toNat : Int) re nn _ (keyC_size k) (keyC_one k)).mono ?_
  rintro e w ⟨bs, rfl, hf, hp, hb⟩
  replace HM := Lib.hid (Mem.newSes HM.out hb hf hp)
  replace HB := HM.out.below
  clear hf hp hb
  refine hK.out _ _ (HM.out.tail.two) (fun hS2 => ?_)
  clear hS hK
  have hS := hS2
  clear hS2
  try simp only [Act.put, List.setIfInBounds_toArray, List.set_cons_zero, List.set_cons_succ]
  refine rone 10 rfl fun K' hK => ?_
  refine s_wr ?_ HM (Wr.mput LB (x := lo) (y := bs) rfl rfl rfl rfl (by (first | ((repeat (first | with_reducible exact Upd.head _ | with_reducible apply Upd.tail)); done) | ((repeat (first | exact Upd.head _ | apply Upd.tail)); done)))) (by kernel_rfl)
  clear HM HB
  intro w _ HM HB
  refine hK.out _ _ (HM.out.tail.two) (fun hS2 => ?_)
  clear hS hK
  have hS := hS2
  clear hS2
  try simp only [Act.put, List.setIfInBounds_toArray, List.set_cons_zero, List.set_cons_succ]
  refine wpAnyH_done (by kernel_rfl) ?_ _
  clear hS
  go_wp2_with fail
  try simp only [Act.put, List.setIfInBounds_toArray, List.set_cons_zero, List.set_cons_succ]
  refine wp_region_held_drew (S := fun w' => Mem w0 w' (Ent.blk b (keyC k) 29 :: tabB bt bb bo :: [])) (by kernel_rfl) (HM.out.drew.tail.two) (fun hS => ?_)
  replace HM := Lib.hid HM.out.drew
  replace HB := HM.out.below
  refine tk 0 59 ?_
  refine tk 1 60 ?_
  refine tk 2 61 ?_
  refine tkv 3 62 (.map (some bo)) rfl (yields_cell rfl (by kernel_rfl) rfl (fun _ h => h) (by (first | ((repeat (first | with_reducible exact List.Mem.head _ | with_reducible apply List.Mem.tail)); done) | ((repeat (first | exact List.Mem.head _ | apply List.Mem.tail)); done))) rfl (by kernel_rfl)) ?_
  refine tkv 4 63 _ rfl (yields_own rfl rfl (fun _ h => h) (by (first | ((repeat (first | with_reducible exact List.Mem.head _ | with_reducible apply List.Mem.tail)); done) | ((repeat (first | exact List.Mem.head _ | apply List.Mem.tail)); done))) Try.underlying29 rfl HC.out.1 (by kernel_rfl)) ?_
  refine tk 5 65 ?_
  refine rone 6 rfl fun K' hK => ?_
  refine s_wr ?_ HM (Wr.litR LN rfl (lit1 lo) rfl) (by kernel_rfl)
  clear HM HB
  intro w bl HM HB
  refine hK.out _ _ (HM.out.tail.tail.two) (fun hS2 => ?_)
  clear hS hK
  have hS := hS2
  clear hS2
  try simp only [Act.put, List.setIfInBounds_toArray, List.set_cons_zero, List.set_cons_succ]
  refine rone 7 rfl fun K' hK => ?_
  refine s_wr ?_ HM (Wr.ment LO (x := k) rfl rfl rfl (fun st => by (first | ((repeat (first | with_reducible exact Upd.head _ | with_reducible apply Upd.tail)); done) | ((repeat (first | exact Upd.head _ | apply Upd.tail)); done)))) (by kernel_rfl)
  clear HM HB
  intro w st HM HB
  rw [HV.out]
  refine hK.out _ _ (HM.out.tail.tail.two) (fun hS2 => ?_)
  clear hS hK
  have hS := hS2
  clear hS2
  try simp only [Act.put, List.setIfInBounds_toArray, List.set_cons_zero, List.set_cons_succ]
  refine tk 8 64 ?_
  refine tk 10 69 ?_
  refine rone 9 rfl fun K' hK => ?_
  refine s_wx ?_ HM (Wx.app LN rfl (by first | (go_simp; with_reducible rfl) | rfl) (by first | (go_simp; with_reducible rfl) | rfl) (by (first | ((repeat (first | with_reducible exact Del.head _ | with_reducible apply Del.tail)); done) | ((repeat (first | exact Del.head _ | apply Del.tail)); done))) (by intro w hm; first | with_reducible exact HR1.out.below hm.below | with_reducible exact HR2.out.below hm.below | exact hm.rw_ LN (by (first | ((repeat (first | with_reducible exact List.Mem.head _ | with_reducible apply List.Mem.tail)); done) | ((repeat (first | exact List.Mem.head _ | apply List.Mem.tail)); done))) | exact HR1.out.below hm.below | exact HR2.out.below hm.below) (by first | exact HN1.out | exact HN2.out | exact HN3.out | exact HN4.out) (by first | exact HL1.out | exact HL2.out)) (by kernel_rfl)
  clear HM HB
  rintro w ⟨Aq, cq⟩ HM HB
  refine hK.out _ _ (HM.out.tail.tail.tail.two) (fun hS2 => ?_)
  clear hS hK
  have hS := hS2
  clear hS2
  try simp only [Act.put, List.setIfInBounds_toArray, List.set_cons_zero, List.set_cons_succ]
  refine rone 11 rfl fun K' hK => ?_
  refine s_wr ?_ HM (Wr.mst (x := k) (y := Value.slice Aq 2 cq) rfl rfl rfl rfl (by (first | ((repeat (first | with_reducible exact Upd.head _ | with_reducible apply Upd.tail)); done) | ((repeat (first | exact Upd.head _ | apply Upd.tail)); done)))) (by kernel_rfl)
  clear HM HB
  intro w _ HM HB
  refine hK.out _ _ (HM.out.tail.tail.tail.two) (fun hS2 => ?_)
  clear hS hK
  have hS := hS2
  clear hS2
  try simp only [Act.put, List.setIfInBounds_toArray, List.set_cons_zero, List.set_cons_succ]
  refine wpAnyH_done (by kernel_rfl) ?_ _
  clear hS
  go_wp2_with fail
  go_ret
  exact ⟨rfl, bs, Aq, cq, Lib.hid ((HM.out.perm (es' := Ent.blk b (keyC k) 29 :: rowE RN (.slice (some ⟨bl, 0, none⟩) 1 1) [lo] :: tabB bt bb bo :: mapE MB bb (putK (delK l x0) lo bs) :: mapE MO bo (putK (putK o k (.slice (some ad) 1 c)) k (.slice Aq 2 cq)) :: rowE RN (.slice Aq 2 cq) ([x1] ++ [lo]) :: sesE bs (keyC k) (lo.toNat : Int) re nn [] :: es) (by ((repeat (first | exact List.Perm.refl _ | (refine List.Perm.trans (Del.perm (by (first | ((repeat (first | with_reducible exact Del.head _ | with_reducible apply Del.tail)); done) | ((repeat (first | exact Del.head _ | apply Del.tail)); done)))) (List.Perm.cons _ ?_)))); done))).tail.tail)⟩
end Go.Proofs.Ytapncdgeigbgmaa.Tb
