/- Layer 23: what bytes have as a message; PRINTED by gen_read.py. -/
import Derived.Test.YtahnibhcfdamdaaLg
set_option linter.unusedSimpArgs false
set_option linter.unusedVariables false
set_option maxRecDepth 100000
namespace Go.Proofs.Ytahnibhcfdamdaa.I6
open Go.RowKit Go.Proofs.YtahnibhcfdamdaaW.PrintWords Go.Proofs.Ytahnibhcfdamdaa.Bs Go.Proofs.Ytahnibhcfdamdaa.Av Go.Proofs.Ytahnibhcfdamdaa.Ad Go.Proofs.Ytahnibhcfdamdaa.Hd Go.Proofs.Ytahnibhcfdamdaa.Mm Go.Proofs.Ytahnibhcfdamdaa.Le Go.Proofs.Ytahnibhcfdamdaa.Ip Go.Proofs.Ytahnibhcfdamdaa.En Go.Proofs.Ytahnibhcfdamdaa.Co Go.Proofs.Ytahnibhcfdamdaa.Os Go.Proofs.Ytahnibhcfdamdaa.Is Go.Proofs.Ytahnibhcfdamdaa.Pk Go.Proofs.Ytahnibhcfdamdaa.I4

def bad23 (l : List UInt8) : Nat := readG (bad6 l) (gb l 6) 58 (restP l) (ahead6 (srcP l) (dstP l) (restP l).length ++ restP l) 1 0
def read23 (l : List UInt8) : List UInt8 := if bad23 l = 0 then (restP l).drop 8 else []
theorem is6_of (l : List UInt8) (h : bad6 l = 0) : 40 ≤ l.length ∧ gb l 0 / 16 = 6 ∧ tot6 l ≤ l.length ∧ ¬ is4 l := by
  have q : 40 ≤ l.length ∧ gb l 0 / 16 = 6 ∧ tot6 l ≤ l.length := by rcases bad6_cases l with q | q | q | q <;> omega
  exact ⟨q.1, q.2.1, q.2.2, by unfold is4; omega⟩
theorem badP_of6 (l : List UInt8) (h : bad6 l = 0) : badP l = 0 ∧ headP l = head6 l := by
  obtain ⟨h1, h2, _⟩ := is6_of l h
  unfold badP headP
  rw [if_neg (by omega), if_neg (by omega), if_pos h2, if_neg (by omega), if_neg (by omega), if_pos h2]
  exact ⟨h, rfl⟩
theorem known6b (l : List UInt8) (h : bad6 l = 0) : ∃ sz tt cl id fl fr tl pr x y, Known l 6 sz tt cl id fl fr tl pr x y ∧ pr = gb l 6 := by
  have hb := (badP_of6 l h).1
  obtain ⟨v, sz, tt, cl, id, fl, fr, tl, pr, x, y, K⟩ := known l hb
  obtain ⟨_, _, _, h4⟩ := is6_of l h
  have hv : v = 6 := by
    rcases K.fam with ⟨_, h⟩ | ⟨h, _⟩
    · exact absurd h h4
    · exact h
  subst hv
  exact ⟨sz, tt, cl, id, fl, fr, tl, pr, x, y, K, by rw [K.pro]; unfold proP; rw [if_neg h4]⟩
set_option maxHeartbeats 4000000 in
theorem read_any (A : Option Addr) (c : Nat) (l : List UInt8) (w0 : World) (hr : RB w0 (.slice A l.length c) l) :
    Calls Try.prog 58 #[.slice A l.length c] w0 fun e w' => ∃ v, e = .returned (.tuple #[v, .int .i64 (bad23 l : Nat)]) ∧ OB w0.heap.size w' v (read23 l) ∧ Below w0.heap.size w0 w' := by
  have hl := hr.len
  have HR := Lib.hid hr
  have hc : l.length ≤ c := by obtain ⟨A, c2, e, h, _⟩ := hr; injection e with _ _ e; omega
  have HP := Lib.hid (parse6_any (.slice A l.length c) l)
  have HC := Lib.hid (cells_head6 l)
  clear hr
  unfold read23 bad23
  by_cases hb : bad6 l = 0
  case neg =>
    have hq : (((bad6 l : Nat) : Int) != 0) = true := by simp; omega
    unfold readG
    rw [if_pos hb, if_neg hb]
    generalize head6 l = hv at HP HC
    generalize bad6 l = bq at HP hq ⊢
    clear hb
    have HM := Lib.hid (Mem.start w0)
    have HB := HM.out.below
    go_enter Try.func58, Try.ntmps58
    go_wp2_with (first | refine m_rd ?_ | (refine m_wr ?_; clear HM HB; intro w b HM HB; try clear b) | (refine m_ap ?_; clear HM HB; intro w Aq cq HM HB) | fail)
    refine (HP.out _ (HR.out.below HB)).mono ?_
    rintro e w ⟨rfl, hb⟩
    replace HM := Lib.hid (HM.out.call hb)
    replace HB := HM.out.below
    clear hb
    go_wp2_with (first | refine m_rd ?_ | (refine m_wr ?_; clear HM HB; intro w b HM HB; try clear b) | (refine m_ap ?_; clear HM HB; intro w Aq cq HM HB) | fail)
    go_ret2
    exact ⟨_, rfl, OB.nil _ _, HB⟩
  obtain ⟨sz, tt, cl, id, fl, fr, tl, pr, x, y, K, hpr⟩ := known6b l hb
  have d := K.low
  obtain ⟨ad, rfl⟩ := HR.out.some (by omega)
  have HX := Lib.hid K.lx
  have HY := Lib.hid K.ly
  rw [hb, (badP_of6 l hb).2.symm, K.head] at HP
  rw [(badP_of6 l hb).2.symm, K.head] at HC
  rw [← hpr, hb, ← K.src, ← K.dst, show restP l = (l.drop sz).take (tt - sz) by unfold restP; rw [K.siz, K.tot]]
  have HLR : Hid (((l.drop sz).take (tt - sz)).length = tt - sz) := Lib.hid (by simp; omega)
  obtain ⟨m, hm⟩ : ∃ m, tt - sz = m := ⟨_, rfl⟩
  rw [hm] at HLR ⊢
  have hsub : ((tt : Nat) : Int) - ((sz : Nat) : Int) = (m : Int) := by omega
  have HTT : Hid (sz + m = tt) := Lib.hid (by omega)
  have hmc : sz + m ≤ c := by omega
  have hml : m ≤ 65600 := by omega
  have HRS : sz < c → Hid (RB w0 (.slice (some (ad.add sz)) m (c - sz)) ((l.drop sz).take m)) := fun h => Lib.hid (HR.out.sub sz m (c - sz) (by omega) (by omega))
  have HRE : Hid (∃ a2 c2, ∀ W : World, (Instr.slice 26 (.slice (.some ad) l.length c) (.some (.int .i64 (sz : Int))) (.some (.int .i64 (tt : Int))) none).run Try.prog W = .ok (.slice a2 m c2) W) := Lib.hid (run_cut_any ad l.length c sz tt sz m rfl (by omega) hmc)
  generalize (l.drop sz).take m = R at HLR HRS ⊢
  rw [HLR.out]
  have HAL := Lib.hid (ahead6_length x y m K.lx K.ly)
  have HAH := Lib.hid (fun n0 n1 n2 n3 n4 n5 n6 n7 n8 w => ahead_any n0 n1 n2 n3 n4 n5 n6 n7 n8 x y m w K.lx K.ly (by omega))
  have HSM := Lib.hid (fun n0 n1 n2 n3 n4 n5 n6 n7 n8 A c w hr => summed6_any n0 n1 n2 n3 n4 n5 n6 n7 n8 x y A c R w hr K.lx K.ly (by rw [HLR.out]; omega))
  rw [HLR.out] at HSM
  have HS1 : Hid ([ahead6 x y m, R].flatten = ahead6 x y m ++ R) := Lib.hid (by simp)
  have HSL : Hid ((ahead6 x y m ++ R).length = 40 + m) := Lib.hid (by rw [List.length_append, HAL.out, HLR.out])
  generalize ahead6 x y m ++ R = S at HSM HS1 HSL ⊢
  generalize ahead6 x y m = Q at HAL HAH HS1
  clear hb K d hm hpr
  unfold readG
  rw [if_neg (by decide)]
  by_cases hp : pr = 58
  case neg =>
    have hq : (((pr : Nat) : Int) != 58) = true := by simp; omega
    rw [if_pos hp, if_neg (by decide)]
    clear hp HRE HRS
    have HM := Lib.hid (Mem.start w0)
    have HB := HM.out.below
    go_enter Try.func58, Try.ntmps58
    go_wp2_with (first | refine m_rd ?_ | (refine m_wr ?_; clear HM HB; intro w b HM HB; try clear b) | (refine m_ap ?_; clear HM HB; intro w Aq cq HM HB) | fail)
    refine (HP.out _ (HR.out.below HB)).mono ?_
    rintro e w ⟨rfl, hb⟩
    replace HM := Lib.hid (HM.out.call hb)
    replace HB := HM.out.below
    clear hb
    go_wp2_with (first | refine m_rd ?_ | (refine m_wr ?_; clear HM HB; intro w b HM HB; try clear b) | (refine m_ap ?_; clear HM HB; intro w Aq cq HM HB) | fail)
    go_ret2
    exact ⟨_, rfl, OB.nil _ _, HB⟩
  have hq : (((pr : Nat) : Int) != 58) = false := by simp; omega
  rw [if_neg (by omega), HLR.out]
  clear hp
  by_cases h8 : m < 8
  case pos =>
    rw [if_pos h8, if_neg (by decide)]
    clear HRE HRS
    have HM := Lib.hid (Mem.start w0)
    have HB := HM.out.below
    go_enter Try.func58, Try.ntmps58
    go_wp2_with (first | refine m_rd ?_ | (refine m_wr ?_; clear HM HB; intro w b HM HB; try clear b) | (refine m_ap ?_; clear HM HB; intro w Aq cq HM HB) | fail)
    refine (HP.out _ (HR.out.below HB)).mono ?_
    rintro e w ⟨rfl, hb⟩
    replace HM := Lib.hid (HM.out.call hb)
    replace HB := HM.out.below
    clear hb
    go_wp2_with (first | refine m_rd ?_ | (refine m_wr ?_; clear HM HB; intro w b HM HB; try clear b) | (refine m_ap ?_; clear HM HB; intro w Aq cq HM HB) | fail)
    go_ret2
    exact ⟨_, rfl, OB.nil _ _, HB⟩
  rw [if_neg h8]
  clear HRE
  have hszc : sz < c := by omega
  have hs := run_cut ad l.length c sz tt sz m rfl (by have := HTT.out; omega) hmc hszc
  have HR2 := HRS hszc
  have hc2 : m ≤ c - sz := by omega
  generalize ad.add sz = a2 at hs HR2
  generalize c - sz = c2 at hs HR2 hc2
  have hx0 := byte_at HR2.out 0 (by rw [HLR.out]; omega)
  have hx1 := byte_at HR2.out 1 (by rw [HLR.out]; omega)
  simp only [Mm.add_zero, add_lit _ 1 (by decide)] at hx0 hx1
  have hy0 := gb_lt R 0
  have hy1 := gb_lt R 1
  by_cases k0 : gb R 0 = 1
  case neg =>
    have t0 : (((gb R 0 : Nat) : Int) != 1) = true := by simp; omega
    rw [if_pos (.inl k0), if_neg (by decide)]
    generalize gb R 0 = g0 at *
    generalize gb R 1 = g1 at *
    clear k0 HRS
    have HM := Lib.hid (Mem.start w0)
    have HB := HM.out.below
    go_enter Try.func58, Try.ntmps58
    go_wp2_with (first | refine m_rd ?_ | (refine m_wr ?_; clear HM HB; intro w b HM HB; try clear b) | (refine m_ap ?_; clear HM HB; intro w Aq cq HM HB) | fail)
    refine (HP.out _ (HR.out.below HB)).mono ?_
    rintro e w ⟨rfl, hb⟩
    replace HM := Lib.hid (HM.out.call hb)
    replace HB := HM.out.below
    clear hb
    go_wp2_with (first | refine m_rd ?_ | (refine m_wr ?_; clear HM HB; intro w b HM HB; try clear b) | (refine m_ap ?_; clear HM HB; intro w Aq cq HM HB) | fail)
    go_ret2
    exact ⟨_, rfl, OB.nil _ _, HB⟩
  have t0 : (((gb R 0 : Nat) : Int) != 1) = false := by simp; omega
  by_cases k1 : gb R 1 = 0
  case neg =>
    have t1 : (((gb R 1 : Nat) : Int) != 0) = true := by simp; omega
    rw [if_pos (.inr k1), if_neg (by decide)]
    generalize gb R 0 = g0 at *
    generalize gb R 1 = g1 at *
    clear k0 k1 HRS
    have HM := Lib.hid (Mem.start w0)
    have HB := HM.out.below
    go_enter Try.func58, Try.ntmps58
    go_wp2_with (first | refine m_rd ?_ | (refine m_wr ?_; clear HM HB; intro w b HM HB; try clear b) | (refine m_ap ?_; clear HM HB; intro w Aq cq HM HB) | fail)
    refine (HP.out _ (HR.out.below HB)).mono ?_
    rintro e w ⟨rfl, hb⟩
    replace HM := Lib.hid (HM.out.call hb)
    replace HB := HM.out.below
    clear hb
    go_wp2_with (first | refine m_rd ?_ | (refine m_wr ?_; clear HM HB; intro w b HM HB; try clear b) | (refine m_ap ?_; clear HM HB; intro w Aq cq HM HB) | fail)
    go_ret2
    exact ⟨_, rfl, OB.nil _ _, HB⟩
  have t1 : (((gb R 1 : Nat) : Int) != 0) = false := by simp; omega
  rw [if_neg (by omega)]
  generalize gb R 0 = g0 at hx0 hy0 k0 t0
  generalize gb R 1 = g1 at hx1 hy1 k1 t1
  clear k0 k1
  by_cases hg : sum16 S = 65535
  case neg =>
    rw [if_pos hg, if_neg (by decide)]
    have hgq : ((sum16 S : Nat) : Int) ≠ 65535 := by omega
    clear HRS
    have HM := Lib.hid (Mem.start w0)
    have HB := HM.out.below
    go_enter Try.func58, Try.ntmps58
    go_wp2_with (first | refine m_rd ?_ | (refine m_wr ?_; clear HM HB; intro w b HM HB; try clear b) | (refine m_ap ?_; clear HM HB; intro w Aq cq HM HB) | fail)
    refine (HP.out _ (HR.out.below HB)).mono ?_
    rintro e w ⟨rfl, hb⟩
    replace HM := Lib.hid (HM.out.call hb)
    replace HB := HM.out.below
    clear hb
    go_wp2_with (first | refine m_rd ?_ | (refine m_wr ?_; clear HM HB; intro w b HM HB; try clear b) | (refine m_ap ?_; clear HM HB; intro w Aq cq HM HB) | fail)
    refine (HAH.out _ _ _ _ _ _ _ _ _ _).mono ?_
    rintro e w ⟨vq, rfl, ho, hb⟩
    replace HM := Lib.hid (HM.out.row hb ho)
    replace HB := HM.out.below
    clear ho hb
    obtain ⟨Aq, cq, rfl, -, -⟩ := HM.out.rb (by ((repeat (first | exact List.Mem.head _ | apply List.Mem.tail)); done))
    rw [HAL.out] at HM ⊢
    go_wp2_with (first | refine m_rd ?_ | (refine m_wr ?_; clear HM HB; intro w b HM HB; try clear b) | (refine m_ap ?_; clear HM HB; intro w Aq cq HM HB) | fail)
    refine (good_any _ _ [Q, R] _ (HM.out.rbs2 (by ((repeat (first | exact List.Mem.head _ | apply List.Mem.tail)); done)) (by rw [← HAL.out]; exact HM.out.rb (by rw [HAL.out]; ((repeat (first | exact List.Mem.head _ | apply List.Mem.tail)); done))) (HR2.out.below HB)) (by rw [HS1.out, HSL.out]; omega)).mono ?_
    rintro e w' ⟨rfl, rfl⟩
    rw [HS1.out]
    rw [show ((((sum16 S : Nat) : Int)) == 65535) = false from beq_false_of_ne hgq]
    go_wp2_with (first | refine m_rd ?_ | (refine m_wr ?_; clear HM HB; intro w b HM HB; try clear b) | (refine m_ap ?_; clear HM HB; intro w Aq cq HM HB) | fail)
    go_ret2
    exact ⟨_, rfl, OB.nil _ _, HB⟩
  rw [if_neg (by omega)]
  have hgq : ((sum16 S : Nat) : Int) = 65535 := by omega
  have HZ := Lib.hid (zeros_four R (by rw [HLR.out]; omega))
  have hcut := run_cut a2 m c2 4 8 4 4 rfl rfl (by omega) (by omega)
  have HR4 := Lib.hid (HR2.out.sub 4 4 (c2 - 4) (by rw [HLR.out]; omega) (by omega))
  by_cases hz : gb R 4 = 0 ∧ gb R 5 = 0 ∧ gb R 6 = 0 ∧ gb R 7 = 0
  case neg =>
    rw [if_pos hz, if_neg (by decide)]
    have hzz : decide ((R.drop 4).take 4 = List.replicate 4 (0 : UInt8)) = false := decide_eq_false (fun h => hz (HZ.out.1 h))
    clear HRS hz
    have HM := Lib.hid (Mem.start w0)
    have HB := HM.out.below
    go_enter Try.func58, Try.ntmps58
    go_wp2_with (first | refine m_rd ?_ | (refine m_wr ?_; clear HM HB; intro w b HM HB; try clear b) | (refine m_ap ?_; clear HM HB; intro w Aq cq HM HB) | fail)
    refine (HP.out _ (HR.out.below HB)).mono ?_
    rintro e w ⟨rfl, hb⟩
    replace HM := Lib.hid (HM.out.call hb)
    replace HB := HM.out.below
    clear hb
    go_wp2_with (first | refine m_rd ?_ | (refine m_wr ?_; clear HM HB; intro w b HM HB; try clear b) | (refine m_ap ?_; clear HM HB; intro w Aq cq HM HB) | fail)
    refine (HAH.out _ _ _ _ _ _ _ _ _ _).mono ?_
    rintro e w ⟨vq, rfl, ho, hb⟩
    replace HM := Lib.hid (HM.out.row hb ho)
    replace HB := HM.out.below
    clear ho hb
    obtain ⟨Aq, cq, rfl, -, -⟩ := HM.out.rb (by ((repeat (first | exact List.Mem.head _ | apply List.Mem.tail)); done))
    rw [HAL.out] at HM ⊢
    go_wp2_with (first | refine m_rd ?_ | (refine m_wr ?_; clear HM HB; intro w b HM HB; try clear b) | (refine m_ap ?_; clear HM HB; intro w Aq cq HM HB) | fail)
    refine (good_any _ _ [Q, R] _ (HM.out.rbs2 (by ((repeat (first | exact List.Mem.head _ | apply List.Mem.tail)); done)) (by rw [← HAL.out]; exact HM.out.rb (by rw [HAL.out]; ((repeat (first | exact List.Mem.head _ | apply List.Mem.tail)); done))) (HR2.out.below HB)) (by rw [HS1.out, HSL.out]; omega)).mono ?_
    rintro e w' ⟨rfl, rfl⟩
    rw [HS1.out]
    rw [show ((((sum16 S : Nat) : Int)) == 65535) = true by rw [hgq]; rfl]
    go_wp2_with (first | refine m_rd ?_ | (refine m_wr ?_; clear HM HB; intro w b HM HB; try clear b) | (refine m_ap ?_; clear HM HB; intro w Aq cq HM HB) | fail)
    try simp only [Act.put, List.setIfInBounds_toArray, List.set_cons_zero, List.set_cons_succ]
    refine wp_region_held_drew (S := fun w' => Below w0.heap.size w0 w') (by kernel_rfl) (below_drew HB) (fun hS => ?_)
    replace HM := Lib.hid HM.out.drew
    replace HB := HM.out.below
    refine tk 0 54 ?_
    refine tk 1 55 ?_
    refine rone 2 rfl fun K' hK => ?_
    refine s_wr ?_ HM (Wr.make rfl rfl rfl (by decide)) (by kernel_rfl)
    clear HM HB
    intro w b HM HB
    refine hK.out _ _ (HB) (fun hS2 => ?_)
    clear hS hK
    have hS := hS2
    clear hS2
    try simp only [Act.put, List.setIfInBounds_toArray, List.set_cons_zero, List.set_cons_succ]
    refine rone 3 rfl fun K' hK => ?_
    go_simp
    refine (Eqb.bytesEq_any _ _ ((R.drop 4).take 4) (List.replicate 4 0) _ (HR4.out.below HB) (HM.out.rb (by ((repeat (first | exact List.Mem.head _ | apply List.Mem.tail)); done)))).mono ?_
    rintro e w' ⟨rfl, rfl⟩
    rw [hzz]
    refine hK.out _ _ (HB) (fun hS2 => ?_)
    clear hS hK
    have hS := hS2
    clear hS2
    try simp only [Act.put, List.setIfInBounds_toArray, List.set_cons_zero, List.set_cons_succ]
    refine tk 4 58 ?_
    refine tk 5 53 ?_
    refine wpAnyH_done (by kernel_rfl) ?_ _
    clear hS
    go_wp2_with (first | refine m_rd ?_ | (refine m_wr ?_; clear HM HB; intro w b HM HB; try clear b) | (refine m_ap ?_; clear HM HB; intro w Aq cq HM HB) | fail)
    go_ret2
    exact ⟨_, rfl, OB.nil _ _, HB⟩
  rw [if_neg (fun h => h hz), if_pos rfl]
  have hzz : decide ((R.drop 4).take 4 = List.replicate 4 (0 : UInt8)) = true := decide_eq_true (HZ.out.2 hz)
  obtain ⟨a8, c8, hfr, HR8⟩ := run_rest8 (w0 := w0) a2 m c2 R HR2.out HLR.out (by omega) hc2
  clear HRS hz
  have HM := Lib.hid (Mem.start w0)
  have HB := HM.out.below
  go_enter Try.func58, Try.ntmps58
  go_wp2_with (first | refine m_rd ?_ | (refine m_wr ?_; clear HM HB; intro w b HM HB; try clear b) | (refine m_ap ?_; clear HM HB; intro w Aq cq HM HB) | fail)
  refine (HP.out _ (HR.out.below HB)).mono ?_
  rintro e w ⟨rfl, hb⟩
  replace HM := Lib.hid (HM.out.call hb)
  replace HB := HM.out.below
  clear hb
  go_wp2_with (first | refine m_rd ?_ | (refine m_wr ?_; clear HM HB; intro w b HM HB; try clear b) | (refine m_ap ?_; clear HM HB; intro w Aq cq HM HB) | fail)
  refine (HAH.out _ _ _ _ _ _ _ _ _ _).mono ?_
  rintro e w ⟨vq, rfl, ho, hb⟩
  replace HM := Lib.hid (HM.out.row hb ho)
  replace HB := HM.out.below
  clear ho hb
  obtain ⟨Aq, cq, rfl, -, -⟩ := HM.out.rb (by ((repeat (first | exact List.Mem.head _ | apply List.Mem.tail)); done))
  rw [HAL.out] at HM ⊢
  go_wp2_with (first | refine m_rd ?_ | (refine m_wr ?_; clear HM HB; intro w b HM HB; try clear b) | (refine m_ap ?_; clear HM HB; intro w Aq cq HM HB) | fail)
  refine (good_any _ _ [Q, R] _ (HM.out.rbs2 (by ((repeat (first | exact List.Mem.head _ | apply List.Mem.tail)); done)) (by rw [← HAL.out]; exact HM.out.rb (by rw [HAL.out]; ((repeat (first | exact List.Mem.head _ | apply List.Mem.tail)); done))) (HR2.out.below HB)) (by rw [HS1.out, HSL.out]; omega)).mono ?_
  rintro e w' ⟨rfl, rfl⟩
  rw [HS1.out]
  rw [show ((((sum16 S : Nat) : Int)) == 65535) = true by rw [hgq]; rfl]
  go_wp2_with (first | refine m_rd ?_ | (refine m_wr ?_; clear HM HB; intro w b HM HB; try clear b) | (refine m_ap ?_; clear HM HB; intro w Aq cq HM HB) | fail)
  try simp only [Act.put, List.setIfInBounds_toArray, List.set_cons_zero, List.set_cons_succ]
  refine wp_region_held_drew (S := fun w' => Below w0.heap.size w0 w') (by kernel_rfl) (below_drew HB) (fun hS => ?_)
  replace HM := Lib.hid HM.out.drew
  replace HB := HM.out.below
  refine tk 0 54 ?_
  refine tk 1 55 ?_
  refine rone 2 rfl fun K' hK => ?_
  refine s_wr ?_ HM (Wr.make rfl rfl rfl (by decide)) (by kernel_rfl)
  clear HM HB
  intro w b HM HB
  refine hK.out _ _ (HB) (fun hS2 => ?_)
  clear hS hK
  have hS := hS2
  clear hS2
  try simp only [Act.put, List.setIfInBounds_toArray, List.set_cons_zero, List.set_cons_succ]
  refine rone 3 rfl fun K' hK => ?_
  go_simp
  refine (Eqb.bytesEq_any _ _ ((R.drop 4).take 4) (List.replicate 4 0) _ (HR4.out.below HB) (HM.out.rb (by ((repeat (first | exact List.Mem.head _ | apply List.Mem.tail)); done)))).mono ?_
  rintro e w' ⟨rfl, rfl⟩
  rw [hzz]
  refine hK.out _ _ (HB) (fun hS2 => ?_)
  clear hS hK
  have hS := hS2
  clear hS2
  try simp only [Act.put, List.setIfInBounds_toArray, List.set_cons_zero, List.set_cons_succ]
  refine tk 4 58 ?_
  refine tk 5 53 ?_
  refine wpAnyH_done (by kernel_rfl) ?_ _
  clear hS
  go_wp2_with (first | refine m_rd ?_ | (refine m_wr ?_; clear HM HB; intro w b HM HB; try clear b) | (refine m_ap ?_; clear HM HB; intro w Aq cq HM HB) | fail)
  refine (clone_any _ _ _ (R.drop 8) _ (HR8.out.below HB) (by rw [List.length_drop, HLR.out]; omega)).mono ?_
  rintro e w ⟨vr, rfl, ho, hb⟩
  replace HM := Lib.hid (HM.out.row hb ho)
  replace HB := HM.out.below
  clear ho hb
  go_wp2_with (first | refine m_rd ?_ | (refine m_wr ?_; clear HM HB; intro w b HM HB; try clear b) | (refine m_ap ?_; clear HM HB; intro w Aq cq HM HB) | fail)
  go_ret2
  exact ⟨_, rfl, HM.out.ob (by ((repeat (first | exact List.Mem.head _ | apply List.Mem.tail)); done)), HB⟩
set_option maxHeartbeats 4000000 in
theorem refRead_any (A : Option Addr) (c : Nat) (l : List UInt8) (w0 : World) (hr : RB w0 (.slice A l.length c) l) :
    Calls Try.prog 59 #[.slice A l.length c] w0 fun e w' => ∃ v, e = .returned (.tuple #[v, .int .i64 (bad23 l : Nat)]) ∧ RB w' v (read23 l) ∧ Below w0.heap.size w0 w' := by
  have hl := hr.len
  have HR := Lib.hid hr
  have hc : l.length ≤ c := by obtain ⟨A, c2, e, h, _⟩ := hr; injection e with _ _ e; omega
  have HP := Lib.hid (refParse6_any (.slice A l.length c) l)
  have HC := Lib.hid (cells_head6 l)
  clear hr
  unfold read23 bad23
  by_cases hb : bad6 l = 0
  case neg =>
    have hq : (((bad6 l : Nat) : Int) != 0) = true := by simp; omega
    unfold readG
    rw [if_pos hb, if_neg hb]
    generalize head6 l = hv at HP HC
    generalize bad6 l = bq at HP hq ⊢
    clear hb
    have HM := Lib.hid (Mem.start w0)
    have HB := HM.out.below
    go_enter Try.func59, Try.ntmps59
    go_wp2_with (first | refine m_rd ?_ | (refine m_wr ?_; clear HM HB; intro w b HM HB; try clear b) | (refine m_ap ?_; clear HM HB; intro w Aq cq HM HB) | fail)
    refine (HP.out _ (HR.out.below HB)).mono ?_
    rintro e w ⟨rfl, hb⟩
    replace HM := Lib.hid (HM.out.call hb)
    replace HB := HM.out.below
    clear hb
    go_wp2_with (first | refine m_rd ?_ | (refine m_wr ?_; clear HM HB; intro w b HM HB; try clear b) | (refine m_ap ?_; clear HM HB; intro w Aq cq HM HB) | fail)
    go_ret2
    exact ⟨_, rfl, RB.nil _, HB⟩
  obtain ⟨sz, tt, cl, id, fl, fr, tl, pr, x, y, K, hpr⟩ := known6b l hb
  have d := K.low
  obtain ⟨ad, rfl⟩ := HR.out.some (by omega)
  have HX := Lib.hid K.lx
  have HY := Lib.hid K.ly
  rw [hb, (badP_of6 l hb).2.symm, K.head] at HP
  rw [(badP_of6 l hb).2.symm, K.head] at HC
  rw [← hpr, hb, ← K.src, ← K.dst, show restP l = (l.drop sz).take (tt - sz) by unfold restP; rw [K.siz, K.tot]]
  have HLR : Hid (((l.drop sz).take (tt - sz)).length = tt - sz) := Lib.hid (by simp; omega)
  obtain ⟨m, hm⟩ : ∃ m, tt - sz = m := ⟨_, rfl⟩
  rw [hm] at HLR ⊢
  have hsub : ((tt : Nat) : Int) - ((sz : Nat) : Int) = (m : Int) := by omega
  have HTT : Hid (sz + m = tt) := Lib.hid (by omega)
  have hmc : sz + m ≤ c := by omega
  have hml : m ≤ 65600 := by omega
  have HRS : sz < c → Hid (RB w0 (.slice (some (ad.add sz)) m (c - sz)) ((l.drop sz).take m)) := fun h => Lib.hid (HR.out.sub sz m (c - sz) (by omega) (by omega))
  have HRE : Hid (∃ a2 c2, ∀ W : World, (Instr.slice 26 (.slice (.some ad) l.length c) (.some (.int .i64 (sz : Int))) (.some (.int .i64 (tt : Int))) none).run Try.prog W = .ok (.slice a2 m c2) W) := Lib.hid (run_cut_any ad l.length c sz tt sz m rfl (by omega) hmc)
  generalize (l.drop sz).take m = R at HLR HRS ⊢
  rw [HLR.out]
  have HAL := Lib.hid (ahead6_length x y m K.lx K.ly)
  have HAH := Lib.hid (fun n0 n1 n2 n3 n4 n5 n6 n7 n8 w => ahead_any n0 n1 n2 n3 n4 n5 n6 n7 n8 x y m w K.lx K.ly (by omega))
  have HSM := Lib.hid (fun n0 n1 n2 n3 n4 n5 n6 n7 n8 A c w hr => summed6_any n0 n1 n2 n3 n4 n5 n6 n7 n8 x y A c R w hr K.lx K.ly (by rw [HLR.out]; omega))
  rw [HLR.out] at HSM
  have HS1 : Hid ([ahead6 x y m, R].flatten = ahead6 x y m ++ R) := Lib.hid (by simp)
  have HSL : Hid ((ahead6 x y m ++ R).length = 40 + m) := Lib.hid (by rw [List.length_append, HAL.out, HLR.out])
  generalize ahead6 x y m ++ R = S at HSM HS1 HSL ⊢
  generalize ahead6 x y m = Q at HAL HAH HS1
  clear hb K d hm hpr
  unfold readG
  rw [if_neg (by decide)]
  by_cases hp : pr = 58
  case neg =>
    have hq : (((pr : Nat) : Int) != 58) = true := by simp; omega
    rw [if_pos hp, if_neg (by decide)]
    clear hp HRE HRS
    have HM := Lib.hid (Mem.start w0)
    have HB := HM.out.below
    go_enter Try.func59, Try.ntmps59
    go_wp2_with (first | refine m_rd ?_ | (refine m_wr ?_; clear HM HB; intro w b HM HB; try clear b) | (refine m_ap ?_; clear HM HB; intro w Aq cq HM HB) | fail)
    refine (HP.out _ (HR.out.below HB)).mono ?_
    rintro e w ⟨rfl, hb⟩
    replace HM := Lib.hid (HM.out.call hb)
    replace HB := HM.out.below
    clear hb
    go_wp2_with (first | refine m_rd ?_ | (refine m_wr ?_; clear HM HB; intro w b HM HB; try clear b) | (refine m_ap ?_; clear HM HB; intro w Aq cq HM HB) | fail)
    go_ret2
    exact ⟨_, rfl, RB.nil _, HB⟩
  have hq : (((pr : Nat) : Int) != 58) = false := by simp; omega
  rw [if_neg (by omega), HLR.out]
  clear hp
  by_cases h8 : m < 8
  case pos =>
    rw [if_pos h8, if_neg (by decide)]
    obtain ⟨a2, c2, hs⟩ := HRE.out
    clear HRE HRS hsub
    have HM := Lib.hid (Mem.start w0)
    have HB := HM.out.below
    go_enter Try.func59, Try.ntmps59
    go_wp2_with (first | refine m_rd ?_ | (refine m_wr ?_; clear HM HB; intro w b HM HB; try clear b) | (refine m_ap ?_; clear HM HB; intro w Aq cq HM HB) | fail)
    refine (HP.out _ (HR.out.below HB)).mono ?_
    rintro e w ⟨rfl, hb⟩
    replace HM := Lib.hid (HM.out.call hb)
    replace HB := HM.out.below
    clear hb
    go_wp2_with (first | refine m_rd ?_ | (refine m_wr ?_; clear HM HB; intro w b HM HB; try clear b) | (refine m_ap ?_; clear HM HB; intro w Aq cq HM HB) | fail)
    go_ret2
    exact ⟨_, rfl, RB.nil _, HB⟩
  rw [if_neg h8]
  clear HRE hsub
  have hszc : sz < c := by omega
  have hs := run_cut ad l.length c sz tt sz m rfl (by have := HTT.out; omega) hmc hszc
  have HR2 := HRS hszc
  have hc2 : m ≤ c - sz := by omega
  generalize ad.add sz = a2 at hs HR2
  generalize c - sz = c2 at hs HR2 hc2
  have hx0 := byte_at HR2.out 0 (by rw [HLR.out]; omega)
  have hx1 := byte_at HR2.out 1 (by rw [HLR.out]; omega)
  simp only [Mm.add_zero, add_lit _ 1 (by decide)] at hx0 hx1
  have hy0 := gb_lt R 0
  have hy1 := gb_lt R 1
  by_cases k0 : gb R 0 = 1
  case neg =>
    have t0 : (((gb R 0 : Nat) : Int) != 1) = true := by simp; omega
    rw [if_pos (.inl k0), if_neg (by decide)]
    generalize gb R 0 = g0 at *
    generalize gb R 1 = g1 at *
    clear k0 HRS
    have HM := Lib.hid (Mem.start w0)
    have HB := HM.out.below
    go_enter Try.func59, Try.ntmps59
    go_wp2_with (first | refine m_rd ?_ | (refine m_wr ?_; clear HM HB; intro w b HM HB; try clear b) | (refine m_ap ?_; clear HM HB; intro w Aq cq HM HB) | fail)
    refine (HP.out _ (HR.out.below HB)).mono ?_
    rintro e w ⟨rfl, hb⟩
    replace HM := Lib.hid (HM.out.call hb)
    replace HB := HM.out.below
    clear hb
    go_wp2_with (first | refine m_rd ?_ | (refine m_wr ?_; clear HM HB; intro w b HM HB; try clear b) | (refine m_ap ?_; clear HM HB; intro w Aq cq HM HB) | fail)
    go_ret2
    exact ⟨_, rfl, RB.nil _, HB⟩
  have t0 : (((gb R 0 : Nat) : Int) != 1) = false := by simp; omega
  by_cases k1 : gb R 1 = 0
  case neg =>
    have t1 : (((gb R 1 : Nat) : Int) != 0) = true := by simp; omega
    rw [if_pos (.inr k1), if_neg (by decide)]
    generalize gb R 0 = g0 at *
    generalize gb R 1 = g1 at *
    clear k0 k1 HRS
    have HM := Lib.hid (Mem.start w0)
    have HB := HM.out.below
    go_enter Try.func59, Try.ntmps59
    go_wp2_with (first | refine m_rd ?_ | (refine m_wr ?_; clear HM HB; intro w b HM HB; try clear b) | (refine m_ap ?_; clear HM HB; intro w Aq cq HM HB) | fail)
    refine (HP.out _ (HR.out.below HB)).mono ?_
    rintro e w ⟨rfl, hb⟩
    replace HM := Lib.hid (HM.out.call hb)
    replace HB := HM.out.below
    clear hb
    go_wp2_with (first | refine m_rd ?_ | (refine m_wr ?_; clear HM HB; intro w b HM HB; try clear b) | (refine m_ap ?_; clear HM HB; intro w Aq cq HM HB) | fail)
    go_ret2
    exact ⟨_, rfl, RB.nil _, HB⟩
  have t1 : (((gb R 1 : Nat) : Int) != 0) = false := by simp; omega
  rw [if_neg (by omega)]
  generalize gb R 0 = g0 at hx0 hy0 k0 t0
  generalize gb R 1 = g1 at hx1 hy1 k1 t1
  clear k0 k1 HRS
  by_cases hg : sum16 S = 65535
  case neg =>
    rw [if_pos hg, if_neg (by decide)]
    have hgq : (((sum16 S : Nat) : Int) != 65535) = true := by simp; omega
    clear hg
    have HM := Lib.hid (Mem.start w0)
    have HB := HM.out.below
    go_enter Try.func59, Try.ntmps59
    go_wp2_with (first | refine m_rd ?_ | (refine m_wr ?_; clear HM HB; intro w b HM HB; try clear b) | (refine m_ap ?_; clear HM HB; intro w Aq cq HM HB) | fail)
    refine (HP.out _ (HR.out.below HB)).mono ?_
    rintro e w ⟨rfl, hb⟩
    replace HM := Lib.hid (HM.out.call hb)
    replace HB := HM.out.below
    clear hb
    go_wp2_with (first | refine m_rd ?_ | (refine m_wr ?_; clear HM HB; intro w b HM HB; try clear b) | (refine m_ap ?_; clear HM HB; intro w Aq cq HM HB) | fail)
    refine (HSM.out _ _ _ _ _ _ _ _ _ _ _ _ (HR2.out.below HB)).mono ?_
    rintro e w ⟨vs, rfl, ho, hb⟩
    replace HM := Lib.hid (HM.out.row hb ho)
    replace HB := HM.out.below
    clear ho hb
    go_wp2_with (first | refine m_rd ?_ | (refine m_wr ?_; clear HM HB; intro w b HM HB; try clear b) | (refine m_ap ?_; clear HM HB; intro w Aq cq HM HB) | fail)
    refine (I4.refOf_rb _ S _ (HM.out.rb (by ((repeat (first | exact List.Mem.head _ | apply List.Mem.tail)); done))) (by rw [HSL.out]; omega)).mono ?_
    rintro e w' ⟨rfl, rfl⟩
    go_wp2_with (first | refine m_rd ?_ | (refine m_wr ?_; clear HM HB; intro w b HM HB; try clear b) | (refine m_ap ?_; clear HM HB; intro w Aq cq HM HB) | fail)
    go_ret2
    exact ⟨_, rfl, RB.nil _, HB⟩
  rw [if_neg (by omega)]
  have hgq : (((sum16 S : Nat) : Int) != 65535) = false := by simp; omega
  clear hg
  have hx4 := byte_at HR2.out 4 (by rw [HLR.out]; omega)
  have hy4 := gb_lt R 4
  have hx5 := byte_at HR2.out 5 (by rw [HLR.out]; omega)
  have hy5 := gb_lt R 5
  have hx6 := byte_at HR2.out 6 (by rw [HLR.out]; omega)
  have hy6 := gb_lt R 6
  have hx7 := byte_at HR2.out 7 (by rw [HLR.out]; omega)
  have hy7 := gb_lt R 7
  simp only [add_lit _ 4 (by decide), add_lit _ 5 (by decide), add_lit _ 6 (by decide), add_lit _ 7 (by decide)] at hx4 hx5 hx6 hx7
  by_cases z4 : gb R 4 = 0
  case neg =>
    rw [if_pos (fun h => z4 h.1), if_neg (by decide)]
    have t4 : (((gb R 4 : Nat) : Int) != 0) = true := by simp; omega
    generalize gb R 4 = g4 at *
    generalize gb R 5 = g5 at *
    generalize gb R 6 = g6 at *
    generalize gb R 7 = g7 at *
    clear z4
    have HM := Lib.hid (Mem.start w0)
    have HB := HM.out.below
    go_enter Try.func59, Try.ntmps59
    go_wp2_with (first | refine m_rd ?_ | (refine m_wr ?_; clear HM HB; intro w b HM HB; try clear b) | (refine m_ap ?_; clear HM HB; intro w Aq cq HM HB) | fail)
    refine (HP.out _ (HR.out.below HB)).mono ?_
    rintro e w ⟨rfl, hb⟩
    replace HM := Lib.hid (HM.out.call hb)
    replace HB := HM.out.below
    clear hb
    go_wp2_with (first | refine m_rd ?_ | (refine m_wr ?_; clear HM HB; intro w b HM HB; try clear b) | (refine m_ap ?_; clear HM HB; intro w Aq cq HM HB) | fail)
    refine (HSM.out _ _ _ _ _ _ _ _ _ _ _ _ (HR2.out.below HB)).mono ?_
    rintro e w ⟨vs, rfl, ho, hb⟩
    replace HM := Lib.hid (HM.out.row hb ho)
    replace HB := HM.out.below
    clear ho hb
    go_wp2_with (first | refine m_rd ?_ | (refine m_wr ?_; clear HM HB; intro w b HM HB; try clear b) | (refine m_ap ?_; clear HM HB; intro w Aq cq HM HB) | fail)
    refine (I4.refOf_rb _ S _ (HM.out.rb (by ((repeat (first | exact List.Mem.head _ | apply List.Mem.tail)); done))) (by rw [HSL.out]; omega)).mono ?_
    rintro e w' ⟨rfl, rfl⟩
    go_wp2_with (first | refine m_rd ?_ | (refine m_wr ?_; clear HM HB; intro w b HM HB; try clear b) | (refine m_ap ?_; clear HM HB; intro w Aq cq HM HB) | fail)
    go_ret2
    exact ⟨_, rfl, RB.nil _, HB⟩
  have t4 : (((gb R 4 : Nat) : Int) != 0) = false := by simp; omega
  by_cases z5 : gb R 5 = 0
  case neg =>
    rw [if_pos (fun h => z5 h.2.1), if_neg (by decide)]
    have t5 : (((gb R 5 : Nat) : Int) != 0) = true := by simp; omega
    generalize gb R 4 = g4 at *
    generalize gb R 5 = g5 at *
    generalize gb R 6 = g6 at *
    generalize gb R 7 = g7 at *
    clear z4 z5
    have HM := Lib.hid (Mem.start w0)
    have HB := HM.out.below
    go_enter Try.func59, Try.ntmps59
    go_wp2_with (first | refine m_rd ?_ | (refine m_wr ?_; clear HM HB; intro w b HM HB; try clear b) | (refine m_ap ?_; clear HM HB; intro w Aq cq HM HB) | fail)
    refine (HP.out _ (HR.out.below HB)).mono ?_
    rintro e w ⟨rfl, hb⟩
    replace HM := Lib.hid (HM.out.call hb)
    replace HB := HM.out.below
    clear hb
    go_wp2_with (first | refine m_rd ?_ | (refine m_wr ?_; clear HM HB; intro w b HM HB; try clear b) | (refine m_ap ?_; clear HM HB; intro w Aq cq HM HB) | fail)
    refine (HSM.out _ _ _ _ _ _ _ _ _ _ _ _ (HR2.out.below HB)).mono ?_
    rintro e w ⟨vs, rfl, ho, hb⟩
    replace HM := Lib.hid (HM.out.row hb ho)
    replace HB := HM.out.below
    clear ho hb
    go_wp2_with (first | refine m_rd ?_ | (refine m_wr ?_; clear HM HB; intro w b HM HB; try clear b) | (refine m_ap ?_; clear HM HB; intro w Aq cq HM HB) | fail)
    refine (I4.refOf_rb _ S _ (HM.out.rb (by ((repeat (first | exact List.Mem.head _ | apply List.Mem.tail)); done))) (by rw [HSL.out]; omega)).mono ?_
    rintro e w' ⟨rfl, rfl⟩
    go_wp2_with (first | refine m_rd ?_ | (refine m_wr ?_; clear HM HB; intro w b HM HB; try clear b) | (refine m_ap ?_; clear HM HB; intro w Aq cq HM HB) | fail)
    go_ret2
    exact ⟨_, rfl, RB.nil _, HB⟩
  have t5 : (((gb R 5 : Nat) : Int) != 0) = false := by simp; omega
  by_cases z6 : gb R 6 = 0
  case neg =>
    rw [if_pos (fun h => z6 h.2.2.1), if_neg (by decide)]
    have t6 : (((gb R 6 : Nat) : Int) != 0) = true := by simp; omega
    generalize gb R 4 = g4 at *
    generalize gb R 5 = g5 at *
    generalize gb R 6 = g6 at *
    generalize gb R 7 = g7 at *
    clear z4 z5 z6
    have HM := Lib.hid (Mem.start w0)
    have HB := HM.out.below
    go_enter Try.func59, Try.ntmps59
    go_wp2_with (first | refine m_rd ?_ | (refine m_wr ?_; clear HM HB; intro w b HM HB; try clear b) | (refine m_ap ?_; clear HM HB; intro w Aq cq HM HB) | fail)
    refine (HP.out _ (HR.out.below HB)).mono ?_
    rintro e w ⟨rfl, hb⟩
    replace HM := Lib.hid (HM.out.call hb)
    replace HB := HM.out.below
    clear hb
    go_wp2_with (first | refine m_rd ?_ | (refine m_wr ?_; clear HM HB; intro w b HM HB; try clear b) | (refine m_ap ?_; clear HM HB; intro w Aq cq HM HB) | fail)
    refine (HSM.out _ _ _ _ _ _ _ _ _ _ _ _ (HR2.out.below HB)).mono ?_
    rintro e w ⟨vs, rfl, ho, hb⟩
    replace HM := Lib.hid (HM.out.row hb ho)
    replace HB := HM.out.below
    clear ho hb
    go_wp2_with (first | refine m_rd ?_ | (refine m_wr ?_; clear HM HB; intro w b HM HB; try clear b) | (refine m_ap ?_; clear HM HB; intro w Aq cq HM HB) | fail)
    refine (I4.refOf_rb _ S _ (HM.out.rb (by ((repeat (first | exact List.Mem.head _ | apply List.Mem.tail)); done))) (by rw [HSL.out]; omega)).mono ?_
    rintro e w' ⟨rfl, rfl⟩
    go_wp2_with (first | refine m_rd ?_ | (refine m_wr ?_; clear HM HB; intro w b HM HB; try clear b) | (refine m_ap ?_; clear HM HB; intro w Aq cq HM HB) | fail)
    go_ret2
    exact ⟨_, rfl, RB.nil _, HB⟩
  have t6 : (((gb R 6 : Nat) : Int) != 0) = false := by simp; omega
  by_cases z7 : gb R 7 = 0
  case neg =>
    rw [if_pos (fun h => z7 h.2.2.2), if_neg (by decide)]
    have t7 : (((gb R 7 : Nat) : Int) != 0) = true := by simp; omega
    generalize gb R 4 = g4 at *
    generalize gb R 5 = g5 at *
    generalize gb R 6 = g6 at *
    generalize gb R 7 = g7 at *
    clear z4 z5 z6 z7
    have HM := Lib.hid (Mem.start w0)
    have HB := HM.out.below
    go_enter Try.func59, Try.ntmps59
    go_wp2_with (first | refine m_rd ?_ | (refine m_wr ?_; clear HM HB; intro w b HM HB; try clear b) | (refine m_ap ?_; clear HM HB; intro w Aq cq HM HB) | fail)
    refine (HP.out _ (HR.out.below HB)).mono ?_
    rintro e w ⟨rfl, hb⟩
    replace HM := Lib.hid (HM.out.call hb)
    replace HB := HM.out.below
    clear hb
    go_wp2_with (first | refine m_rd ?_ | (refine m_wr ?_; clear HM HB; intro w b HM HB; try clear b) | (refine m_ap ?_; clear HM HB; intro w Aq cq HM HB) | fail)
    refine (HSM.out _ _ _ _ _ _ _ _ _ _ _ _ (HR2.out.below HB)).mono ?_
    rintro e w ⟨vs, rfl, ho, hb⟩
    replace HM := Lib.hid (HM.out.row hb ho)
    replace HB := HM.out.below
    clear ho hb
    go_wp2_with (first | refine m_rd ?_ | (refine m_wr ?_; clear HM HB; intro w b HM HB; try clear b) | (refine m_ap ?_; clear HM HB; intro w Aq cq HM HB) | fail)
    refine (I4.refOf_rb _ S _ (HM.out.rb (by ((repeat (first | exact List.Mem.head _ | apply List.Mem.tail)); done))) (by rw [HSL.out]; omega)).mono ?_
    rintro e w' ⟨rfl, rfl⟩
    go_wp2_with (first | refine m_rd ?_ | (refine m_wr ?_; clear HM HB; intro w b HM HB; try clear b) | (refine m_ap ?_; clear HM HB; intro w Aq cq HM HB) | fail)
    go_ret2
    exact ⟨_, rfl, RB.nil _, HB⟩
  have t7 : (((gb R 7 : Nat) : Int) != 0) = false := by simp; omega
  rw [if_neg (fun h => h ⟨z4, z5, z6, z7⟩), if_pos rfl]
  generalize gb R 4 = g4 at *
  generalize gb R 5 = g5 at *
  generalize gb R 6 = g6 at *
  generalize gb R 7 = g7 at *
  clear z4 z5 z6 z7
  obtain ⟨a8, c8, hfr, HR8⟩ := run_rest8 (w0 := w0) a2 m c2 R HR2.out HLR.out (by omega) hc2
  have HM := Lib.hid (Mem.start w0)
  have HB := HM.out.below
  go_enter Try.func59, Try.ntmps59
  go_wp2_with (first | refine m_rd ?_ | (refine m_wr ?_; clear HM HB; intro w b HM HB; try clear b) | (refine m_ap ?_; clear HM HB; intro w Aq cq HM HB) | fail)
  refine (HP.out _ (HR.out.below HB)).mono ?_
  rintro e w ⟨rfl, hb⟩
  replace HM := Lib.hid (HM.out.call hb)
  replace HB := HM.out.below
  clear hb
  go_wp2_with (first | refine m_rd ?_ | (refine m_wr ?_; clear HM HB; intro w b HM HB; try clear b) | (refine m_ap ?_; clear HM HB; intro w Aq cq HM HB) | fail)
  refine (HSM.out _ _ _ _ _ _ _ _ _ _ _ _ (HR2.out.below HB)).mono ?_
  rintro e w ⟨vs, rfl, ho, hb⟩
  replace HM := Lib.hid (HM.out.row hb ho)
  replace HB := HM.out.below
  clear ho hb
  go_wp2_with (first | refine m_rd ?_ | (refine m_wr ?_; clear HM HB; intro w b HM HB; try clear b) | (refine m_ap ?_; clear HM HB; intro w Aq cq HM HB) | fail)
  refine (I4.refOf_rb _ S _ (HM.out.rb (by ((repeat (first | exact List.Mem.head _ | apply List.Mem.tail)); done))) (by rw [HSL.out]; omega)).mono ?_
  rintro e w' ⟨rfl, rfl⟩
  go_wp2_with (first | refine m_rd ?_ | (refine m_wr ?_; clear HM HB; intro w b HM HB; try clear b) | (refine m_ap ?_; clear HM HB; intro w Aq cq HM HB) | fail)
  go_ret2
  exact ⟨_, rfl, HR8.out.below HB, HB⟩
end Go.Proofs.Ytahnibhcfdamdaa.I6
