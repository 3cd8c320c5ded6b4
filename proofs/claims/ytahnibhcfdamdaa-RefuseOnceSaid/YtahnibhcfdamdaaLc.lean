/- Layer 22: the message that a packet did not arrive, of package icmpfour and of its reference. -/
import Derived.Test.YtahnibhcfdamdaaLa
import Derived.Test.YtahnibhcfdamdaaZk
import Derived.Test.YtahnibhcfdamdaaJj
set_option linter.unusedSimpArgs false
set_option linter.unusedVariables false
set_option maxRecDepth 100000
namespace Go.Proofs.Ytahnibhcfdamdaa.I4
open Go.RowKit Go.Proofs.YtahnibhcfdamdaaW.PrintWords Go.Proofs.Ytahnibhcfdamdaa.Bs Go.Proofs.Ytahnibhcfdamdaa.Av Go.Proofs.Ytahnibhcfdamdaa.Ad Go.Proofs.Ytahnibhcfdamdaa.Hd Go.Proofs.Ytahnibhcfdamdaa.Mm Go.Proofs.Ytahnibhcfdamdaa.Le Go.Proofs.Ytahnibhcfdamdaa.Ip Go.Proofs.Ytahnibhcfdamdaa.En Go.Proofs.Ytahnibhcfdamdaa.Co Go.Proofs.Ytahnibhcfdamdaa.Os Go.Proofs.Ytahnibhcfdamdaa.Is Go.Proofs.Ytahnibhcfdamdaa.Pk

def eight4 : List UInt8 := [3, 1, 0, 0, 0, 0, 0, 0]
/-- The message, and its packet. -/
def rest22 (l : List UInt8) : List UInt8 := eight4 ++ l.take 548
def body22 (l : List UInt8) : List UInt8 := filled (rest22 l) 1 (65535 - sum16 (rest22 l))
def msg22 (l : List UInt8) : List UInt8 := all4 192 0 0 0 64 1 ((dstP l).take 4) ((srcP l).take 4) (body22 l)
theorem rest22_blank (l : List UInt8) : Os.blank (rest22 l) 1 = rest22 l := by
  unfold Os.blank rest22 eight4
  rfl
theorem rest22_length (l : List UInt8) : (rest22 l).length = 8 + min 548 l.length := by
  unfold rest22 eight4
  rw [List.length_append, List.length_take]
  rfl
theorem body22_length (l : List UInt8) : (body22 l).length = 8 + min 548 l.length := by
  unfold body22
  rw [filled_length, rest22_length]
theorem body22_set (l : List UInt8) (s : Nat) (hs : 65535 - sum16 (rest22 l) = s) : ((rest22 l).set 2 (UInt8.ofNat (s / 256))).set 3 (UInt8.ofNat (s % 256)) = body22 l := by
  unfold body22 filled
  rw [hs, rest22_blank]
/-- The front of an address that is filled up by zeros is right. -/
theorem width_pad (x : List UInt8) (hx : x.length = 4) : widthA 4 (pad16 x) = 32 := by
  unfold widthA rightA pad16
  rw [List.drop_append, List.drop_of_length_le (by omega), hx]
  rfl
theorem whole_bad (l : List UInt8) (h : wholeB l = true) : badP l = 0 ∧ totP l = l.length ∧ l.length ≤ 65535 := of_decide_eq_true h
/-- A whole packet of family 4. -/
def who4 (l : List UInt8) : Prop := wholeB l = true ∧ is4 l
instance (l : List UInt8) : Decidable (who4 l) := inferInstanceAs (Decidable (wholeB l = true ∧ is4 l))

set_option maxHeartbeats 1000000 in
theorem unreach_no (A : Option Addr) (c : Nat) (l : List UInt8) (w0 : World) (hr : RB w0 (.slice A l.length c) l) (h : ¬ who4 l) :
    Calls Try.prog 47 #[.slice A l.length c] w0 fun e w' => e = .returned (.tuple #[.slice none 0 0, .int .i64 1]) ∧ Below w0.heap.size w0 w' := by
  have HR := Lib.hid hr
  have HP := Lib.hid (parseP_any (.slice A l.length c) l)
  have HW := Lib.hid (whole_any A c l)
  have HC := Lib.hid (cells_headP l)
  clear hr
  by_cases hw : wholeB l = true
  · obtain ⟨hb, ht, hl5⟩ := whole_bad l hw
    obtain ⟨v, sz, tt, cl, id, fl, fr, tl, pr, x, y, K⟩ := known l hb
    have hv : v = 6 := by
      rcases K.fam with ⟨_, h4⟩ | ⟨h6, _⟩
      · exact absurd ⟨hw, h4⟩ h
      · exact h6
    rw [hb, K.head, hv] at HP
    rw [K.head, hv] at HC
    rw [hw] at HW
    clear K h hw hb ht hl5 hv
    have HM := Lib.hid (Mem.start w0)
    have HB := HM.out.below
    go_enter Try.func47, Try.ntmps47
    go_wp2_with (first | refine m_rd ?_ | (refine m_wr ?_; clear HM HB; intro w b HM HB; try clear b) | (refine m_ap ?_; clear HM HB; intro w Aq cq HM HB) | fail)
    refine (HP.out _ (HR.out.below HB)).mono ?_
    rintro e w ⟨rfl, hb⟩
    replace HM := Lib.hid (HM.out.call hb)
    replace HB := HM.out.below
    clear hb
    go_wp2_with (first | refine m_rd ?_ | (refine m_wr ?_; clear HM HB; intro w b HM HB; try clear b) | (refine m_ap ?_; clear HM HB; intro w Aq cq HM HB) | fail)
    refine (HW.out _ (HR.out.below HB)).mono ?_
    rintro e w ⟨rfl, hb⟩
    replace HM := Lib.hid (HM.out.call hb)
    replace HB := HM.out.below
    clear hb
    go_wp2_with (first | refine m_rd ?_ | (refine m_wr ?_; clear HM HB; intro w b HM HB; try clear b) | (refine m_ap ?_; clear HM HB; intro w Aq cq HM HB) | fail)
    go_ret2
    exact ⟨rfl, HB⟩
  · rw [show wholeB l = false by simpa using hw] at HW
    generalize headP l = hv at HP HC
    generalize badP l = bq at HP
    clear h hw
    have HM := Lib.hid (Mem.start w0)
    have HB := HM.out.below
    go_enter Try.func47, Try.ntmps47
    go_wp2_with (first | refine m_rd ?_ | (refine m_wr ?_; clear HM HB; intro w b HM HB; try clear b) | (refine m_ap ?_; clear HM HB; intro w Aq cq HM HB) | fail)
    refine (HP.out _ (HR.out.below HB)).mono ?_
    rintro e w ⟨rfl, hb⟩
    replace HM := Lib.hid (HM.out.call hb)
    replace HB := HM.out.below
    clear hb
    go_wp2_with (first | refine m_rd ?_ | (refine m_wr ?_; clear HM HB; intro w b HM HB; try clear b) | (refine m_ap ?_; clear HM HB; intro w Aq cq HM HB) | fail)
    refine (HW.out _ (HR.out.below HB)).mono ?_
    rintro e w ⟨rfl, hb⟩
    replace HM := Lib.hid (HM.out.call hb)
    replace HB := HM.out.below
    clear hb
    go_wp2_with (first | refine m_rd ?_ | (refine m_wr ?_; clear HM HB; intro w b HM HB; try clear b) | (refine m_ap ?_; clear HM HB; intro w Aq cq HM HB) | fail)
    go_ret2
    exact ⟨rfl, HB⟩
set_option maxHeartbeats 1000000 in
theorem refUnreach_no (A : Option Addr) (c : Nat) (l : List UInt8) (w0 : World) (hr : RB w0 (.slice A l.length c) l) (h : ¬ who4 l) :
    Calls Try.prog 48 #[.slice A l.length c] w0 fun e w' => e = .returned (.tuple #[.slice none 0 0, .bool false]) ∧ Below w0.heap.size w0 w' := by
  have HR := Lib.hid hr
  have HP := Lib.hid (refParseP_any (.slice A l.length c) l)
  have HW := Lib.hid (refWhole_any A c l)
  have HC := Lib.hid (cells_headP l)
  clear hr
  by_cases hw : wholeB l = true
  · obtain ⟨hb, ht, hl5⟩ := whole_bad l hw
    obtain ⟨v, sz, tt, cl, id, fl, fr, tl, pr, x, y, K⟩ := known l hb
    have hv : v = 6 := by
      rcases K.fam with ⟨_, h4⟩ | ⟨h6, _⟩
      · exact absurd ⟨hw, h4⟩ h
      · exact h6
    rw [hb, K.head, hv] at HP
    rw [K.head, hv] at HC
    rw [hw] at HW
    clear K h hw hb ht hl5 hv
    have HM := Lib.hid (Mem.start w0)
    have HB := HM.out.below
    go_enter Try.func48, Try.ntmps48
    go_wp2_with (first | refine m_rd ?_ | (refine m_wr ?_; clear HM HB; intro w b HM HB; try clear b) | (refine m_ap ?_; clear HM HB; intro w Aq cq HM HB) | fail)
    refine (HP.out _ (HR.out.below HB)).mono ?_
    rintro e w ⟨rfl, hb⟩
    replace HM := Lib.hid (HM.out.call hb)
    replace HB := HM.out.below
    clear hb
    go_wp2_with (first | refine m_rd ?_ | (refine m_wr ?_; clear HM HB; intro w b HM HB; try clear b) | (refine m_ap ?_; clear HM HB; intro w Aq cq HM HB) | fail)
    refine (HW.out _ (HR.out.below HB)).mono ?_
    rintro e w ⟨rfl, hb⟩
    replace HM := Lib.hid (HM.out.call hb)
    replace HB := HM.out.below
    clear hb
    go_wp2_with (first | refine m_rd ?_ | (refine m_wr ?_; clear HM HB; intro w b HM HB; try clear b) | (refine m_ap ?_; clear HM HB; intro w Aq cq HM HB) | fail)
    go_ret2
    exact ⟨rfl, HB⟩
  · rw [show wholeB l = false by simpa using hw] at HW
    generalize headP l = hv at HP HC
    generalize badP l = bq at HP
    clear h hw
    have HM := Lib.hid (Mem.start w0)
    have HB := HM.out.below
    go_enter Try.func48, Try.ntmps48
    go_wp2_with (first | refine m_rd ?_ | (refine m_wr ?_; clear HM HB; intro w b HM HB; try clear b) | (refine m_ap ?_; clear HM HB; intro w Aq cq HM HB) | fail)
    refine (HP.out _ (HR.out.below HB)).mono ?_
    rintro e w ⟨rfl, hb⟩
    replace HM := Lib.hid (HM.out.call hb)
    replace HB := HM.out.below
    clear hb
    go_wp2_with (first | refine m_rd ?_ | (refine m_wr ?_; clear HM HB; intro w b HM HB; try clear b) | (refine m_ap ?_; clear HM HB; intro w Aq cq HM HB) | fail)
    refine (HW.out _ (HR.out.below HB)).mono ?_
    rintro e w ⟨rfl, hb⟩
    replace HM := Lib.hid (HM.out.call hb)
    replace HB := HM.out.below
    clear hb
    go_wp2_with (first | refine m_rd ?_ | (refine m_wr ?_; clear HM HB; intro w b HM HB; try clear b) | (refine m_ap ?_; clear HM HB; intro w Aq cq HM HB) | fail)
    go_ret2
    exact ⟨rfl, HB⟩
/-- What is known of a whole packet of family 4. -/
theorem known4 (l : List UInt8) (h : who4 l) : ∃ sz cl id fl fr tl pr x y, Known l 4 sz l.length cl id fl fr tl pr x y ∧ widthA 4 x = 32 ∧ widthA 4 y = 32 ∧ badP l = 0 ∧ l.length ≤ 65535 := by
  obtain ⟨hw, h4⟩ := h
  obtain ⟨hb, ht, hl5⟩ := whole_bad l hw
  obtain ⟨v, sz, tt, cl, id, fl, fr, tl, pr, x, y, K⟩ := known l hb
  have d := K.low
  have hv : v = 4 := by
    rcases K.fam with ⟨h, _⟩ | ⟨_, h, _⟩
    · exact h
    · exact absurd h4 h
  have htt : tt = l.length := by rw [K.tot, ht]
  subst hv htt
  refine ⟨sz, cl, id, fl, fr, tl, pr, x, y, K, ?_, ?_, hb, hl5⟩
  · rw [K.src]
    unfold srcP
    rw [if_pos h4]
    exact width_pad _ (by simp; omega)
  · rw [K.dst]
    unfold dstP
    rw [if_pos h4]
    exact width_pad _ (by simp; omega)
theorem built_own4 (x y : List UInt8) (hx : x.length = 16) (hy : y.length = 16) : Built 31 #[(3, .int .i64 192), (7, .int .i64 64), (8, .int .i64 1), (9, .agg (AV [4] y)), (10, .agg (AV [4] x))] (.agg (HV [0, 0, 0, 192, 0, 0, 0, 64, 1] 4 y 4 x)) := fun W => by
  obtain ⟨x0, x1, x2, x3, x4, x5, x6, x7, x8, x9, xa, xb, xc, xd, xe, xf, rfl⟩ := list16 hx
  obtain ⟨y0, y1, y2, y3, y4, y5, y6, y7, y8, y9, ya, yb, yc, yd, ye, yf, rfl⟩ := list16 hy
  kernel_rfl
theorem lit_eight4 : LitOf 8 #[(0, .int .u8 3), (1, .int .u8 1), (2, .int .u8 0), (3, .int .u8 0), (4, .int .u8 0), (5, .int .u8 0), (6, .int .u8 0), (7, .int .u8 0)] eight4 := ⟨rfl, by decide, fun W => bytes8 _ _ _ _ _ _ _ _ W⟩
set_option maxHeartbeats 2000000 in
theorem unreach_ok (A : Option Addr) (c : Nat) (l : List UInt8) (w0 : World) (hr : RB w0 (.slice A l.length c) l) (h : who4 l) :
    Calls Try.prog 47 #[.slice A l.length c] w0 (RowTup w0 (msg22 l)) := by
  have HR := Lib.hid hr
  have hc : l.length ≤ c := by obtain ⟨A, c2, e, h, _⟩ := hr; injection e with _ _ e; omega
  obtain ⟨sz, cl, id, fl, fr, tl, pr, x, y, K, hwx, hwy, hb, hl5⟩ := known4 l h
  have d := K.low
  obtain ⟨ad, rfl⟩ := HR.out.some (by omega)
  have HP := Lib.hid (parseP_any (.slice (some ad) l.length c) l)
  have HW := Lib.hid (whole_any (some ad) c l)
  have HC := Lib.hid (cells_headP l)
  rw [hb, K.head] at HP
  rw [K.head] at HC
  rw [h.1] at HW
  have HX := Lib.hid K.lx
  have HY := Lib.hid K.ly
  have BH1 := Lib.hid (built_own4 x y K.lx K.ly)
  have HC1 : Hid (Cells 31 (HV [0, 0, 0, 192, 0, 0, 0, 64, 1] 4 y 4 x)) := Lib.hid (cellsH _ _ _ _ _ rfl K.ly K.lx)
  have LT1 := Lib.hid lit_eight4
  have HLB := Lib.hid (body22_length l)
  have HSET := Lib.hid (body22_set l)
  have HRL := Lib.hid (rest22_length l)
  have HSUM : Hid (65535 - sum16 (rest22 l) < 65536) := Lib.hid (by omega)
  have HMSG : Hid (msg22 l = all4 192 0 0 0 64 1 (y.take 4) (x.take 4) (body22 l)) := Lib.hid (by unfold msg22; rw [K.src, K.dst])
  obtain ⟨k, hk⟩ : ∃ k, k = 8 + min 548 l.length := ⟨_, rfl⟩
  have hk8 : 8 ≤ k := by omega
  have hk5 : k ≤ 556 := by omega
  rw [← hk] at HLB HRL
  have HFL : Hid ([eight4, l.take 548].flatten = rest22 l) := Lib.hid (by simp [rest22])
  have HLEN : Hid ([eight4, l.take 548].flatten.length ≤ 1099511627776) := Lib.hid (by rw [HFL.out, HRL.out]; omega)
  have HS1 : Hid ([rest22 l].flatten = rest22 l) := Lib.hid (by simp)
  generalize rest22 l = R at HSET HRL HSUM HFL HLEN HS1
  generalize body22 l = Bd at HLB HSET HMSG
  generalize msg22 l = Mq at HMSG ⊢
  have hlw : 20 ≤ l.length := by omega
  clear hr h K d hb hk
  have HM := Lib.hid (Mem.start w0)
  have HB := HM.out.below
  by_cases h5 : l.length ≤ 548
  case' pos =>
    have hs := run_to ad l.length c l.length l.length rfl (by omega) (by omega)
    have HF := Lib.hid (fun (w : World) (hb : Below w0.heap.size w0 w) => (HR.out.below hb).front l.length c (by omega) (by omega))
    rw [show l.take l.length = l.take 548 by rw [List.take_length, List.take_of_length_le h5]] at HF
  case' neg =>
    have hs := run_to ad l.length c 548 548 rfl (by omega) (by omega)
    have HF := Lib.hid (fun (w : World) (hb : Below w0.heap.size w0 w) => (HR.out.below hb).front 548 c (by omega) (by omega))
  all_goals
    generalize l.take 548 = F5 at HF HFL HLEN
    go_enter Try.func47, Try.ntmps47
    go_wp2_with (first | refine m_rd ?_ | (refine m_wr ?_; clear HM HB; intro w b HM HB; try clear b) | (refine m_ap ?_; clear HM HB; intro w Aq cq HM HB) | fail)
    refine (HP.out _ (HR.out.below HB)).mono ?_
    rintro e w ⟨rfl, hb⟩
    replace HM := Lib.hid (HM.out.call hb)
    replace HB := HM.out.below
    clear hb
    go_wp2_with (first | refine m_rd ?_ | (refine m_wr ?_; clear HM HB; intro w b HM HB; try clear b) | (refine m_ap ?_; clear HM HB; intro w Aq cq HM HB) | fail)
    refine (HW.out _ (HR.out.below HB)).mono ?_
    rintro e w ⟨rfl, hb⟩
    replace HM := Lib.hid (HM.out.call hb)
    replace HB := HM.out.below
    clear hb
    go_wp2_with (first | refine m_rd ?_ | (refine m_wr ?_; clear HM HB; intro w b HM HB; try clear b) | (refine m_ap ?_; clear HM HB; intro w Aq cq HM HB) | fail)
    refine (concat_any _ _ [eight4, F5] _ (HM.out.rbs2 (by ((repeat (first | exact List.Mem.head _ | apply List.Mem.tail)); done)) (HM.out.rb (by ((repeat (first | exact List.Mem.head _ | apply List.Mem.tail)); done))) (HF.out _ HB)) HLEN.out).mono ?_
    rintro e w ⟨vr, rfl, ho, hb⟩
    replace HM := Lib.hid (HM.out.row hb ho)
    replace HB := HM.out.below
    clear ho hb
    rw [HFL.out] at HM
    obtain ⟨g, cap, rfl, hcap⟩ := HM.out.form (List.Mem.head _) (by rw [HRL.out]; omega)
    rw [HRL.out] at HM hcap
    rw [HRL.out]
    go_wp2_with (first | refine m_rd ?_ | (refine m_wr ?_; clear HM HB; intro w b HM HB; try clear b) | (refine m_ap ?_; clear HM HB; intro w Aq cq HM HB) | fail)
    refine (check_any _ _ [R] _ (HM.out.rbs1 (by ((repeat (first | exact List.Mem.head _ | apply List.Mem.tail)); done)) (HM.out.rb (by ((repeat (first | exact List.Mem.head _ | apply List.Mem.tail)); done)))) (by rw [HS1.out, HRL.out]; omega)).mono ?_
    rintro e w' ⟨rfl, rfl⟩
    rw [HS1.out]
    have HSET2 := Lib.hid (HSET.out _ rfl)
    clear HSET
    generalize 65535 - sum16 R = s at HSUM HSET2 ⊢
    have hsum := HSUM.out
    have HSI : Hid (((R.set 2 (UInt8.ofNat ((s : Int) / 256).toNat)).set 3 (UInt8.ofNat ((s : Int) % 256).toNat)) = Bd) := Lib.hid (by rw [← HSET2.out]; congr 2)
    go_wp2_with (first | refine m_rd ?_ | ((with_reducible apply m_putRow); (next => with_reducible exact rfl); (next => kernel_rfl); (next => exact rfl); (next => exact rfl); (next => exact HM); (next => ((repeat (first | exact Upd.head _ | apply Upd.tail)); done)); (next => exact decide_eq_true (by omega)); (next => exact ⟨by omega, by omega⟩); clear HM HB; intro w HM HB) | (refine m_wr ?_; clear HM HB; intro w b HM HB; try clear b) | (refine m_ap ?_; clear HM HB; intro w Aq cq HM HB) | fail)
    rw [HSI.out] at HM
    refine (put4_ok 0 0 0 192 0 0 0 64 1 y x _ Bd _ (HM.out.rb (by ((repeat (first | exact List.Mem.head _ | apply List.Mem.tail)); done))) HY.out HX.out (by decide) (by decide) (by decide) (by decide) (by decide) (by decide) hwy hwx (by rw [HLB.out]; omega)).mono ?_
    rintro e w ⟨v, rfl, ho, hb⟩
    replace HM := Lib.hid (HM.out.row hb ho)
    replace HB := HM.out.below
    clear ho hb
    go_wp2_with (first | refine m_rd ?_ | (refine m_wr ?_; clear HM HB; intro w b HM HB; try clear b) | (refine m_ap ?_; clear HM HB; intro w Aq cq HM HB) | fail)
    go_ret2
    exact ⟨_, rfl, by rw [HMSG.out]; exact HM.out.ob (by ((repeat (first | exact List.Mem.head _ | apply List.Mem.tail)); done)), HB⟩
theorem summed4_ok (ns : List Int) (a : Int) (x : List UInt8) (b : Int) (y : List UInt8) (v : Value) (w0 : World) (hn : ns.length = 9) (hx : x.length = 16) (hy : y.length = 16) (h : rightA a x = true) :
    Calls Try.prog 111 #[.agg (HV ns a x b y), v] w0 fun e w' => e = .returned v ∧ Below w0.heap.size w0 w' := by
  have HC : Hid (Cells 31 (HV ns a x b y)) := Lib.hid (cellsH _ _ _ _ _ hn hx hy)
  have HX := Lib.hid hx
  have HY := Lib.hid hy
  obtain ⟨n0, n1, n2, n3, n4, n5, n6, n7, n8, rfl⟩ := list9 hn
  clear hx hy hn
  have HM := Lib.hid (Mem.start w0)
  have HB := HM.out.below
  go_enter Try.func111, Try.ntmps111
  go_wp2_with (first | refine m_rd ?_ | (refine m_wr ?_; clear HM HB; intro w b HM HB; try clear b) | (refine m_ap ?_; clear HM HB; intro w Aq cq HM HB) | fail)
  refine (refRight_any a x _ HX.out).mono ?_
  rintro e w ⟨rfl, hb⟩
  replace HM := Lib.hid (HM.out.call hb)
  replace HB := HM.out.below
  clear hb
  rw [h]
  go_wp2_with (first | refine m_rd ?_ | (refine m_wr ?_; clear HM HB; intro w b HM HB; try clear b) | (refine m_ap ?_; clear HM HB; intro w Aq cq HM HB) | fail)
  go_ret
  exact ⟨rfl, HB⟩
set_option maxHeartbeats 2000000 in
theorem refUnreach_ok (A : Option Addr) (c : Nat) (l : List UInt8) (w0 : World) (hr : RB w0 (.slice A l.length c) l) (h : who4 l) :
    Calls Try.prog 48 #[.slice A l.length c] w0 fun e w' => ∃ v, e = .returned (.tuple #[v, .bool true]) ∧ OB w0.heap.size w' v (msg22 l) ∧ Below w0.heap.size w0 w' := by
  have HR := Lib.hid hr
  have hc : l.length ≤ c := by obtain ⟨A, c2, e, h, _⟩ := hr; injection e with _ _ e; omega
  obtain ⟨sz, cl, id, fl, fr, tl, pr, x, y, K, hwx, hwy, hb, hl5⟩ := known4 l h
  have d := K.low
  obtain ⟨ad, rfl⟩ := HR.out.some (by omega)
  have HP := Lib.hid (refParseP_any (.slice (some ad) l.length c) l)
  have HW := Lib.hid (refWhole_any (some ad) c l)
  have HC := Lib.hid (cells_headP l)
  rw [hb, K.head] at HP
  rw [K.head] at HC
  rw [h.1] at HW
  have HX := Lib.hid K.lx
  have HY := Lib.hid K.ly
  have hry := ((width32 4 y).1 hwy).2
  have BH1 := Lib.hid (built_own4 x y K.lx K.ly)
  have HC1 : Hid (Cells 31 (HV [0, 0, 0, 192, 0, 0, 0, 64, 1] 4 y 4 x)) := Lib.hid (cellsH _ _ _ _ _ rfl K.ly K.lx)
  have LT1 := Lib.hid lit_eight4
  have HLB := Lib.hid (body22_length l)
  have HSET := Lib.hid (body22_set l)
  have HRL := Lib.hid (rest22_length l)
  have HSUM : Hid (65535 - sum16 (rest22 l) < 65536) := Lib.hid (by omega)
  have HMSG : Hid (msg22 l = all4 192 0 0 0 64 1 (y.take 4) (x.take 4) (body22 l)) := Lib.hid (by unfold msg22; rw [K.src, K.dst])
  obtain ⟨k, hk⟩ : ∃ k, k = 8 + min 548 l.length := ⟨_, rfl⟩
  have hk8 : 8 ≤ k := by omega
  have hk5 : k ≤ 556 := by omega
  rw [← hk] at HLB HRL
  have HFL : Hid (eight4 ++ l.take 548 = rest22 l) := Lib.hid rfl
  have HN1 : Hid (eight4.length + (l.take 548).length = k) := Lib.hid (by rw [← List.length_append, HFL.out, HRL.out])
  generalize rest22 l = R at HSET HRL HSUM HFL
  generalize body22 l = Bd at HLB HSET HMSG
  generalize msg22 l = Mq at HMSG ⊢
  have hlw : 20 ≤ l.length := by omega
  have HR0 := HR
  clear hr h K d hb hk
  have HM := Lib.hid (Mem.start w0)
  have HB := HM.out.below
  by_cases h5 : l.length ≤ 548
  case' pos =>
    have hs := run_to ad l.length c l.length l.length rfl (by omega) (by omega)
    replace HR := Lib.hid (HR.out.front l.length c (by omega) (by omega))
    rw [show l.take l.length = l.take 548 by rw [List.take_length, List.take_of_length_le h5]] at HR
  case' neg =>
    have hs := run_to ad l.length c 548 548 rfl (by omega) (by omega)
    replace HR := Lib.hid (HR.out.front 548 c (by omega) (by omega))
  all_goals
    generalize l.take 548 = F5 at HR HFL HN1
    go_enter Try.func48, Try.ntmps48
    go_wp2_with (first | refine m_rd ?_ | (refine m_wr ?_; clear HM HB; intro w b HM HB; try clear b) | (refine m_ap ?_; clear HM HB; intro w Aq cq HM HB) | fail)
    refine (HP.out _ (HR0.out.below HB)).mono ?_
    rintro e w ⟨rfl, hb⟩
    replace HM := Lib.hid (HM.out.call hb)
    replace HB := HM.out.below
    clear hb
    go_wp2_with (first | refine m_rd ?_ | (refine m_wr ?_; clear HM HB; intro w b HM HB; try clear b) | (refine m_ap ?_; clear HM HB; intro w Aq cq HM HB) | fail)
    refine (HW.out _ (HR0.out.below HB)).mono ?_
    rintro e w ⟨rfl, hb⟩
    replace HM := Lib.hid (HM.out.call hb)
    replace HB := HM.out.below
    clear hb
    go_wp2_with (first | refine m_rd ?_ | (refine m_wr ?_; clear HM HB; intro w b HM HB; try clear b) | (refine m_ap ?_; clear HM HB; intro w Aq cq HM HB) | fail)
    rw [HFL.out] at HM
    obtain ⟨g, cap, e, hcap⟩ := HM.out.form (show Ent.row _ R ∈ _ by ((repeat (first | exact List.Mem.head _ | apply List.Mem.tail)); done)) (by rw [HRL.out]; omega)
    injection e with e1 e2 e3
    subst e1 e3
    clear e2
    refine (summed4_ok _ _ _ _ _ _ _ rfl HY.out HX.out hry).mono ?_
    rintro e w ⟨rfl, hb⟩
    replace HM := Lib.hid (HM.out.call hb)
    replace HB := HM.out.below
    clear hb
    go_wp2_with (first | refine m_rd ?_ | (refine m_wr ?_; clear HM HB; intro w b HM HB; try clear b) | (refine m_ap ?_; clear HM HB; intro w Aq cq HM HB) | fail)
    refine (refCheck_rb _ R _ (by apply Mem.rb HM.out; ((repeat (first | exact List.Mem.head _ | apply List.Mem.tail)); done)) (by rw [HRL.out]; omega)).mono ?_
    rintro e w' ⟨rfl, rfl⟩
    have HSET2 := Lib.hid (HSET.out _ rfl)
    clear HSET
    generalize 65535 - sum16 R = s at HSUM HSET2 ⊢
    have hsum := HSUM.out
    have HSI : Hid (((R.set 2 (UInt8.ofNat ((s : Int) / 256).toNat)).set 3 (UInt8.ofNat ((s : Int) % 256).toNat)) = Bd) := Lib.hid (by rw [← HSET2.out]; congr 2)
    go_wp2_with (first | refine m_rd ?_ | ((with_reducible apply m_putRow); (next => with_reducible exact rfl); (next => kernel_rfl); (next => exact rfl); (next => exact rfl); (next => exact HM); (next => ((repeat (first | exact Upd.head _ | apply Upd.tail)); done)); (next => exact decide_eq_true (by omega)); (next => exact ⟨by omega, by omega⟩); clear HM HB; intro w HM HB) | (refine m_wr ?_; clear HM HB; intro w b HM HB; try clear b) | (refine m_ap ?_; clear HM HB; intro w Aq cq HM HB) | fail)
    rw [HSI.out] at HM
    refine (refPut4_ok 0 0 0 192 0 0 0 64 1 y x _ Bd _ (HM.out.rb (by ((repeat (first | exact List.Mem.head _ | apply List.Mem.tail)); done))) HY.out HX.out (by decide) (by decide) (by decide) (by decide) (by decide) (by decide) hwy hwx (by rw [HLB.out]; omega)).mono ?_
    rintro e w ⟨v, rfl, ho, hb⟩
    replace HM := Lib.hid (HM.out.row hb ho)
    replace HB := HM.out.below
    clear ho hb
    go_wp2_with (first | refine m_rd ?_ | (refine m_wr ?_; clear HM HB; intro w b HM HB; try clear b) | (refine m_ap ?_; clear HM HB; intro w Aq cq HM HB) | fail)
    go_ret2
    exact ⟨_, rfl, by rw [HMSG.out]; exact HM.out.ob (by ((repeat (first | exact List.Mem.head _ | apply List.Mem.tail)); done)), HB⟩
end Go.Proofs.Ytahnibhcfdamdaa.I4
