/- Layer 23: the message that a packet did not arrive, of package icmpsix and of its reference. -/
import Derived.Test.YtahnibhcfdamdaaLf
import Derived.Test.YtahnibhcfdamdaaIx
set_option linter.unusedSimpArgs false
set_option linter.unusedVariables false
set_option maxRecDepth 100000
namespace Go.Proofs.Ytahnibhcfdamdaa.I6
open Go.RowKit Go.Proofs.YtahnibhcfdamdaaW.PrintWords Go.Proofs.Ytahnibhcfdamdaa.Bs Go.Proofs.Ytahnibhcfdamdaa.Av Go.Proofs.Ytahnibhcfdamdaa.Ad Go.Proofs.Ytahnibhcfdamdaa.Hd Go.Proofs.Ytahnibhcfdamdaa.Mm Go.Proofs.Ytahnibhcfdamdaa.Le Go.Proofs.Ytahnibhcfdamdaa.Ip Go.Proofs.Ytahnibhcfdamdaa.En Go.Proofs.Ytahnibhcfdamdaa.Co Go.Proofs.Ytahnibhcfdamdaa.Os Go.Proofs.Ytahnibhcfdamdaa.Is Go.Proofs.Ytahnibhcfdamdaa.Pk Go.Proofs.Ytahnibhcfdamdaa.I4

def eight6 : List UInt8 := [1, 0, 0, 0, 0, 0, 0, 0]
/-- What the check is of, ahead of the message. -/
def ahead6 (x y : List UInt8) (n : Nat) : List UInt8 := x ++ y ++ (leB 4 n).reverse ++ [0, 0, 0, 58]
/-- The message, and its packet. -/
def rest23 (l : List UInt8) : List UInt8 := eight6 ++ l.take 1232
def sum23 (l : List UInt8) : List UInt8 := ahead6 (dstP l) (srcP l) (rest23 l).length ++ rest23 l
def body23 (l : List UInt8) : List UInt8 := filled (rest23 l) 1 (65535 - sum16 (sum23 l))
def msg23 (l : List UInt8) : List UInt8 := all6 0 0 58 64 (dstP l) (srcP l) (body23 l)
theorem rest23_blank (l : List UInt8) : Os.blank (rest23 l) 1 = rest23 l := by
  unfold Os.blank rest23 eight6
  rfl
theorem rest23_length (l : List UInt8) : (rest23 l).length = 8 + min 1232 l.length := by
  unfold rest23 eight6
  rw [List.length_append, List.length_take]
  rfl
theorem body23_length (l : List UInt8) : (body23 l).length = 8 + min 1232 l.length := by
  unfold body23
  rw [filled_length, rest23_length]
theorem body23_set (l : List UInt8) (s : Nat) (hs : 65535 - sum16 (sum23 l) = s) : ((rest23 l).set 2 (UInt8.ofNat (s / 256))).set 3 (UInt8.ofNat (s % 256)) = body23 l := by
  unfold body23 filled
  rw [hs, rest23_blank]
theorem ahead6_length (x y : List UInt8) (n : Nat) (hx : x.length = 16) (hy : y.length = 16) : (ahead6 x y n).length = 40 := by
  unfold ahead6
  simp [hx, hy, leB_length]
/-- A whole packet of family 6. -/
def who6 (l : List UInt8) : Prop := wholeB l = true ∧ ¬ is4 l
instance (l : List UInt8) : Decidable (who6 l) := inferInstanceAs (Decidable (wholeB l = true ∧ ¬ is4 l))
set_option maxHeartbeats 1000000 in
theorem unreach_no (A : Option Addr) (c : Nat) (l : List UInt8) (w0 : World) (hr : RB w0 (.slice A l.length c) l) (h : ¬ who6 l) :
    Calls Try.prog 56 #[.slice A l.length c] w0 fun e w' => e = .returned (.tuple #[.slice none 0 0, .int .i64 1]) ∧ Below w0.heap.size w0 w' := by
  have HR := Lib.hid hr
  have HP := Lib.hid (parseP_any (.slice A l.length c) l)
  have HW := Lib.hid (whole_any A c l)
  have HC := Lib.hid (cells_headP l)
  clear hr
  by_cases hw : wholeB l = true
  · obtain ⟨hb, ht, hl5⟩ := whole_bad l hw
    obtain ⟨v, sz, tt, cl, id, fl, fr, tl, pr, x, y, K⟩ := known l hb
    have hv : v = 4 := by
      rcases K.fam with ⟨h4, _⟩ | ⟨_, h6, _⟩
      · exact h4
      · exact absurd ⟨hw, h6⟩ h
    rw [hb, K.head, hv] at HP
    rw [K.head, hv] at HC
    rw [hw] at HW
    clear K h hw hb ht hl5 hv
    have HM := Lib.hid (Mem.start w0)
    have HB := HM.out.below
    go_enter Try.func56, Try.ntmps56
    go_wp2_with (first | refine m_rd ?_ | (refine m_wr ?_; clear HM HB; intro w b HM HB; try clear b) | (refine m_ap ?_; clear HM HB; intro w Aq cq HM HB) | fail)
    refine (HP.out _ (HR.out.below HB)).mono ?_
    rintro e w ⟨rfl, hb⟩
    replace HM := Lib.hid (HM.out.call hb)
    replace HB := HM.out.below
    clear hb
    go_wp2_with (first | refine m_rd ?_ | (refine m_wr ?_; clear HM HB; intro w b HM HB; try clear b) | (refine m_ap ?_; clear HM HB; intro w Aq cq HM HB) | fail)
    refine (HW.out _ (HR.out.below HB)).mono ?_
    rintro e w ⟨rfl, hb⟩
    replace HM := Lib.hid (HM.out.call hb)
    replace HB := HM.out.below
    clear hb
    go_wp2_with (first | refine m_rd ?_ | (refine m_wr ?_; clear HM HB; intro w b HM HB; try clear b) | (refine m_ap ?_; clear HM HB; intro w Aq cq HM HB) | fail)
    go_ret2
    exact ⟨rfl, HB⟩
  · rw [show wholeB l = false by simpa using hw] at HW
    generalize headP l = hv at HP HC
    generalize badP l = bq at HP
    clear h hw
    have HM := Lib.hid (Mem.start w0)
    have HB := HM.out.below
    go_enter Try.func56, Try.ntmps56
    go_wp2_with (first | refine m_rd ?_ | (refine m_wr ?_; clear HM HB; intro w b HM HB; try clear b) | (refine m_ap ?_; clear HM HB; intro w Aq cq HM HB) | fail)
    refine (HP.out _ (HR.out.below HB)).mono ?_
    rintro e w ⟨rfl, hb⟩
    replace HM := Lib.hid (HM.out.call hb)
    replace HB := HM.out.below
    clear hb
    go_wp2_with (first | refine m_rd ?_ | (refine m_wr ?_; clear HM HB; intro w b HM HB; try clear b) | (refine m_ap ?_; clear HM HB; intro w Aq cq HM HB) | fail)
    refine (HW.out _ (HR.out.below HB)).mono ?_
    rintro e w ⟨rfl, hb⟩
    replace HM := Lib.hid (HM.out.call hb)
    replace HB := HM.out.below
    clear hb
    go_wp2_with (first | refine m_rd ?_ | (refine m_wr ?_; clear HM HB; intro w b HM HB; try clear b) | (refine m_ap ?_; clear HM HB; intro w Aq cq HM HB) | fail)
    go_ret2
    exact ⟨rfl, HB⟩
set_option maxHeartbeats 1000000 in
theorem refUnreach_no (A : Option Addr) (c : Nat) (l : List UInt8) (w0 : World) (hr : RB w0 (.slice A l.length c) l) (h : ¬ who6 l) :
    Calls Try.prog 57 #[.slice A l.length c] w0 fun e w' => e = .returned (.tuple #[.slice none 0 0, .bool false]) ∧ Below w0.heap.size w0 w' := by
  have HR := Lib.hid hr
  have HP := Lib.hid (refParseP_any (.slice A l.length c) l)
  have HW := Lib.hid (refWhole_any A c l)
  have HC := Lib.hid (cells_headP l)
  clear hr
  by_cases hw : wholeB l = true
  · obtain ⟨hb, ht, hl5⟩ := whole_bad l hw
    obtain ⟨v, sz, tt, cl, id, fl, fr, tl, pr, x, y, K⟩ := known l hb
    have hv : v = 4 := by
      rcases K.fam with ⟨h4, _⟩ | ⟨_, h6, _⟩
      · exact h4
      · exact absurd ⟨hw, h6⟩ h
    rw [hb, K.head, hv] at HP
    rw [K.head, hv] at HC
    rw [hw] at HW
    clear K h hw hb ht hl5 hv
    have HM := Lib.hid (Mem.start w0)
    have HB := HM.out.below
    go_enter Try.func57, Try.ntmps57
    go_wp2_with (first | refine m_rd ?_ | (refine m_wr ?_; clear HM HB; intro w b HM HB; try clear b) | (refine m_ap ?_; clear HM HB; intro w Aq cq HM HB) | fail)
    refine (HP.out _ (HR.out.below HB)).mono ?_
    rintro e w ⟨rfl, hb⟩
    replace HM := Lib.hid (HM.out.call hb)
    replace HB := HM.out.below
    clear hb
    go_wp2_with (first | refine m_rd ?_ | (refine m_wr ?_; clear HM HB; intro w b HM HB; try clear b) | (refine m_ap ?_; clear HM HB; intro w Aq cq HM HB) | fail)
    refine (HW.out _ (HR.out.below HB)).mono ?_
    rintro e w ⟨rfl, hb⟩
    replace HM := Lib.hid (HM.out.call hb)
    replace HB := HM.out.below
    clear hb
    go_wp2_with (first | refine m_rd ?_ | (refine m_wr ?_; clear HM HB; intro w b HM HB; try clear b) | (refine m_ap ?_; clear HM HB; intro w Aq cq HM HB) | fail)
    go_ret2
    exact ⟨rfl, HB⟩
  · rw [show wholeB l = false by simpa using hw] at HW
    generalize headP l = hv at HP HC
    generalize badP l = bq at HP
    clear h hw
    have HM := Lib.hid (Mem.start w0)
    have HB := HM.out.below
    go_enter Try.func57, Try.ntmps57
    go_wp2_with (first | refine m_rd ?_ | (refine m_wr ?_; clear HM HB; intro w b HM HB; try clear b) | (refine m_ap ?_; clear HM HB; intro w Aq cq HM HB) | fail)
    refine (HP.out _ (HR.out.below HB)).mono ?_
    rintro e w ⟨rfl, hb⟩
    replace HM := Lib.hid (HM.out.call hb)
    replace HB := HM.out.below
    clear hb
    go_wp2_with (first | refine m_rd ?_ | (refine m_wr ?_; clear HM HB; intro w b HM HB; try clear b) | (refine m_ap ?_; clear HM HB; intro w Aq cq HM HB) | fail)
    refine (HW.out _ (HR.out.below HB)).mono ?_
    rintro e w ⟨rfl, hb⟩
    replace HM := Lib.hid (HM.out.call hb)
    replace HB := HM.out.below
    clear hb
    go_wp2_with (first | refine m_rd ?_ | (refine m_wr ?_; clear HM HB; intro w b HM HB; try clear b) | (refine m_ap ?_; clear HM HB; intro w Aq cq HM HB) | fail)
    go_ret2
    exact ⟨rfl, HB⟩
theorem known6 (l : List UInt8) (h : who6 l) : ∃ cl id fl tl pr x y, Known l 6 40 l.length cl id fl 0 tl pr x y ∧ badP l = 0 ∧ l.length ≤ 65535 := by
  obtain ⟨hw, h4⟩ := h
  obtain ⟨hb, ht, hl5⟩ := whole_bad l hw
  obtain ⟨v, sz, tt, cl, id, fl, fr, tl, pr, x, y, K⟩ := known l hb
  have htt : tt = l.length := by rw [K.tot, ht]
  rcases K.fam with ⟨_, h⟩ | ⟨h, _, hs, hf⟩
  · exact absurd h h4
  · subst h htt hs hf
    exact ⟨cl, id, fl, tl, pr, x, y, K, hb, hl5⟩
theorem bytesA6 (x : List UInt8) (hx : x.length = 16) : bytesA 6 x = x := by
  unfold bytesA widthA rightA
  simp
  exact List.take_of_length_le (by omega)
set_option maxHeartbeats 2000000 in
theorem ahead_any (n0 n1 n2 n3 n4 n5 n6 n7 n8 : Int) (x y : List UInt8) (n : Nat) (w0 : World) (hx : x.length = 16) (hy : y.length = 16) (hn : n < 65600) :
    Calls Try.prog 114 #[.agg (HV [n0, n1, n2, n3, n4, n5, n6, n7, n8] 6 x 6 y), .int .i64 n] w0 (Row w0 (ahead6 x y n)) := by
  have HC : Hid (Cells 31 (HV [n0, n1, n2, n3, n4, n5, n6, n7, n8] 6 x 6 y)) := Lib.hid (cellsH _ _ _ _ _ rfl hx hy)
  have HX := Lib.hid hx
  have HY := Lib.hid hy
  have HBX := Lib.hid (bytesA6 x hx)
  have HBY := Lib.hid (bytesA6 y hy)
  have LT1 : Hid (LitOf 4 #[(0, .int .u8 0), (1, .int .u8 0), (2, .int .u8 0), (3, .int .u8 58)] [0, 0, 0, 58]) := Lib.hid ⟨rfl, by decide, fun W => by kernel_rfl⟩
  have HBIG := Lib.hid (fun w => big_any n 4 w (by omega) (by decide) (by decide) (fun _ => by unfold pw; omega))
  unfold RowTup at HBIG
  have HL4 : Hid ((leB 4 n).reverse.length = 4) := Lib.hid (by simp [leB_length])
  have HFL : Hid ([x, y, (leB 4 n).reverse, [0, 0, 0, 58]].flatten = ahead6 x y n) := Lib.hid (by unfold ahead6; simp)
  have HLEN : Hid ([x, y, (leB 4 n).reverse, [0, 0, 0, 58]].flatten.length ≤ 1099511627776) := Lib.hid (by rw [HFL.out, ahead6_length _ _ _ hx hy]; decide)
  generalize (leB 4 n).reverse = bn at HBIG HL4 HFL HLEN
  generalize ahead6 x y n = Q at HFL ⊢
  clear hx hy
  have HM := Lib.hid (Mem.start w0)
  have HB := HM.out.below
  go_enter Try.func114, Try.ntmps114
  go_wp2_with (first | refine m_rd ?_ | (refine m_wr ?_; clear HM HB; intro w b HM HB; try clear b) | (refine m_ap ?_; clear HM HB; intro w Aq cq HM HB) | fail)
  refine (HBIG.out _).mono ?_
  rintro e w ⟨vb, rfl, ho, hb⟩
  replace HM := Lib.hid (HM.out.row hb ho)
  replace HB := HM.out.below
  clear ho hb
  obtain ⟨Ab, cb, rfl, -, -⟩ := HM.out.rb (by ((repeat (first | exact List.Mem.head _ | apply List.Mem.tail)); done))
  rw [HL4.out] at HM ⊢
  go_wp2_with (first | refine m_rd ?_ | (refine m_wr ?_; clear HM HB; intro w b HM HB; try clear b) | (refine m_ap ?_; clear HM HB; intro w Aq cq HM HB) | fail)
  try simp only [Act.put, List.setIfInBounds_toArray, List.set_cons_zero, List.set_cons_succ]
  refine wp_region_held_drew (S := fun w' => Mem w0 w' _) (by kernel_rfl) (HM.out.drew.keep (show Ent.blk b _ _ ∈ _ by ((repeat (first | exact List.Mem.head _ | apply List.Mem.tail)); done))) (fun hS => ?_)
  replace HM := Lib.hid HM.out.drew
  replace HB := HM.out.below
  refine tk 0 13 ?_
  refine tkv 1 14 (.agg (AV [6] x)) rfl (yields_at rfl rfl (fun _ h => h) (by ((repeat (first | exact List.Mem.head _ | apply List.Mem.tail)); done)) (AV [6] x) (HV_src _ _ _ _ _ 9 rfl HX.out) Try.underlying25 rfl (info_AV _ _ HX.out) (by kernel_rfl)) ?_
  refine tk 3 16 ?_
  refine tkv 4 17 (.agg (AV [6] y)) rfl (yields_at rfl rfl (fun _ h => h) (by ((repeat (first | exact List.Mem.head _ | apply List.Mem.tail)); done)) (AV [6] y) (HV_dst _ _ _ _ _ 26 rfl HX.out) Try.underlying25 rfl (info_AV _ _ HY.out) (by kernel_rfl)) ?_
  refine tk 6 19 ?_
  refine wpAnyH_ready (rs := [2, 7]) (by kernel_rfl) (by simp) (AllReadyH.cons rfl (fun K' hK => ?_) (AllReadyH.cons rfl (fun K' hK => ?_) AllReadyH.nil))
  · go_simp
    refine (bytes_any 6 x _ HX.out).mono ?_
    rintro e w ⟨vx, rfl, ho, hb⟩
    replace HM := Lib.hid (HM.out.row hb ho)
    replace HB := HM.out.below
    clear ho hb
    rw [HBX.out] at HM
    obtain ⟨Ax, cx, rfl, -, -⟩ := HM.out.rb (by ((repeat (first | exact List.Mem.head _ | apply List.Mem.tail)); done))
    refine hK.out _ _ (HM.out.keep (show Ent.blk b _ _ ∈ _ by ((repeat (first | exact List.Mem.head _ | apply List.Mem.tail)); done))) (fun hS2 => ?_)
    clear hS hK
    have hS := hS2
    clear hS2
    try simp only [Act.put, List.setIfInBounds_toArray, List.set_cons_zero, List.set_cons_succ]
    refine wpAnyH_ready (rs := [5, 7]) (by kernel_rfl) (by simp) (AllReadyH.cons rfl (fun K' hK => ?_) (AllReadyH.cons rfl (fun K' hK => ?_) AllReadyH.nil))
    · go_simp
      refine (bytes_any 6 y _ HY.out).mono ?_
      rintro e w ⟨vy, rfl, ho, hb⟩
      replace HM := Lib.hid (HM.out.row hb ho)
      replace HB := HM.out.below
      clear ho hb
      rw [HBY.out] at HM
      obtain ⟨Ay, cy, rfl, -, -⟩ := HM.out.rb (by ((repeat (first | exact List.Mem.head _ | apply List.Mem.tail)); done))
      refine hK.out _ _ (HM.out.keep (show Ent.blk b _ _ ∈ _ by ((repeat (first | exact List.Mem.head _ | apply List.Mem.tail)); done))) (fun hS2 => ?_)
      clear hS hK
      have hS := hS2
      clear hS2
      try simp only [Act.put, List.setIfInBounds_toArray, List.set_cons_zero, List.set_cons_succ]
      refine rone 7 rfl fun K' hK => ?_
      refine s_wr ?_ HM (Wr.lit rfl LT1.out rfl) (by kernel_rfl)
      clear HM HB
      intro w b4 HM HB
      refine hK.out _ _ (HM.out.keep (show Ent.blk b _ _ ∈ _ by ((repeat (first | exact List.Mem.head _ | apply List.Mem.tail)); done))) (fun hS2 => ?_)
      clear hS hK
      have hS := hS2
      clear hS2
      try simp only [Act.put, List.setIfInBounds_toArray, List.set_cons_zero, List.set_cons_succ]
      refine rone 8 rfl fun K' hK => ?_
      refine s_wr ?_ HM (Wr.sl4 rfl rfl rfl rfl rfl) (by kernel_rfl)
      clear HM HB
      intro w b5 HM HB
      refine hK.out _ _ (HM.out.keep (show Ent.blk b _ _ ∈ _ by ((repeat (first | exact List.Mem.head _ | apply List.Mem.tail)); done))) (fun hS2 => ?_)
      clear hS hK
      have hS := hS2
      clear hS2
      try simp only [Act.put, List.setIfInBounds_toArray, List.set_cons_zero, List.set_cons_succ]
      refine rone 9 rfl fun K' hK => ?_
      go_simp
      refine (concat_any _ _ [x, y, bn, [0, 0, 0, 58]] _ (HM.out.rbs4 (by ((repeat (first | exact List.Mem.head _ | apply List.Mem.tail)); done)) (HM.out.rb (by ((repeat (first | exact List.Mem.head _ | apply List.Mem.tail)); done))) (HM.out.rb (by ((repeat (first | exact List.Mem.head _ | apply List.Mem.tail)); done))) (HM.out.rb (by ((repeat (first | exact List.Mem.head _ | apply List.Mem.tail)); done))) (HM.out.rb (by ((repeat (first | exact List.Mem.head _ | apply List.Mem.tail)); done)))) HLEN.out).mono ?_
      rintro e w ⟨vr, rfl, ho, hb⟩
      replace HM := Lib.hid (HM.out.row hb ho)
      replace HB := HM.out.below
      clear ho hb
      rw [HFL.out] at HM
      refine hK.out _ _ (HM.out.keep (show Ent.blk b _ _ ∈ _ by ((repeat (first | exact List.Mem.head _ | apply List.Mem.tail)); done))) (fun hS2 => ?_)
      clear hS hK
      have hS := hS2
      clear hS2
      try simp only [Act.put, List.setIfInBounds_toArray, List.set_cons_zero, List.set_cons_succ]
      refine tk 10 4 ?_
      refine wpAnyH_done (by kernel_rfl) ?_ _
      clear hS
      go_wp2_with (first | refine m_rd ?_ | (refine m_wr ?_; clear HM HB; intro w b HM HB; try clear b) | (refine m_ap ?_; clear HM HB; intro w Aq cq HM HB) | fail)
      go_ret
      exact ⟨_, rfl, HM.out.ob (by ((repeat (first | exact List.Mem.head _ | apply List.Mem.tail)); done)), HB⟩
    · refine s_wr ?_ HM (Wr.lit rfl LT1.out rfl) (by kernel_rfl)
      clear HM HB
      intro w b4 HM HB
      refine hK.out _ _ (HM.out.keep (show Ent.blk b _ _ ∈ _ by ((repeat (first | exact List.Mem.head _ | apply List.Mem.tail)); done))) (fun hS2 => ?_)
      clear hS hK
      have hS := hS2
      clear hS2
      try simp only [Act.put, List.setIfInBounds_toArray, List.set_cons_zero, List.set_cons_succ]
      refine rone 5 rfl fun K' hK => ?_
      go_simp
      refine (bytes_any 6 y _ HY.out).mono ?_
      rintro e w ⟨vy, rfl, ho, hb⟩
      replace HM := Lib.hid (HM.out.row hb ho)
      replace HB := HM.out.below
      clear ho hb
      rw [HBY.out] at HM
      obtain ⟨Ay, cy, rfl, -, -⟩ := HM.out.rb (by ((repeat (first | exact List.Mem.head _ | apply List.Mem.tail)); done))
      refine hK.out _ _ (HM.out.keep (show Ent.blk b _ _ ∈ _ by ((repeat (first | exact List.Mem.head _ | apply List.Mem.tail)); done))) (fun hS2 => ?_)
      clear hS hK
      have hS := hS2
      clear hS2
      try simp only [Act.put, List.setIfInBounds_toArray, List.set_cons_zero, List.set_cons_succ]
      refine rone 8 rfl fun K' hK => ?_
      refine s_wr ?_ HM (Wr.sl4 rfl rfl rfl rfl rfl) (by kernel_rfl)
      clear HM HB
      intro w b5 HM HB
      refine hK.out _ _ (HM.out.keep (show Ent.blk b _ _ ∈ _ by ((repeat (first | exact List.Mem.head _ | apply List.Mem.tail)); done))) (fun hS2 => ?_)
      clear hS hK
      have hS := hS2
      clear hS2
      try simp only [Act.put, List.setIfInBounds_toArray, List.set_cons_zero, List.set_cons_succ]
      refine rone 9 rfl fun K' hK => ?_
      go_simp
      refine (concat_any _ _ [x, y, bn, [0, 0, 0, 58]] _ (HM.out.rbs4 (by ((repeat (first | exact List.Mem.head _ | apply List.Mem.tail)); done)) (HM.out.rb (by ((repeat (first | exact List.Mem.head _ | apply List.Mem.tail)); done))) (HM.out.rb (by ((repeat (first | exact List.Mem.head _ | apply List.Mem.tail)); done))) (HM.out.rb (by ((repeat (first | exact List.Mem.head _ | apply List.Mem.tail)); done))) (HM.out.rb (by ((repeat (first | exact List.Mem.head _ | apply List.Mem.tail)); done)))) HLEN.out).mono ?_
      rintro e w ⟨vr, rfl, ho, hb⟩
      replace HM := Lib.hid (HM.out.row hb ho)
      replace HB := HM.out.below
      clear ho hb
      rw [HFL.out] at HM
      refine hK.out _ _ (HM.out.keep (show Ent.blk b _ _ ∈ _ by ((repeat (first | exact List.Mem.head _ | apply List.Mem.tail)); done))) (fun hS2 => ?_)
      clear hS hK
      have hS := hS2
      clear hS2
      try simp only [Act.put, List.setIfInBounds_toArray, List.set_cons_zero, List.set_cons_succ]
      refine tk 10 4 ?_
      refine wpAnyH_done (by kernel_rfl) ?_ _
      clear hS
      go_wp2_with (first | refine m_rd ?_ | (refine m_wr ?_; clear HM HB; intro w b HM HB; try clear b) | (refine m_ap ?_; clear HM HB; intro w Aq cq HM HB) | fail)
      go_ret
      exact ⟨_, rfl, HM.out.ob (by ((repeat (first | exact List.Mem.head _ | apply List.Mem.tail)); done)), HB⟩
  · refine s_wr ?_ HM (Wr.lit rfl LT1.out rfl) (by kernel_rfl)
    clear HM HB
    intro w b4 HM HB
    refine hK.out _ _ (HM.out.keep (show Ent.blk b _ _ ∈ _ by ((repeat (first | exact List.Mem.head _ | apply List.Mem.tail)); done))) (fun hS2 => ?_)
    clear hS hK
    have hS := hS2
    clear hS2
    try simp only [Act.put, List.setIfInBounds_toArray, List.set_cons_zero, List.set_cons_succ]
    refine rone 2 rfl fun K' hK => ?_
    go_simp
    refine (bytes_any 6 x _ HX.out).mono ?_
    rintro e w ⟨vx, rfl, ho, hb⟩
    replace HM := Lib.hid (HM.out.row hb ho)
    replace HB := HM.out.below
    clear ho hb
    rw [HBX.out] at HM
    obtain ⟨Ax, cx, rfl, -, -⟩ := HM.out.rb (by ((repeat (first | exact List.Mem.head _ | apply List.Mem.tail)); done))
    refine hK.out _ _ (HM.out.keep (show Ent.blk b _ _ ∈ _ by ((repeat (first | exact List.Mem.head _ | apply List.Mem.tail)); done))) (fun hS2 => ?_)
    clear hS hK
    have hS := hS2
    clear hS2
    try simp only [Act.put, List.setIfInBounds_toArray, List.set_cons_zero, List.set_cons_succ]
    refine rone 5 rfl fun K' hK => ?_
    go_simp
    refine (bytes_any 6 y _ HY.out).mono ?_
    rintro e w ⟨vy, rfl, ho, hb⟩
    replace HM := Lib.hid (HM.out.row hb ho)
    replace HB := HM.out.below
    clear ho hb
    rw [HBY.out] at HM
    obtain ⟨Ay, cy, rfl, -, -⟩ := HM.out.rb (by ((repeat (first | exact List.Mem.head _ | apply List.Mem.tail)); done))
    refine hK.out _ _ (HM.out.keep (show Ent.blk b _ _ ∈ _ by ((repeat (first | exact List.Mem.head _ | apply List.Mem.tail)); done))) (fun hS2 => ?_)
    clear hS hK
    have hS := hS2
    clear hS2
    try simp only [Act.put, List.setIfInBounds_toArray, List.set_cons_zero, List.set_cons_succ]
    refine rone 8 rfl fun K' hK => ?_
    refine s_wr ?_ HM (Wr.sl4 rfl rfl rfl rfl rfl) (by kernel_rfl)
    clear HM HB
    intro w b5 HM HB
    refine hK.out _ _ (HM.out.keep (show Ent.blk b _ _ ∈ _ by ((repeat (first | exact List.Mem.head _ | apply List.Mem.tail)); done))) (fun hS2 => ?_)
    clear hS hK
    have hS := hS2
    clear hS2
    try simp only [Act.put, List.setIfInBounds_toArray, List.set_cons_zero, List.set_cons_succ]
    refine rone 9 rfl fun K' hK => ?_
    go_simp
    refine (concat_any _ _ [x, y, bn, [0, 0, 0, 58]] _ (HM.out.rbs4 (by ((repeat (first | exact List.Mem.head _ | apply List.Mem.tail)); done)) (HM.out.rb (by ((repeat (first | exact List.Mem.head _ | apply List.Mem.tail)); done))) (HM.out.rb (by ((repeat (first | exact List.Mem.head _ | apply List.Mem.tail)); done))) (HM.out.rb (by ((repeat (first | exact List.Mem.head _ | apply List.Mem.tail)); done))) (HM.out.rb (by ((repeat (first | exact List.Mem.head _ | apply List.Mem.tail)); done)))) HLEN.out).mono ?_
    rintro e w ⟨vr, rfl, ho, hb⟩
    replace HM := Lib.hid (HM.out.row hb ho)
    replace HB := HM.out.below
    clear ho hb
    rw [HFL.out] at HM
    refine hK.out _ _ (HM.out.keep (show Ent.blk b _ _ ∈ _ by ((repeat (first | exact List.Mem.head _ | apply List.Mem.tail)); done))) (fun hS2 => ?_)
    clear hS hK
    have hS := hS2
    clear hS2
    try simp only [Act.put, List.setIfInBounds_toArray, List.set_cons_zero, List.set_cons_succ]
    refine tk 10 4 ?_
    refine wpAnyH_done (by kernel_rfl) ?_ _
    clear hS
    go_wp2_with (first | refine m_rd ?_ | (refine m_wr ?_; clear HM HB; intro w b HM HB; try clear b) | (refine m_ap ?_; clear HM HB; intro w Aq cq HM HB) | fail)
    go_ret
    exact ⟨_, rfl, HM.out.ob (by ((repeat (first | exact List.Mem.head _ | apply List.Mem.tail)); done)), HB⟩
theorem be4 (n : Nat) (hn : n < 65600) : (leB 4 n).reverse = [0, UInt8.ofNat (n / 65536), UInt8.ofNat (n / 256 % 256), UInt8.ofNat (n % 256)] := by
  simp only [leB, List.reverse_cons, List.reverse_nil, List.nil_append, List.cons_append]
  rw [show n / 256 / 256 / 256 % 256 = 0 by omega, show n / 256 / 256 % 256 = n / 65536 by omega]
  rfl
set_option maxHeartbeats 2000000 in
theorem summed6_any (n0 n1 n2 n3 n4 n5 n6 n7 n8 : Int) (x y : List UInt8) (A : Option Addr) (c : Nat) (R : List UInt8) (w0 : World) (hr : RB w0 (.slice A R.length c) R) (hx : x.length = 16) (hy : y.length = 16) (hn : R.length < 65600) :
    Calls Try.prog 115 #[.agg (HV [n0, n1, n2, n3, n4, n5, n6, n7, n8] 6 x 6 y), .slice A R.length c] w0 (Row w0 (ahead6 x y R.length ++ R)) := by
  have HC : Hid (Cells 31 (HV [n0, n1, n2, n3, n4, n5, n6, n7, n8] 6 x 6 y)) := Lib.hid (cellsH _ _ _ _ _ rfl hx hy)
  have HR := Lib.hid hr
  have HX := Lib.hid hx
  have HY := Lib.hid hy
  have HBX := Lib.hid (bytesA6 x hx)
  have HBY := Lib.hid (bytesA6 y hy)
  obtain ⟨n, hnn⟩ : ∃ n, n = R.length := ⟨_, rfl⟩
  rw [← hnn] at HR hn ⊢
  have LT1 : Hid (LitOf 0 #[] []) := Lib.hid ⟨rfl, by decide, fun W => by kernel_rfl⟩
  have LT2 : Hid (LitOf 8 #[(0, .int .u8 ((n : Int) / 16777216)), (1, .int .u8 ((n : Int) / 65536 % 256)), (2, .int .u8 ((n : Int) / 256 % 256)), (3, .int .u8 ((n : Int) % 256)), (4, .int .u8 0), (5, .int .u8 0), (6, .int .u8 0), (7, .int .u8 58)] ((leB 4 n).reverse ++ [0, 0, 0, 58])) := Lib.hid ⟨by simp [leB_length], by decide, fun W => by
    rw [be4 n hn]
    unfold encs
    simp only [List.cons_append, List.nil_append, List.map_cons, List.map_nil]
    rw [B_ofNat (n / 65536) (by omega), B_ofNat _ (show n / 256 % 256 < 256 by omega), B_ofNat _ (show n % 256 < 256 by omega), show ((n : Int) / 16777216) = 0 by omega, show ((n : Int) / 65536 % 256) = ((n / 65536 : Nat) : Int) by omega, show ((n : Int) / 256 % 256) = ((n / 256 % 256 : Nat) : Int) by omega, show ((n : Int) % 256) = ((n % 256 : Nat) : Int) by omega]
    exact bytes8 _ _ _ _ _ _ _ _ W⟩
  have HN1 : Hid (([] : List UInt8).length + x.length = 16) := Lib.hid (by rw [hx]; rfl)
  have HN2 : Hid (x.length + y.length = 32) := Lib.hid (by rw [hx, hy])
  have HN3 : Hid ((x ++ y).length + ((leB 4 n).reverse ++ [0, 0, 0, 58]).length = 40) := Lib.hid (by simp [hx, hy, leB_length])
  have HE3 : Hid (x ++ y ++ ((leB 4 n).reverse ++ [0, 0, 0, 58]) = ahead6 x y n) := Lib.hid (by unfold ahead6; simp)
  have HN4 : Hid ((x ++ y ++ ((leB 4 n).reverse ++ [0, 0, 0, 58])).length + R.length = 40 + n) := Lib.hid (by rw [HE3.out, ahead6_length _ _ _ hx hy, hnn])
  generalize (leB 4 n).reverse ++ [0, 0, 0, 58] = Bn at LT2 HN3 HE3 HN4
  generalize ahead6 x y n = Q at HE3 ⊢
  clear hx hy hnn
  have HM := Lib.hid (Mem.start w0)
  have HB := HM.out.below
  go_enter Try.func115, Try.ntmps115
  go_wp2_with (first | refine m_rd ?_ | (refine m_wr ?_; clear HM HB; intro w b HM HB; try clear b) | (refine m_ap ?_; clear HM HB; intro w Aq cq HM HB) | fail)
  refine (refBytes_any 6 x _ HX.out).mono ?_
  rintro e w ⟨vx, rfl, ho, hb⟩
  replace HM := Lib.hid (HM.out.row hb ho)
  replace HB := HM.out.below
  clear ho hb
  rw [HBX.out] at HM
  obtain ⟨Ax, cx, rfl, -, -⟩ := HM.out.rb (by ((repeat (first | exact List.Mem.head _ | apply List.Mem.tail)); done))
  go_wp2_with (first | refine m_rd ?_ | (refine m_wr ?_; clear HM HB; intro w b HM HB; try clear b) | (refine m_ap ?_; clear HM HB; intro w Aq cq HM HB) | fail)
  refine (refBytes_any 6 y _ HY.out).mono ?_
  rintro e w ⟨vy, rfl, ho, hb⟩
  replace HM := Lib.hid (HM.out.row hb ho)
  replace HB := HM.out.below
  clear ho hb
  rw [HBY.out] at HM
  obtain ⟨Ay, cy, rfl, -, -⟩ := HM.out.rb (by ((repeat (first | exact List.Mem.head _ | apply List.Mem.tail)); done))
  go_wp2_with (first | refine m_rd ?_ | (refine m_wr ?_; clear HM HB; intro w b HM HB; try clear b) | (refine m_ap ?_; clear HM HB; intro w Aq cq HM HB) | fail)
  rw [List.nil_append, HE3.out] at HM
  go_ret
  exact ⟨_, rfl, HM.out.ob (by ((repeat (first | exact List.Mem.head _ | apply List.Mem.tail)); done)), HB⟩
theorem built_own6 (x y : List UInt8) (hx : x.length = 16) (hy : y.length = 16) : Built 31 #[(7, .int .i64 64), (8, .int .i64 58), (9, .agg (AV [6] y)), (10, .agg (AV [6] x))] (.agg (HV [0, 0, 0, 0, 0, 0, 0, 64, 58] 6 y 6 x)) := fun W => by
  obtain ⟨x0, x1, x2, x3, x4, x5, x6, x7, x8, x9, xa, xb, xc, xd, xe, xf, rfl⟩ := list16 hx
  obtain ⟨y0, y1, y2, y3, y4, y5, y6, y7, y8, y9, ya, yb, yc, yd, ye, yf, rfl⟩ := list16 hy
  kernel_rfl
theorem lit_eight6 : LitOf 8 #[(0, .int .u8 1), (1, .int .u8 0), (2, .int .u8 0), (3, .int .u8 0), (4, .int .u8 0), (5, .int .u8 0), (6, .int .u8 0), (7, .int .u8 0)] eight6 := ⟨rfl, by decide, fun W => bytes8 _ _ _ _ _ _ _ _ W⟩
set_option maxHeartbeats 2000000 in
theorem unreach_ok (A : Option Addr) (c : Nat) (l : List UInt8) (w0 : World) (hr : RB w0 (.slice A l.length c) l) (h : who6 l) :
    Calls Try.prog 56 #[.slice A l.length c] w0 (RowTup w0 (msg23 l)) := by
  have HR := Lib.hid hr
  have hc : l.length ≤ c := by obtain ⟨A, c2, e, h, _⟩ := hr; injection e with _ _ e; omega
  obtain ⟨cl, id, fl, tl, pr, x, y, K, hb, hl5⟩ := known6 l h
  have d := K.low
  obtain ⟨ad, rfl⟩ := HR.out.some (by omega)
  have HP := Lib.hid (parseP_any (.slice (some ad) l.length c) l)
  have HW := Lib.hid (whole_any (some ad) c l)
  have HC := Lib.hid (cells_headP l)
  rw [hb, K.head] at HP
  rw [K.head] at HC
  rw [h.1] at HW
  have HX := Lib.hid K.lx
  have HY := Lib.hid K.ly
  have BH1 := Lib.hid (built_own6 x y K.lx K.ly)
  have HC1 : Hid (Cells 31 (HV [0, 0, 0, 0, 0, 0, 0, 64, 58] 6 y 6 x)) := Lib.hid (cellsH _ _ _ _ _ rfl K.ly K.lx)
  have LT1 := Lib.hid lit_eight6
  have HLB := Lib.hid (body23_length l)
  have HSET := Lib.hid (body23_set l)
  have HRL := Lib.hid (rest23_length l)
  have HSUM : Hid (65535 - sum16 (sum23 l) < 65536) := Lib.hid (by omega)
  have HMSG : Hid (msg23 l = all6 0 0 58 64 y x (body23 l)) := Lib.hid (by unfold msg23; rw [K.src, K.dst])
  have HS23 : Hid (sum23 l = ahead6 y x (rest23 l).length ++ rest23 l) := Lib.hid (by unfold sum23; rw [K.src, K.dst])
  obtain ⟨k, hk⟩ : ∃ k, k = 8 + min 1232 l.length := ⟨_, rfl⟩
  have hk8 : 8 ≤ k := by omega
  have hk5 : k ≤ 1240 := by omega
  rw [← hk] at HLB HRL
  rw [HRL.out] at HS23
  have HSL : Hid ((sum23 l).length = 40 + k) := Lib.hid (by rw [HS23.out, List.length_append, ahead6_length _ _ _ K.ly K.lx, HRL.out])
  have HFL : Hid ([eight6, l.take 1232].flatten = rest23 l) := Lib.hid (by simp [rest23])
  have HLEN : Hid ([eight6, l.take 1232].flatten.length ≤ 1099511627776) := Lib.hid (by rw [HFL.out, HRL.out]; omega)
  have HAL := Lib.hid (ahead6_length y x k K.ly K.lx)
  have HS1 : Hid ([ahead6 y x k, rest23 l].flatten = sum23 l) := Lib.hid (by rw [HS23.out]; simp)
  have HAH := Lib.hid (fun w => ahead_any 0 0 0 0 0 0 0 64 58 y x k w K.ly K.lx (by omega))
  generalize ahead6 y x k = Q at HS1 HAH HS23 HAL
  generalize sum23 l = S at HSET HSUM HS1 HS23 HSL
  generalize rest23 l = R at HSET HRL HFL HLEN HS1 HS23
  generalize body23 l = Bd at HLB HSET HMSG
  generalize msg23 l = Mq at HMSG ⊢
  have hlw : 20 ≤ l.length := by omega
  clear hr h K d hb hk HS23
  have HM := Lib.hid (Mem.start w0)
  have HB := HM.out.below
  by_cases h5 : l.length ≤ 1232
  case' pos =>
    have hs := run_to ad l.length c l.length l.length rfl (by omega) (by omega)
    have HF := Lib.hid (fun (w : World) (hb : Below w0.heap.size w0 w) => (HR.out.below hb).front l.length c (by omega) (by omega))
    rw [show l.take l.length = l.take 1232 by rw [List.take_length, List.take_of_length_le h5]] at HF
  case' neg =>
    have hs := run_to ad l.length c 1232 1232 rfl (by omega) (by omega)
    have HF := Lib.hid (fun (w : World) (hb : Below w0.heap.size w0 w) => (HR.out.below hb).front 1232 c (by omega) (by omega))
  all_goals
    generalize l.take 1232 = F5 at HF HFL HLEN
    go_enter Try.func56, Try.ntmps56
    go_wp2_with (first | refine m_rd ?_ | (refine m_wr ?_; clear HM HB; intro w b HM HB; try clear b) | (refine m_ap ?_; clear HM HB; intro w Aq cq HM HB) | fail)
    refine (HP.out _ (HR.out.below HB)).mono ?_
    rintro e w ⟨rfl, hb⟩
    replace HM := Lib.hid (HM.out.call hb)
    replace HB := HM.out.below
    clear hb
    go_wp2_with (first | refine m_rd ?_ | (refine m_wr ?_; clear HM HB; intro w b HM HB; try clear b) | (refine m_ap ?_; clear HM HB; intro w Aq cq HM HB) | fail)
    refine (HW.out _ (HR.out.below HB)).mono ?_
    rintro e w ⟨rfl, hb⟩
    replace HM := Lib.hid (HM.out.call hb)
    replace HB := HM.out.below
    clear hb
    go_wp2_with (first | refine m_rd ?_ | (refine m_wr ?_; clear HM HB; intro w b HM HB; try clear b) | (refine m_ap ?_; clear HM HB; intro w Aq cq HM HB) | fail)
    refine (concat_any _ _ [eight6, F5] _ (HM.out.rbs2 (by ((repeat (first | exact List.Mem.head _ | apply List.Mem.tail)); done)) (HM.out.rb (by ((repeat (first | exact List.Mem.head _ | apply List.Mem.tail)); done))) (HF.out _ HB)) HLEN.out).mono ?_
    rintro e w ⟨vr, rfl, ho, hb⟩
    replace HM := Lib.hid (HM.out.row hb ho)
    replace HB := HM.out.below
    clear ho hb
    rw [HFL.out] at HM
    obtain ⟨g, cap, rfl, hcap⟩ := HM.out.form (List.Mem.head _) (by rw [HRL.out]; omega)
    rw [HRL.out] at HM hcap
    rw [HRL.out]
    go_wp2_with (first | refine m_rd ?_ | (refine m_wr ?_; clear HM HB; intro w b HM HB; try clear b) | (refine m_ap ?_; clear HM HB; intro w Aq cq HM HB) | fail)
    refine (HAH.out _).mono ?_
    rintro e w ⟨vq, rfl, ho, hb⟩
    replace HM := Lib.hid (HM.out.row hb ho)
    replace HB := HM.out.below
    clear ho hb
    obtain ⟨Aq, cq, rfl, -, -⟩ := HM.out.rb (by ((repeat (first | exact List.Mem.head _ | apply List.Mem.tail)); done))
    rw [HAL.out] at HM ⊢
    go_wp2_with (first | refine m_rd ?_ | (refine m_wr ?_; clear HM HB; intro w b HM HB; try clear b) | (refine m_ap ?_; clear HM HB; intro w Aq cq HM HB) | fail)
    refine (check_any _ _ [Q, R] _ (HM.out.rbs2 (by ((repeat (first | exact List.Mem.head _ | apply List.Mem.tail)); done)) (by rw [← HAL.out]; exact HM.out.rb (by rw [HAL.out]; ((repeat (first | exact List.Mem.head _ | apply List.Mem.tail)); done))) (HM.out.rb (by ((repeat (first | exact List.Mem.head _ | apply List.Mem.tail)); done)))) (by rw [HS1.out, HSL.out]; omega)).mono ?_
    rintro e w' ⟨rfl, rfl⟩
    rw [HS1.out]
    have HSET2 := Lib.hid (HSET.out _ rfl)
    clear HSET
    generalize 65535 - sum16 S = s at HSUM HSET2 ⊢
    have hsum := HSUM.out
    have HSI : Hid (((R.set 2 (UInt8.ofNat ((s : Int) / 256).toNat)).set 3 (UInt8.ofNat ((s : Int) % 256).toNat)) = Bd) := Lib.hid (by rw [← HSET2.out]; congr 2)
    go_wp2_with (first | refine m_rd ?_ | ((with_reducible apply m_putRow); (next => with_reducible exact rfl); (next => kernel_rfl); (next => exact rfl); (next => exact rfl); (next => exact HM); (next => ((repeat (first | exact Upd.head _ | apply Upd.tail)); done)); (next => exact decide_eq_true (by omega)); (next => exact ⟨by omega, by omega⟩); clear HM HB; intro w HM HB) | (refine m_wr ?_; clear HM HB; intro w b HM HB; try clear b) | (refine m_ap ?_; clear HM HB; intro w Aq cq HM HB) | fail)
    rw [HSI.out] at HM
    refine (put6_ok 0 0 0 0 0 0 0 64 58 y x _ Bd _ (HM.out.rb (by ((repeat (first | exact List.Mem.head _ | apply List.Mem.tail)); done))) HY.out HX.out (by decide) (by decide) (by decide) (by decide) (by rw [HLB.out]; omega)).mono ?_
    rintro e w ⟨v, rfl, ho, hb⟩
    replace HM := Lib.hid (HM.out.row hb ho)
    replace HB := HM.out.below
    clear ho hb
    go_wp2_with (first | refine m_rd ?_ | (refine m_wr ?_; clear HM HB; intro w b HM HB; try clear b) | (refine m_ap ?_; clear HM HB; intro w Aq cq HM HB) | fail)
    go_ret2
    exact ⟨_, rfl, by rw [HMSG.out]; exact HM.out.ob (by ((repeat (first | exact List.Mem.head _ | apply List.Mem.tail)); done)), HB⟩
set_option maxHeartbeats 2000000 in
theorem refUnreach_ok (A : Option Addr) (c : Nat) (l : List UInt8) (w0 : World) (hr : RB w0 (.slice A l.length c) l) (h : who6 l) :
    Calls Try.prog 57 #[.slice A l.length c] w0 fun e w' => ∃ v, e = .returned (.tuple #[v, .bool true]) ∧ OB w0.heap.size w' v (msg23 l) ∧ Below w0.heap.size w0 w' := by
  have HR := Lib.hid hr
  have hc : l.length ≤ c := by obtain ⟨A, c2, e, h, _⟩ := hr; injection e with _ _ e; omega
  obtain ⟨cl, id, fl, tl, pr, x, y, K, hb, hl5⟩ := known6 l h
  have d := K.low
  obtain ⟨ad, rfl⟩ := HR.out.some (by omega)
  have HP := Lib.hid (refParseP_any (.slice (some ad) l.length c) l)
  have HW := Lib.hid (refWhole_any (some ad) c l)
  have HC := Lib.hid (cells_headP l)
  rw [hb, K.head] at HP
  rw [K.head] at HC
  rw [h.1] at HW
  have HX := Lib.hid K.lx
  have HY := Lib.hid K.ly
  have BH1 := Lib.hid (built_own6 x y K.lx K.ly)
  have HC1 : Hid (Cells 31 (HV [0, 0, 0, 0, 0, 0, 0, 64, 58] 6 y 6 x)) := Lib.hid (cellsH _ _ _ _ _ rfl K.ly K.lx)
  have LT1 := Lib.hid lit_eight6
  have HLB := Lib.hid (body23_length l)
  have HSET := Lib.hid (body23_set l)
  have HRL := Lib.hid (rest23_length l)
  have HSUM : Hid (65535 - sum16 (sum23 l) < 65536) := Lib.hid (by omega)
  have HMSG : Hid (msg23 l = all6 0 0 58 64 y x (body23 l)) := Lib.hid (by unfold msg23; rw [K.src, K.dst])
  have HS23 : Hid (sum23 l = ahead6 y x (rest23 l).length ++ rest23 l) := Lib.hid (by unfold sum23; rw [K.src, K.dst])
  obtain ⟨k, hk⟩ : ∃ k, k = 8 + min 1232 l.length := ⟨_, rfl⟩
  have hk8 : 8 ≤ k := by omega
  have hk5 : k ≤ 1240 := by omega
  rw [← hk] at HLB HRL
  rw [HRL.out] at HS23
  have HSL : Hid ((sum23 l).length = 40 + k) := Lib.hid (by rw [HS23.out, List.length_append, ahead6_length _ _ _ K.ly K.lx, HRL.out])
  have HFL : Hid (eight6 ++ l.take 1232 = rest23 l) := Lib.hid rfl
  have HN1 : Hid (eight6.length + (l.take 1232).length = k) := Lib.hid (by rw [← List.length_append, HFL.out, HRL.out])
  have HSM := Lib.hid (fun A c w hr => summed6_any 0 0 0 0 0 0 0 64 58 y x A c (rest23 l) w hr K.ly K.lx (by rw [HRL.out]; omega))
  rw [HRL.out, ← HS23.out] at HSM
  generalize sum23 l = S at HSET HSUM HS23 HSM HSL
  generalize rest23 l = R at HSET HRL HFL HS23 HSM
  generalize body23 l = Bd at HLB HSET HMSG
  generalize msg23 l = Mq at HMSG ⊢
  have hlw : 20 ≤ l.length := by omega
  have HR0 := HR
  clear hr h K d hb hk HS23
  have HM := Lib.hid (Mem.start w0)
  have HB := HM.out.below
  by_cases h5 : l.length ≤ 1232
  case' pos =>
    have hs := run_to ad l.length c l.length l.length rfl (by omega) (by omega)
    replace HR := Lib.hid (HR.out.front l.length c (by omega) (by omega))
    rw [show l.take l.length = l.take 1232 by rw [List.take_length, List.take_of_length_le h5]] at HR
  case' neg =>
    have hs := run_to ad l.length c 1232 1232 rfl (by omega) (by omega)
    replace HR := Lib.hid (HR.out.front 1232 c (by omega) (by omega))
  all_goals
    generalize l.take 1232 = F5 at HR HFL HN1
    go_enter Try.func57, Try.ntmps57
    go_wp2_with (first | refine m_rd ?_ | (refine m_wr ?_; clear HM HB; intro w b HM HB; try clear b) | (refine m_ap ?_; clear HM HB; intro w Aq cq HM HB) | fail)
    refine (HP.out _ (HR0.out.below HB)).mono ?_
    rintro e w ⟨rfl, hb⟩
    replace HM := Lib.hid (HM.out.call hb)
    replace HB := HM.out.below
    clear hb
    go_wp2_with (first | refine m_rd ?_ | (refine m_wr ?_; clear HM HB; intro w b HM HB; try clear b) | (refine m_ap ?_; clear HM HB; intro w Aq cq HM HB) | fail)
    refine (HW.out _ (HR0.out.below HB)).mono ?_
    rintro e w ⟨rfl, hb⟩
    replace HM := Lib.hid (HM.out.call hb)
    replace HB := HM.out.below
    clear hb
    go_wp2_with (first | refine m_rd ?_ | (refine m_wr ?_; clear HM HB; intro w b HM HB; try clear b) | (refine m_ap ?_; clear HM HB; intro w Aq cq HM HB) | fail)
    rw [HFL.out] at HM
    obtain ⟨g, cap, e, hcap⟩ := HM.out.form (show Ent.row _ R ∈ _ by ((repeat (first | exact List.Mem.head _ | apply List.Mem.tail)); done)) (by rw [HRL.out]; omega)
    injection e with e1 e2 e3
    subst e1 e3
    clear e2
    refine (HSM.out _ _ _ (HM.out.rb (by ((repeat (first | exact List.Mem.head _ | apply List.Mem.tail)); done)))).mono ?_
    rintro e w ⟨vs, rfl, ho, hb⟩
    replace HM := Lib.hid (HM.out.row hb ho)
    replace HB := HM.out.below
    clear ho hb
    go_wp2_with (first | refine m_rd ?_ | (refine m_wr ?_; clear HM HB; intro w b HM HB; try clear b) | (refine m_ap ?_; clear HM HB; intro w Aq cq HM HB) | fail)
    refine (refCheck_rb _ S _ (by apply Mem.rb HM.out; ((repeat (first | exact List.Mem.head _ | apply List.Mem.tail)); done)) (by rw [HSL.out]; omega)).mono ?_
    rintro e w' ⟨rfl, rfl⟩
    have HSET2 := Lib.hid (HSET.out _ rfl)
    clear HSET
    generalize 65535 - sum16 S = s at HSUM HSET2 ⊢
    have hsum := HSUM.out
    have HSI : Hid (((R.set 2 (UInt8.ofNat ((s : Int) / 256).toNat)).set 3 (UInt8.ofNat ((s : Int) % 256).toNat)) = Bd) := Lib.hid (by rw [← HSET2.out]; congr 2)
    go_wp2_with (first | refine m_rd ?_ | ((with_reducible apply m_putRow); (next => with_reducible exact rfl); (next => kernel_rfl); (next => exact rfl); (next => exact rfl); (next => exact HM); (next => ((repeat (first | exact Upd.head _ | apply Upd.tail)); done)); (next => exact decide_eq_true (by omega)); (next => exact ⟨by omega, by omega⟩); clear HM HB; intro w HM HB) | (refine m_wr ?_; clear HM HB; intro w b HM HB; try clear b) | (refine m_ap ?_; clear HM HB; intro w Aq cq HM HB) | fail)
    rw [HSI.out] at HM
    refine (refPut6_ok 0 0 0 0 0 0 0 64 58 y x _ Bd _ (HM.out.rb (by ((repeat (first | exact List.Mem.head _ | apply List.Mem.tail)); done))) HY.out HX.out (by decide) (by decide) (by decide) (by decide) (by rw [HLB.out]; omega)).mono ?_
    rintro e w ⟨v, rfl, ho, hb⟩
    replace HM := Lib.hid (HM.out.row hb ho)
    replace HB := HM.out.below
    clear ho hb
    go_wp2_with (first | refine m_rd ?_ | (refine m_wr ?_; clear HM HB; intro w b HM HB; try clear b) | (refine m_ap ?_; clear HM HB; intro w Aq cq HM HB) | fail)
    go_ret2
    exact ⟨_, rfl, by rw [HMSG.out]; exact HM.out.ob (by ((repeat (first | exact List.Mem.head _ | apply List.Mem.tail)); done)), HB⟩
end Go.Proofs.Ytahnibhcfdamdaa.I6
