/- Layer 46: padding and its reference; what PaddingPads and PaddingStrips run, and that they say true. -/
import Derived.Test.YtahnibhcfdamdaaLa
import Derived.Test.YtahnibhcfdamdaaPad
set_option linter.unusedSimpArgs false
set_option linter.unusedVariables false
set_option maxRecDepth 100000
namespace Go.Proofs.Ytahnibhcfdamdaa.Pd
open Go.RowKit Go.Proofs.YtahnibhcfdamdaaW.PrintWords Go.Proofs.Ytahnibhcfdamdaa.Bs Go.Proofs.Ytahnibhcfdamdaa.Av Go.Proofs.Ytahnibhcfdamdaa.Ad Go.Proofs.Ytahnibhcfdamdaa.Hd Go.Proofs.Ytahnibhcfdamdaa.Mm Go.Proofs.Ytahnibhcfdamdaa.Le Go.Proofs.Ytahnibhcfdamdaa.Ip Go.Proofs.Ytahnibhcfdamdaa.En Go.Proofs.Ytahnibhcfdamdaa.Co Go.Proofs.Ytahnibhcfdamdaa.Os Go.Proofs.Ytahnibhcfdamdaa.Is Go.Proofs.Ytahnibhcfdamdaa.Pk Go.Proofs.Ytahnibhcfdamdaa.Pad

/-- Why nothing is left. -/
def badQ (l : List UInt8) : Nat := if l.length = 0 then 0 else badP l
theorem stripL_nil (l : List UInt8) (h : l.length = 0) : stripL l = [] := by
  unfold stripL badP
  rw [if_pos h, if_neg (by decide)]
theorem pstrip_any (A : Option Addr) (c : Nat) (l : List UInt8) (w0 : World) (hr : RB w0 (.slice A l.length c) l) :
    Calls Try.prog 36 #[.slice A l.length c] w0 fun e w' => ∃ v, e = .returned (.tuple #[v, .int .i64 (badQ l : Nat)]) ∧ OB w0.heap.size w' v (stripL l) ∧ Below w0.heap.size w0 w' := by
  have hl := hr.len
  have HR := Lib.hid hr
  unfold badQ
  by_cases h0 : l.length = 0
  · rw [if_pos h0, stripL_nil l h0]
    have h0' : (((l.length : Nat) : Int) == 0) = true := by rw [h0]; rfl
    clear hr h0
    have HM := Lib.hid (Mem.start w0)
    have HB := HM.out.below
    go_enter Try.func36, Try.ntmps36
    go_wp2_with (first | refine m_rd ?_ | (refine m_wr ?_; clear HM HB; intro w b HM HB; try clear b) | (refine m_ap ?_; clear HM HB; intro w Aq cq HM HB) | fail)
    go_ret2
    exact ⟨_, rfl, OB.nil _ _, HB⟩
  · rw [if_neg h0]
    have h0' : (((l.length : Nat) : Int) == 0) = false := beq_false_of_ne (by omega)
    have HS := Lib.hid (strip_any A c l)
    generalize badP l = bq at HS ⊢
    generalize stripL l = sl at HS ⊢
    clear hr h0
    have HM := Lib.hid (Mem.start w0)
    have HB := HM.out.below
    go_enter Try.func36, Try.ntmps36
    go_wp2_with (first | refine m_rd ?_ | (refine m_wr ?_; clear HM HB; intro w b HM HB; try clear b) | (refine m_ap ?_; clear HM HB; intro w Aq cq HM HB) | fail)
    refine (HS.out _ (HR.out.below HB)).mono ?_
    rintro e w ⟨v, rfl, ho, hb⟩
    replace HM := Lib.hid (HM.out.row hb ho)
    replace HB := HM.out.below
    clear ho hb
    go_wp2_with (first | refine m_rd ?_ | (refine m_wr ?_; clear HM HB; intro w b HM HB; try clear b) | (refine m_ap ?_; clear HM HB; intro w Aq cq HM HB) | fail)
    go_ret2
    exact ⟨_, rfl, HM.out.ob (by ((repeat (first | exact List.Mem.head _ | apply List.Mem.tail)); done)), HB⟩
set_option maxHeartbeats 1000000 in
theorem refStrip_any (A : Option Addr) (c : Nat) (l : List UInt8) (w0 : World) (hr : RB w0 (.slice A l.length c) l) :
    Calls Try.prog 37 #[.slice A l.length c] w0 fun e w' => ∃ v, e = .returned (.tuple #[v, .int .i64 (badQ l : Nat)]) ∧ RB w' v (stripL l) ∧ Below w0.heap.size w0 w' := by
  have hl := hr.len
  have HR := Lib.hid hr
  unfold badQ
  by_cases h0 : l.length = 0
  · rw [if_pos h0, stripL_nil l h0]
    have h0' : (((l.length : Nat) : Int) == 0) = true := by rw [h0]; rfl
    clear hr h0
    have HM := Lib.hid (Mem.start w0)
    have HB := HM.out.below
    go_enter Try.func37, Try.ntmps37
    go_wp2_with (first | refine m_rd ?_ | (refine m_wr ?_; clear HM HB; intro w b HM HB; try clear b) | (refine m_ap ?_; clear HM HB; intro w Aq cq HM HB) | fail)
    go_ret2
    exact ⟨_, rfl, RB.nil _, HB⟩
  rw [if_neg h0]
  have h0' : (((l.length : Nat) : Int) == 0) = false := beq_false_of_ne (by omega)
  have HP := Lib.hid (refParseP_any (.slice A l.length c) l)
  have HC := Lib.hid (cells_headP l)
  unfold stripL
  by_cases hb : badP l = 0
  · rw [if_pos hb]
    obtain ⟨v, sz, tt, cl, id, fl, fr, tl, pr, x, y, K⟩ := known l hb
    have d := K.low
    obtain ⟨ad, rfl⟩ := HR.out.some (by omega)
    have hc : l.length ≤ c := by obtain ⟨A, c2, e, h, _⟩ := hr; injection e with _ _ e; omega
    rw [hb, K.head] at HP
    rw [K.head] at HC
    rw [hb, ← K.tot]
    have hs := run_to ad l.length c tt tt rfl (by omega) (by omega)
    have HF := Lib.hid (fun (w : World) (hb : Below w0.heap.size w0 w) => (HR.out.below hb).front tt c (by omega) (by omega))
    clear hr h0 hb K
    have HM := Lib.hid (Mem.start w0)
    have HB := HM.out.below
    go_enter Try.func37, Try.ntmps37
    go_wp2_with (first | refine m_rd ?_ | (refine m_wr ?_; clear HM HB; intro w b HM HB; try clear b) | (refine m_ap ?_; clear HM HB; intro w Aq cq HM HB) | fail)
    refine (HP.out _ (HR.out.below HB)).mono ?_
    rintro e w ⟨rfl, hb⟩
    replace HM := Lib.hid (HM.out.call hb)
    replace HB := HM.out.below
    clear hb
    go_wp2_with (first | refine m_rd ?_ | (refine m_wr ?_; clear HM HB; intro w b HM HB; try clear b) | (refine m_ap ?_; clear HM HB; intro w Aq cq HM HB) | fail)
    go_ret2
    exact ⟨_, rfl, HF.out _ HB, HB⟩
  · rw [if_neg hb]
    have hq : (((badP l : Nat) : Int) == 0) = false := beq_false_of_ne (by omega)
    generalize headP l = hv at HP HC
    generalize badP l = bq at HP hq ⊢
    clear hr h0 hb
    have HM := Lib.hid (Mem.start w0)
    have HB := HM.out.below
    go_enter Try.func37, Try.ntmps37
    go_wp2_with (first | refine m_rd ?_ | (refine m_wr ?_; clear HM HB; intro w b HM HB; try clear b) | (refine m_ap ?_; clear HM HB; intro w Aq cq HM HB) | fail)
    refine (HP.out _ (HR.out.below HB)).mono ?_
    rintro e w ⟨rfl, hb⟩
    replace HM := Lib.hid (HM.out.call hb)
    replace HB := HM.out.below
    clear hb
    go_wp2_with (first | refine m_rd ?_ | (refine m_wr ?_; clear HM HB; intro w b HM HB; try clear b) | (refine m_ap ?_; clear HM HB; intro w Aq cq HM HB) | fail)
    go_ret2
    exact ⟨_, rfl, RB.nil _, HB⟩
theorem paddingStrips_walk (A : Option Addr) (c : Nat) (l : List UInt8) (w0 : World) (hr : RB w0 (.slice A l.length c) l) :
    Calls Try.prog 9 #[.slice A l.length c] w0 fun e w' => e = .returned (.bool true) ∧ Below w0.heap.size w0 w' := by
  have hl := hr.len
  have HR := Lib.hid hr
  clear hr
  have HS := Lib.hid (pstrip_any A c l)
  have HQ := Lib.hid (refStrip_any A c l)
  generalize badQ l = bq at HS HQ
  generalize stripL l = sl at HS HQ
  have HM := Lib.hid (Mem.start w0)
  have HB := HM.out.below
  by_cases h3 : 1000 < l.length
  · go_enter Try.func9, Try.ntmps9
    go_wp2_with (first | refine m_rd ?_ | (refine m_wr ?_; clear HM HB; intro w b HM HB; try clear b) | (refine m_ap ?_; clear HM HB; intro w Aq cq HM HB) | fail)
    refine (Pad.alive_any _).mono ?_
    rintro e w ⟨rfl, hb⟩
    replace HM := Lib.hid (HM.out.call hb)
    replace HB := HM.out.below
    clear hb
    go_wp2_with (first | refine m_rd ?_ | (refine m_wr ?_; clear HM HB; intro w b HM HB; try clear b) | (refine m_ap ?_; clear HM HB; intro w Aq cq HM HB) | fail)
    go_ret
    exact ⟨rfl, HB⟩
  · go_enter Try.func9, Try.ntmps9
    go_wp2_with (first | refine m_rd ?_ | (refine m_wr ?_; clear HM HB; intro w b HM HB; try clear b) | (refine m_ap ?_; clear HM HB; intro w Aq cq HM HB) | fail)
    refine (HS.out _ (HR.out.below HB)).mono ?_
    rintro e w ⟨v, rfl, ho, hb⟩
    replace HM := Lib.hid (HM.out.row hb ho)
    replace HB := HM.out.below
    clear ho hb
    go_wp2_with (first | refine m_rd ?_ | (refine m_wr ?_; clear HM HB; intro w b HM HB; try clear b) | (refine m_ap ?_; clear HM HB; intro w Aq cq HM HB) | fail)
    refine (HQ.out _ (HR.out.below HB)).mono ?_
    rintro e w ⟨u, rfl, hu, hb⟩
    replace HM := Lib.hid (HM.out.call hb)
    replace HB := HM.out.below
    have HU := Lib.hid hu
    clear hb hu
    go_wp2_with (first | refine m_rd ?_ | (refine m_wr ?_; clear HM HB; intro w b HM HB; try clear b) | (refine m_ap ?_; clear HM HB; intro w Aq cq HM HB) | fail)
    refine (same_any _ _ sl sl _ (HM.out.rb (by ((repeat (first | exact List.Mem.head _ | apply List.Mem.tail)); done))) HU.out).mono ?_
    rintro e w ⟨rfl, hb⟩
    replace HM := Lib.hid (HM.out.call hb)
    replace HB := HM.out.below
    clear hb
    rw [decide_eq_true (rfl : sl = sl)]
    go_wp2_with (first | refine m_rd ?_ | (refine m_wr ?_; clear HM HB; intro w b HM HB; try clear b) | (refine m_ap ?_; clear HM HB; intro w Aq cq HM HB) | fail)
    refine (Pad.alive_any _).mono ?_
    rintro e w ⟨rfl, hb⟩
    replace HM := Lib.hid (HM.out.call hb)
    replace HB := HM.out.below
    clear hb
    go_wp2_with (first | refine m_rd ?_ | (refine m_wr ?_; clear HM HB; intro w b HM HB; try clear b) | (refine m_ap ?_; clear HM HB; intro w Aq cq HM HB) | fail)
    go_ret
    exact ⟨rfl, HB⟩
/-- How many a slice has. -/
def lenV : Value → Nat
  | .slice _ k _ => k
  | _ => 0
set_option maxHeartbeats 1000000 in
theorem refPad_any (A : Option Addr) (c : Nat) (l : List UInt8) (w0 : World) (hr : RB w0 (.slice A l.length c) l) (h : l.length ≤ 65535) :
    Calls Try.prog 39 #[.slice A l.length c] w0 (Row w0 (l ++ List.replicate (psize l.length - l.length) 0)) := by
  have hl := hr.len
  have HR := Lib.hid hr
  have hp : psize l.length ≤ 65535 := by unfold psize; omega
  have hq : l.length ≤ psize l.length := by unfold psize; omega
  have HS := Lib.hid (fun w => refSize_in l.length w h)
  have LT1 : Hid (LitOf 0 #[] []) := Lib.hid ⟨rfl, by decide, fun W => by kernel_rfl⟩
  have LT2 : Hid (LitOf 1 #[(0, .int .u8 0)] [0]) := Lib.hid ⟨rfl, by decide, fun W => by kernel_rfl⟩
  have HN1 : Hid (([] : List UInt8).length + l.length = l.length) := Lib.hid (by simp)
  generalize psize l.length = n at hp hq HS ⊢
  clear hr h
  have HM := Lib.hid (Mem.start w0)
  have HB := HM.out.below
  go_enter Try.func39, Try.ntmps39
  go_wp2_with (first | refine m_rd ?_ | (refine m_wr ?_; clear HM HB; intro w b HM HB; try clear b) | (refine m_ap ?_; clear HM HB; intro w Aq cq HM HB) | fail)
  rw [List.nil_append] at HM
  clear HN1
  go_loopw [3] (fun v3 wr => ∃ k : Nat, l.length ≤ k ∧ k ≤ n ∧ ∃ A1 c1, v3 = .slice A1 k c1 ∧ HMem w0 wr [.row (.slice A1 k c1) (l ++ List.replicate (k - l.length) 0)]) (fun v3 _ => n - lenV v3)
  case atStart => exact ⟨l.length, Nat.le_refl _, hq, _, _, rfl, by rw [Nat.sub_self, List.replicate_zero, List.append_nil]; exact HM⟩
  case round =>
    clear HM HB
    obtain ⟨k, hk, hkn, A1, c1, rfl, HM⟩ := hrel
    have HB := HM.out.below
    by_cases hlt : k < n
    · have HN1 : Hid ((l ++ List.replicate (k - l.length) 0).length + ([0] : List UInt8).length = k + 1) := Lib.hid (by simp; omega)
      have HE : Hid (l ++ List.replicate (k - l.length) 0 ++ [0] = l ++ List.replicate (k + 1 - l.length) (0 : UInt8)) := Lib.hid (by
        rw [List.append_assoc, show k + 1 - l.length = (k - l.length) + 1 by omega, List.replicate_succ'])
      go_wp2_with (first | refine m_rd ?_ | (refine m_wr ?_; clear HM HB; intro w b HM HB; try clear b) | (refine m_ap ?_; clear HM HB; intro w Aq cq HM HB) | fail)
      refine (HS.out _).mono ?_
      rintro e w' ⟨rfl, rfl⟩
      go_wp2_with (first | refine m_rd ?_ | (refine m_wr ?_; clear HM HB; intro w b HM HB; try clear b) | (refine m_ap ?_; clear HM HB; intro w Aq cq HM HB) | fail)
      go_roundw
      case rel => exact ⟨k + 1, by omega, by omega, _, _, rfl, by rw [← HE.out]; exact Lib.hid (HM.out.one)⟩
      case measure => (simp [lenV]) <;> omega
    · have HE : Hid (k = n) := Lib.hid (by omega)
      go_wp2_with (first | refine m_rd ?_ | (refine m_wr ?_; clear HM HB; intro w b HM HB; try clear b) | (refine m_ap ?_; clear HM HB; intro w Aq cq HM HB) | fail)
      refine (HS.out _).mono ?_
      rintro e w' ⟨rfl, rfl⟩
      go_wp2_with (first | refine m_rd ?_ | (refine m_wr ?_; clear HM HB; intro w b HM HB; try clear b) | (refine m_ap ?_; clear HM HB; intro w Aq cq HM HB) | fail)
      go_ret
      exact ⟨_, rfl, by rw [← HE.out]; exact HM.out.ob (by ((repeat (first | exact List.Mem.head _ | apply List.Mem.tail)); done)), HB⟩
theorem padded_front (l z : List UInt8) (h : wholeB l = true) : badQ (l ++ z) = 0 ∧ stripL (l ++ z) = l := by
  obtain ⟨hb, ht, hl⟩ := of_decide_eq_true (show decide _ = true from h)
  obtain ⟨_, _, _, _, _, _, _, _, _, _, _, K⟩ := known l hb
  have kl := K.low
  obtain ⟨h1, h2⟩ := same_front l (l ++ z) hb (by rw [ht, List.take_append_of_le_length (Nat.le_refl _)]) (by rw [ht]; simp)
  refine ⟨?_, ?_⟩
  · unfold badQ
    rw [if_neg (by simp; intro h; rw [h] at kl; simp at kl; omega)]
    exact h1
  · unfold stripL
    rw [if_pos h1, h2, ht, List.take_append_of_le_length (Nat.le_refl _), List.take_length]
set_option maxHeartbeats 1000000 in
theorem paddingPads_walk (A : Option Addr) (c : Nat) (l : List UInt8) (w0 : World) (hr : RB w0 (.slice A l.length c) l) :
    Calls Try.prog 10 #[.slice A l.length c] w0 fun e w' => e = .returned (.bool true) ∧ Below w0.heap.size w0 w' := by
  have hl := hr.len
  have HR := Lib.hid hr
  clear hr
  have HM := Lib.hid (Mem.start w0)
  have HB := HM.out.below
  by_cases h3 : 1000 < l.length
  · go_enter Try.func10, Try.ntmps10
    go_wp2_with (first | refine m_rd ?_ | (refine m_wr ?_; clear HM HB; intro w b HM HB; try clear b) | (refine m_ap ?_; clear HM HB; intro w Aq cq HM HB) | fail)
    refine (Pad.alive_any _).mono ?_
    rintro e w ⟨rfl, hb⟩
    replace HM := Lib.hid (HM.out.call hb)
    replace HB := HM.out.below
    clear hb
    go_wp2_with (first | refine m_rd ?_ | (refine m_wr ?_; clear HM HB; intro w b HM HB; try clear b) | (refine m_ap ?_; clear HM HB; intro w Aq cq HM HB) | fail)
    go_ret
    exact ⟨rfl, HB⟩
  have HP := Lib.hid (fun v w hr => pad_any v l w hr (by omega))
  have HQ := Lib.hid (fun w hr => refPad_any A c l w hr (by omega))
  unfold Padded at HP
  have HW := Lib.hid (refWhole_any A c l)
  have HF := Lib.hid (padded_front l (List.replicate (psize l.length - l.length) 0))
  generalize l ++ List.replicate (psize l.length - l.length) 0 = L at HP HQ HF
  have HS := Lib.hid (fun A c => pstrip_any A c L)
  by_cases hw : wholeB l = true
  · have hf := HF.out hw
    rw [hf.1, hf.2] at HS
    rw [hw] at HW
    clear HF hf hw
    go_enter Try.func10, Try.ntmps10
    go_wp2_with (first | refine m_rd ?_ | (refine m_wr ?_; clear HM HB; intro w b HM HB; try clear b) | (refine m_ap ?_; clear HM HB; intro w Aq cq HM HB) | fail)
    refine (HP.out _ _ (HR.out.below HB)).mono ?_
    rintro e w ⟨v, rfl, ho, hb⟩
    replace HM := Lib.hid (HM.out.row hb ho)
    replace HB := HM.out.below
    clear ho hb
    obtain ⟨A2, c2, rfl, -, -⟩ := HM.out.rb (by ((repeat (first | exact List.Mem.head _ | apply List.Mem.tail)); done))
    go_wp2_with (first | refine m_rd ?_ | (refine m_wr ?_; clear HM HB; intro w b HM HB; try clear b) | (refine m_ap ?_; clear HM HB; intro w Aq cq HM HB) | fail)
    refine (HQ.out _ (HR.out.below HB)).mono ?_
    rintro e w ⟨u, rfl, ho, hb⟩
    replace HM := Lib.hid (HM.out.row hb ho)
    replace HB := HM.out.below
    clear ho hb
    go_wp2_with (first | refine m_rd ?_ | (refine m_wr ?_; clear HM HB; intro w b HM HB; try clear b) | (refine m_ap ?_; clear HM HB; intro w Aq cq HM HB) | fail)
    refine (same_any _ _ L L _ (HM.out.rb (by ((repeat (first | exact List.Mem.head _ | apply List.Mem.tail)); done))) (HM.out.rb (by ((repeat (first | exact List.Mem.head _ | apply List.Mem.tail)); done)))).mono ?_
    rintro e w ⟨rfl, hb⟩
    replace HM := Lib.hid (HM.out.call hb)
    replace HB := HM.out.below
    clear hb
    rw [decide_eq_true (rfl : L = L)]
    go_wp2_with (first | refine m_rd ?_ | (refine m_wr ?_; clear HM HB; intro w b HM HB; try clear b) | (refine m_ap ?_; clear HM HB; intro w Aq cq HM HB) | fail)
    refine (HS.out A2 c2 _ (HM.out.rb (by ((repeat (first | exact List.Mem.head _ | apply List.Mem.tail)); done)))).mono ?_
    rintro e w ⟨s, rfl, ho, hb⟩
    replace HM := Lib.hid (HM.out.row hb ho)
    replace HB := HM.out.below
    clear ho hb
    go_wp2_with (first | refine m_rd ?_ | (refine m_wr ?_; clear HM HB; intro w b HM HB; try clear b) | (refine m_ap ?_; clear HM HB; intro w Aq cq HM HB) | fail)
    refine (HW.out _ (HR.out.below HB)).mono ?_
    rintro e w ⟨rfl, hb⟩
    replace HM := Lib.hid (HM.out.call hb)
    replace HB := HM.out.below
    clear hb
    go_wp2_with (first | refine m_rd ?_ | (refine m_wr ?_; clear HM HB; intro w b HM HB; try clear b) | (refine m_ap ?_; clear HM HB; intro w Aq cq HM HB) | fail)
    refine (same_any _ _ l l _ (HM.out.rb (by ((repeat (first | exact List.Mem.head _ | apply List.Mem.tail)); done))) (HR.out.below HB)).mono ?_
    rintro e w ⟨rfl, hb⟩
    replace HM := Lib.hid (HM.out.call hb)
    replace HB := HM.out.below
    clear hb
    rw [decide_eq_true (rfl : l = l)]
    go_wp2_with (first | refine m_rd ?_ | (refine m_wr ?_; clear HM HB; intro w b HM HB; try clear b) | (refine m_ap ?_; clear HM HB; intro w Aq cq HM HB) | fail)
    refine (Pad.alive_any _).mono ?_
    rintro e w ⟨rfl, hb⟩
    replace HM := Lib.hid (HM.out.call hb)
    replace HB := HM.out.below
    clear hb
    go_wp2_with (first | refine m_rd ?_ | (refine m_wr ?_; clear HM HB; intro w b HM HB; try clear b) | (refine m_ap ?_; clear HM HB; intro w Aq cq HM HB) | fail)
    go_ret
    exact ⟨rfl, HB⟩
  · rw [show wholeB l = false by simpa using hw] at HW
    generalize badQ L = bq at HS
    generalize stripL L = sl at HS
    clear HF hw
    go_enter Try.func10, Try.ntmps10
    go_wp2_with (first | refine m_rd ?_ | (refine m_wr ?_; clear HM HB; intro w b HM HB; try clear b) | (refine m_ap ?_; clear HM HB; intro w Aq cq HM HB) | fail)
    refine (HP.out _ _ (HR.out.below HB)).mono ?_
    rintro e w ⟨v, rfl, ho, hb⟩
    replace HM := Lib.hid (HM.out.row hb ho)
    replace HB := HM.out.below
    clear ho hb
    obtain ⟨A2, c2, rfl, -, -⟩ := HM.out.rb (by ((repeat (first | exact List.Mem.head _ | apply List.Mem.tail)); done))
    go_wp2_with (first | refine m_rd ?_ | (refine m_wr ?_; clear HM HB; intro w b HM HB; try clear b) | (refine m_ap ?_; clear HM HB; intro w Aq cq HM HB) | fail)
    refine (HQ.out _ (HR.out.below HB)).mono ?_
    rintro e w ⟨u, rfl, ho, hb⟩
    replace HM := Lib.hid (HM.out.row hb ho)
    replace HB := HM.out.below
    clear ho hb
    go_wp2_with (first | refine m_rd ?_ | (refine m_wr ?_; clear HM HB; intro w b HM HB; try clear b) | (refine m_ap ?_; clear HM HB; intro w Aq cq HM HB) | fail)
    refine (same_any _ _ L L _ (HM.out.rb (by ((repeat (first | exact List.Mem.head _ | apply List.Mem.tail)); done))) (HM.out.rb (by ((repeat (first | exact List.Mem.head _ | apply List.Mem.tail)); done)))).mono ?_
    rintro e w ⟨rfl, hb⟩
    replace HM := Lib.hid (HM.out.call hb)
    replace HB := HM.out.below
    clear hb
    rw [decide_eq_true (rfl : L = L)]
    go_wp2_with (first | refine m_rd ?_ | (refine m_wr ?_; clear HM HB; intro w b HM HB; try clear b) | (refine m_ap ?_; clear HM HB; intro w Aq cq HM HB) | fail)
    refine (HS.out A2 c2 _ (HM.out.rb (by ((repeat (first | exact List.Mem.head _ | apply List.Mem.tail)); done)))).mono ?_
    rintro e w ⟨s, rfl, ho, hb⟩
    replace HM := Lib.hid (HM.out.row hb ho)
    replace HB := HM.out.below
    clear ho hb
    go_wp2_with (first | refine m_rd ?_ | (refine m_wr ?_; clear HM HB; intro w b HM HB; try clear b) | (refine m_ap ?_; clear HM HB; intro w Aq cq HM HB) | fail)
    refine (HW.out _ (HR.out.below HB)).mono ?_
    rintro e w ⟨rfl, hb⟩
    replace HM := Lib.hid (HM.out.call hb)
    replace HB := HM.out.below
    clear hb
    go_wp2_with (first | refine m_rd ?_ | (refine m_wr ?_; clear HM HB; intro w b HM HB; try clear b) | (refine m_ap ?_; clear HM HB; intro w Aq cq HM HB) | fail)
    refine (Pad.alive_any _).mono ?_
    rintro e w ⟨rfl, hb⟩
    replace HM := Lib.hid (HM.out.call hb)
    replace HB := HM.out.below
    clear hb
    go_wp2_with (first | refine m_rd ?_ | (refine m_wr ?_; clear HM HB; intro w b HM HB; try clear b) | (refine m_ap ?_; clear HM HB; intro w Aq cq HM HB) | fail)
    go_ret
    exact ⟨rfl, HB⟩
end Go.Proofs.Ytahnibhcfdamdaa.Pd
