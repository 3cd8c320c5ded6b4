/- Layer 24: whether bytes are answered, and with what; in both texts. -/
import Derived.Test.YtahnibhcfdamdaaLi
import Derived.Test.YtahnibhcfdamdaaLj
import Derived.Test.YtahnibhcfdamdaaMg
import Derived.Test.YtahnibhcfdamdaaZl
set_option linter.unusedSimpArgs false
set_option linter.unusedVariables false
set_option maxRecDepth 100000
namespace Go.Proofs.Ytahnibhcfdamdaa.Rf
open Go.RowKit Go.Proofs.YtahnibhcfdamdaaW.PrintWords Go.Proofs.Ytahnibhcfdamdaa.Bs Go.Proofs.Ytahnibhcfdamdaa.Av Go.Proofs.Ytahnibhcfdamdaa.Ad Go.Proofs.Ytahnibhcfdamdaa.Hd Go.Proofs.Ytahnibhcfdamdaa.Mm Go.Proofs.Ytahnibhcfdamdaa.Le Go.Proofs.Ytahnibhcfdamdaa.Ip Go.Proofs.Ytahnibhcfdamdaa.En Go.Proofs.Ytahnibhcfdamdaa.Co Go.Proofs.Ytahnibhcfdamdaa.Os Go.Proofs.Ytahnibhcfdamdaa.Is Go.Proofs.Ytahnibhcfdamdaa.Pk

/-- Whether a message is due. -/
def dueB (l : List UInt8) : Bool := wholeB l && (!errB l && (!lateB l && (!unsA (srcP l) && (!mulA (verP l : Int) (srcP l) && !mulA (verP l : Int) (dstP l)))))
theorem known_right (l : List UInt8) (hb : badP l = 0) {v sz tt cl id fl fr tl pr : Nat} {x y : List UInt8} (K : Known l v sz tt cl id fl fr tl pr x y) : rightA v x = true ∧ rightA v y = true := by
  rcases K.fam with ⟨h4, hi⟩ | ⟨h6, hi, _⟩
  · have hl : 20 ≤ l.length := by have := K.low; omega
    subst h4
    constructor
    · refine ((width32 4 x).1 ?_).2
      rw [K.src]; unfold srcP; rw [if_pos hi]
      exact I4.width_pad _ (by simp; omega)
    · refine ((width32 4 y).1 ?_).2
      rw [K.dst]; unfold dstP; rw [if_pos hi]
      exact I4.width_pad _ (by simp; omega)
  · subst h6
    exact ⟨rfl, rfl⟩
set_option maxHeartbeats 1000000 in
theorem lone_any (v : Int) (x : List UInt8) (w0 : World) (hx : x.length = 16) (hr : rightA v x = true) :
    Calls Try.prog 116 #[.agg (AV [v] x)] w0 fun e w' => e = .returned (.bool (!unsA x && !mulA v x)) ∧ Below w0.heap.size w0 w' := by
  have HC := Lib.hid (cellsA v x hx)
  have HU := Lib.hid (fun w => uns_any v x w hx hr)
  have HMU := Lib.hid (fun w => mul_any v x w hx hr)
  generalize unsA x = u at HU ⊢
  generalize mulA v x = m at HMU ⊢
  clear hx hr
  have HM := Lib.hid (Mem.start w0)
  have HB := HM.out.below
  cases u
  · cases m
    all_goals
      go_enter Try.func116, Try.ntmps116
      go_wp2_with (first | refine m_rdg ?_ | (refine m_wrg ?_; clear HM HB; intro w b HM HB; try clear b) | (refine m_ap ?_; clear HM HB; intro w Aq cq HM HB) | fail)
      refine (HU.out _).mono ?_
      rintro e w ⟨rfl, hb⟩
      replace HM := Lib.hid (HM.out.call hb)
      replace HB := HM.out.below
      clear hb
      go_wp2_with (first | refine m_rdg ?_ | (refine m_wrg ?_; clear HM HB; intro w b HM HB; try clear b) | (refine m_ap ?_; clear HM HB; intro w Aq cq HM HB) | fail)
      refine (HMU.out _).mono ?_
      rintro e w ⟨rfl, hb⟩
      replace HM := Lib.hid (HM.out.call hb)
      replace HB := HM.out.below
      clear hb
      go_wp2_with (first | refine m_rdg ?_ | (refine m_wrg ?_; clear HM HB; intro w b HM HB; try clear b) | (refine m_ap ?_; clear HM HB; intro w Aq cq HM HB) | fail)
      go_ret
      exact ⟨rfl, HB⟩
  · go_enter Try.func116, Try.ntmps116
    go_wp2_with (first | refine m_rdg ?_ | (refine m_wrg ?_; clear HM HB; intro w b HM HB; try clear b) | (refine m_ap ?_; clear HM HB; intro w Aq cq HM HB) | fail)
    refine (HU.out _).mono ?_
    rintro e w ⟨rfl, hb⟩
    replace HM := Lib.hid (HM.out.call hb)
    replace HB := HM.out.below
    clear hb
    go_wp2_with (first | refine m_rdg ?_ | (refine m_wrg ?_; clear HM HB; intro w b HM HB; try clear b) | (refine m_ap ?_; clear HM HB; intro w Aq cq HM HB) | fail)
    go_ret
    exact ⟨rfl, HB⟩
set_option maxHeartbeats 2000000 in
theorem due_any (A : Option Addr) (c : Nat) (l : List UInt8) (w0 : World) (hr : RB w0 (.slice A l.length c) l) :
    Calls Try.prog 62 #[.slice A l.length c] w0 fun e w' => e = .returned (.bool (dueB l)) ∧ Below w0.heap.size w0 w' := by
  have HR := Lib.hid hr
  have HP := Lib.hid (parseP_any (.slice A l.length c) l)
  have HC := Lib.hid (cells_headP l)
  have HW := Lib.hid (whole_any A c l)
  have HE := Lib.hid (isError_any A c l)
  have HL := Lib.hid (later_any A c l)
  clear hr
  unfold dueB
  by_cases hw : wholeB l = true
  case neg =>
    rw [show wholeB l = false by simpa using hw] at HW ⊢
    rw [Bool.false_and]
    clear hw
    generalize headP l = hv at HP HC
    generalize badP l = bq at HP
    have HM := Lib.hid (Mem.start w0)
    have HB := HM.out.below
    go_enter Try.func62, Try.ntmps62
    go_wp2_with (first | refine m_rdg ?_ | (refine m_wrg ?_; clear HM HB; intro w b HM HB; try clear b) | (refine m_ap ?_; clear HM HB; intro w Aq cq HM HB) | fail)
    refine (HW.out _ (HR.out.below HB)).mono ?_
    rintro e w ⟨rfl, hb⟩
    replace HM := Lib.hid (HM.out.call hb)
    replace HB := HM.out.below
    clear hb
    go_wp2_with (first | refine m_rdg ?_ | (refine m_wrg ?_; clear HM HB; intro w b HM HB; try clear b) | (refine m_ap ?_; clear HM HB; intro w Aq cq HM HB) | fail)
    go_ret
    exact ⟨rfl, HB⟩
  have hb := (I4.whole_bad l hw).1
  rw [hw] at HW ⊢
  rw [Bool.true_and]
  by_cases he : errB l = true
  case pos =>
    rw [he] at HE ⊢
    rw [Bool.not_true, Bool.false_and]
    clear hw hb he
    generalize headP l = hv at HP HC
    generalize badP l = bq at HP
    have HM := Lib.hid (Mem.start w0)
    have HB := HM.out.below
    go_enter Try.func62, Try.ntmps62
    go_wp2_with (first | refine m_rdg ?_ | (refine m_wrg ?_; clear HM HB; intro w b HM HB; try clear b) | (refine m_ap ?_; clear HM HB; intro w Aq cq HM HB) | fail)
    refine (HW.out _ (HR.out.below HB)).mono ?_
    rintro e w ⟨rfl, hb⟩
    replace HM := Lib.hid (HM.out.call hb)
    replace HB := HM.out.below
    clear hb
    go_wp2_with (first | refine m_rdg ?_ | (refine m_wrg ?_; clear HM HB; intro w b HM HB; try clear b) | (refine m_ap ?_; clear HM HB; intro w Aq cq HM HB) | fail)
    refine (HE.out _ (HR.out.below HB)).mono ?_
    rintro e w ⟨rfl, hb⟩
    replace HM := Lib.hid (HM.out.call hb)
    replace HB := HM.out.below
    clear hb
    go_wp2_with (first | refine m_rdg ?_ | (refine m_wrg ?_; clear HM HB; intro w b HM HB; try clear b) | (refine m_ap ?_; clear HM HB; intro w Aq cq HM HB) | fail)
    go_ret
    exact ⟨rfl, HB⟩
  rw [show errB l = false by simpa using he] at HE ⊢
  rw [Bool.not_false, Bool.true_and]
  by_cases ht : lateB l = true
  case pos =>
    rw [ht] at HL ⊢
    rw [Bool.not_true, Bool.false_and]
    clear hw hb he ht
    generalize headP l = hv at HP HC
    generalize badP l = bq at HP
    have HM := Lib.hid (Mem.start w0)
    have HB := HM.out.below
    go_enter Try.func62, Try.ntmps62
    go_wp2_with (first | refine m_rdg ?_ | (refine m_wrg ?_; clear HM HB; intro w b HM HB; try clear b) | (refine m_ap ?_; clear HM HB; intro w Aq cq HM HB) | fail)
    refine (HW.out _ (HR.out.below HB)).mono ?_
    rintro e w ⟨rfl, hb⟩
    replace HM := Lib.hid (HM.out.call hb)
    replace HB := HM.out.below
    clear hb
    go_wp2_with (first | refine m_rdg ?_ | (refine m_wrg ?_; clear HM HB; intro w b HM HB; try clear b) | (refine m_ap ?_; clear HM HB; intro w Aq cq HM HB) | fail)
    refine (HE.out _ (HR.out.below HB)).mono ?_
    rintro e w ⟨rfl, hb⟩
    replace HM := Lib.hid (HM.out.call hb)
    replace HB := HM.out.below
    clear hb
    go_wp2_with (first | refine m_rdg ?_ | (refine m_wrg ?_; clear HM HB; intro w b HM HB; try clear b) | (refine m_ap ?_; clear HM HB; intro w Aq cq HM HB) | fail)
    refine (HL.out _ (HR.out.below HB)).mono ?_
    rintro e w ⟨rfl, hb⟩
    replace HM := Lib.hid (HM.out.call hb)
    replace HB := HM.out.below
    clear hb
    go_wp2_with (first | refine m_rdg ?_ | (refine m_wrg ?_; clear HM HB; intro w b HM HB; try clear b) | (refine m_ap ?_; clear HM HB; intro w Aq cq HM HB) | fail)
    go_ret
    exact ⟨rfl, HB⟩
  rw [show lateB l = false by simpa using ht] at HL ⊢
  rw [Bool.not_false, Bool.true_and]
  obtain ⟨v, sz, tt, cl, id, fl, fr, tl, pr, x, y, K⟩ := known l hb
  obtain ⟨hrx, hry⟩ := known_right l hb K
  rw [hb, K.head] at HP
  rw [K.head] at HC
  rw [← K.src, ← K.dst, ← K.ver]
  have HX := Lib.hid K.lx
  have HY := Lib.hid K.ly
  have HLO := Lib.hid (fun w => lone_any v x w HX.out hrx)
  have HMD := Lib.hid (fun w => mul_any v y w HY.out hry)
  generalize mulA v y = md at HMD ⊢
  rw [← Bool.and_assoc]
  generalize (!unsA x && !mulA v x) = lo at HLO ⊢
  clear hw hb he ht K hrx hry
  cases lo
  · have HM := Lib.hid (Mem.start w0)
    have HB := HM.out.below
    go_enter Try.func62, Try.ntmps62
    go_wp2_with (first | refine m_rdg ?_ | (refine m_wrg ?_; clear HM HB; intro w b HM HB; try clear b) | (refine m_ap ?_; clear HM HB; intro w Aq cq HM HB) | fail)
    refine (HW.out _ (HR.out.below HB)).mono ?_
    rintro e w ⟨rfl, hb⟩
    replace HM := Lib.hid (HM.out.call hb)
    replace HB := HM.out.below
    clear hb
    go_wp2_with (first | refine m_rdg ?_ | (refine m_wrg ?_; clear HM HB; intro w b HM HB; try clear b) | (refine m_ap ?_; clear HM HB; intro w Aq cq HM HB) | fail)
    refine (HE.out _ (HR.out.below HB)).mono ?_
    rintro e w ⟨rfl, hb⟩
    replace HM := Lib.hid (HM.out.call hb)
    replace HB := HM.out.below
    clear hb
    go_wp2_with (first | refine m_rdg ?_ | (refine m_wrg ?_; clear HM HB; intro w b HM HB; try clear b) | (refine m_ap ?_; clear HM HB; intro w Aq cq HM HB) | fail)
    refine (HL.out _ (HR.out.below HB)).mono ?_
    rintro e w ⟨rfl, hb⟩
    replace HM := Lib.hid (HM.out.call hb)
    replace HB := HM.out.below
    clear hb
    go_wp2_with (first | refine m_rdg ?_ | (refine m_wrg ?_; clear HM HB; intro w b HM HB; try clear b) | (refine m_ap ?_; clear HM HB; intro w Aq cq HM HB) | fail)
    refine (HP.out _ (HR.out.below HB)).mono ?_
    rintro e w ⟨rfl, hb⟩
    replace HM := Lib.hid (HM.out.call hb)
    replace HB := HM.out.below
    clear hb
    go_wp2_with (first | refine m_rdg ?_ | (refine m_wrg ?_; clear HM HB; intro w b HM HB; try clear b) | (refine m_ap ?_; clear HM HB; intro w Aq cq HM HB) | fail)
    refine (HLO.out _).mono ?_
    rintro e w ⟨rfl, hb⟩
    replace HM := Lib.hid (HM.out.call hb)
    replace HB := HM.out.below
    clear hb
    go_wp2_with (first | refine m_rdg ?_ | (refine m_wrg ?_; clear HM HB; intro w b HM HB; try clear b) | (refine m_ap ?_; clear HM HB; intro w Aq cq HM HB) | fail)
    go_ret
    exact ⟨rfl, HB⟩
  · cases md
    all_goals
      have HM := Lib.hid (Mem.start w0)
      have HB := HM.out.below
      go_enter Try.func62, Try.ntmps62
      go_wp2_with (first | refine m_rdg ?_ | (refine m_wrg ?_; clear HM HB; intro w b HM HB; try clear b) | (refine m_ap ?_; clear HM HB; intro w Aq cq HM HB) | fail)
      refine (HW.out _ (HR.out.below HB)).mono ?_
      rintro e w ⟨rfl, hb⟩
      replace HM := Lib.hid (HM.out.call hb)
      replace HB := HM.out.below
      clear hb
      go_wp2_with (first | refine m_rdg ?_ | (refine m_wrg ?_; clear HM HB; intro w b HM HB; try clear b) | (refine m_ap ?_; clear HM HB; intro w Aq cq HM HB) | fail)
      refine (HE.out _ (HR.out.below HB)).mono ?_
      rintro e w ⟨rfl, hb⟩
      replace HM := Lib.hid (HM.out.call hb)
      replace HB := HM.out.below
      clear hb
      go_wp2_with (first | refine m_rdg ?_ | (refine m_wrg ?_; clear HM HB; intro w b HM HB; try clear b) | (refine m_ap ?_; clear HM HB; intro w Aq cq HM HB) | fail)
      refine (HL.out _ (HR.out.below HB)).mono ?_
      rintro e w ⟨rfl, hb⟩
      replace HM := Lib.hid (HM.out.call hb)
      replace HB := HM.out.below
      clear hb
      go_wp2_with (first | refine m_rdg ?_ | (refine m_wrg ?_; clear HM HB; intro w b HM HB; try clear b) | (refine m_ap ?_; clear HM HB; intro w Aq cq HM HB) | fail)
      refine (HP.out _ (HR.out.below HB)).mono ?_
      rintro e w ⟨rfl, hb⟩
      replace HM := Lib.hid (HM.out.call hb)
      replace HB := HM.out.below
      clear hb
      go_wp2_with (first | refine m_rdg ?_ | (refine m_wrg ?_; clear HM HB; intro w b HM HB; try clear b) | (refine m_ap ?_; clear HM HB; intro w Aq cq HM HB) | fail)
      refine (HLO.out _).mono ?_
      rintro e w ⟨rfl, hb⟩
      replace HM := Lib.hid (HM.out.call hb)
      replace HB := HM.out.below
      clear hb
      go_wp2_with (first | refine m_rdg ?_ | (refine m_wrg ?_; clear HM HB; intro w b HM HB; try clear b) | (refine m_ap ?_; clear HM HB; intro w Aq cq HM HB) | fail)
      refine (HMD.out _).mono ?_
      rintro e w ⟨rfl, hb⟩
      replace HM := Lib.hid (HM.out.call hb)
      replace HB := HM.out.below
      clear hb
      go_wp2_with (first | refine m_rdg ?_ | (refine m_wrg ?_; clear HM HB; intro w b HM HB; try clear b) | (refine m_ap ?_; clear HM HB; intro w Aq cq HM HB) | fail)
      go_ret
      exact ⟨rfl, HB⟩
set_option maxHeartbeats 2000000 in
theorem refDue_any (A : Option Addr) (c : Nat) (l : List UInt8) (w0 : World) (hr : RB w0 (.slice A l.length c) l) :
    Calls Try.prog 63 #[.slice A l.length c] w0 fun e w' => e = .returned (.bool (dueB l)) ∧ Below w0.heap.size w0 w' := by
  have HR := Lib.hid hr
  have HP := Lib.hid (refParseP_any (.slice A l.length c) l)
  have HC := Lib.hid (cells_headP l)
  have HW := Lib.hid (refWhole_any A c l)
  have HE := Lib.hid (refIsError_any A c l)
  have HL := Lib.hid (refLater_any A c l)
  clear hr
  unfold dueB
  by_cases hw : wholeB l = true
  case neg =>
    rw [show wholeB l = false by simpa using hw] at HW ⊢
    rw [Bool.false_and]
    clear hw
    generalize headP l = hv at HP HC
    generalize badP l = bq at HP
    have HM := Lib.hid (Mem.start w0)
    have HB := HM.out.below
    go_enter Try.func63, Try.ntmps63
    go_wp2_with (first | refine m_rdg ?_ | (refine m_wrg ?_; clear HM HB; intro w b HM HB; try clear b) | (refine m_ap ?_; clear HM HB; intro w Aq cq HM HB) | fail)
    refine (HP.out _ (HR.out.below HB)).mono ?_
    rintro e w ⟨rfl, hb⟩
    replace HM := Lib.hid (HM.out.call hb)
    replace HB := HM.out.below
    clear hb
    go_wp2_with (first | refine m_rdg ?_ | (refine m_wrg ?_; clear HM HB; intro w b HM HB; try clear b) | (refine m_ap ?_; clear HM HB; intro w Aq cq HM HB) | fail)
    refine (HW.out _ (HR.out.below HB)).mono ?_
    rintro e w ⟨rfl, hb⟩
    replace HM := Lib.hid (HM.out.call hb)
    replace HB := HM.out.below
    clear hb
    go_wp2_with (first | refine m_rdg ?_ | (refine m_wrg ?_; clear HM HB; intro w b HM HB; try clear b) | (refine m_ap ?_; clear HM HB; intro w Aq cq HM HB) | fail)
    go_ret
    exact ⟨rfl, HB⟩
  have hb := (I4.whole_bad l hw).1
  rw [hw] at HW ⊢
  rw [Bool.true_and]
  by_cases he : errB l = true
  case pos =>
    rw [he] at HE ⊢
    rw [Bool.not_true, Bool.false_and]
    clear hw hb he
    generalize headP l = hv at HP HC
    generalize badP l = bq at HP
    have HM := Lib.hid (Mem.start w0)
    have HB := HM.out.below
    go_enter Try.func63, Try.ntmps63
    go_wp2_with (first | refine m_rdg ?_ | (refine m_wrg ?_; clear HM HB; intro w b HM HB; try clear b) | (refine m_ap ?_; clear HM HB; intro w Aq cq HM HB) | fail)
    refine (HP.out _ (HR.out.below HB)).mono ?_
    rintro e w ⟨rfl, hb⟩
    replace HM := Lib.hid (HM.out.call hb)
    replace HB := HM.out.below
    clear hb
    go_wp2_with (first | refine m_rdg ?_ | (refine m_wrg ?_; clear HM HB; intro w b HM HB; try clear b) | (refine m_ap ?_; clear HM HB; intro w Aq cq HM HB) | fail)
    refine (HW.out _ (HR.out.below HB)).mono ?_
    rintro e w ⟨rfl, hb⟩
    replace HM := Lib.hid (HM.out.call hb)
    replace HB := HM.out.below
    clear hb
    go_wp2_with (first | refine m_rdg ?_ | (refine m_wrg ?_; clear HM HB; intro w b HM HB; try clear b) | (refine m_ap ?_; clear HM HB; intro w Aq cq HM HB) | fail)
    refine (HE.out _ (HR.out.below HB)).mono ?_
    rintro e w ⟨rfl, hb⟩
    replace HM := Lib.hid (HM.out.call hb)
    replace HB := HM.out.below
    clear hb
    go_wp2_with (first | refine m_rdg ?_ | (refine m_wrg ?_; clear HM HB; intro w b HM HB; try clear b) | (refine m_ap ?_; clear HM HB; intro w Aq cq HM HB) | fail)
    go_ret
    exact ⟨rfl, HB⟩
  rw [show errB l = false by simpa using he] at HE ⊢
  rw [Bool.not_false, Bool.true_and]
  by_cases ht : lateB l = true
  case pos =>
    rw [ht] at HL ⊢
    rw [Bool.not_true, Bool.false_and]
    clear hw hb he ht
    generalize headP l = hv at HP HC
    generalize badP l = bq at HP
    have HM := Lib.hid (Mem.start w0)
    have HB := HM.out.below
    go_enter Try.func63, Try.ntmps63
    go_wp2_with (first | refine m_rdg ?_ | (refine m_wrg ?_; clear HM HB; intro w b HM HB; try clear b) | (refine m_ap ?_; clear HM HB; intro w Aq cq HM HB) | fail)
    refine (HP.out _ (HR.out.below HB)).mono ?_
    rintro e w ⟨rfl, hb⟩
    replace HM := Lib.hid (HM.out.call hb)
    replace HB := HM.out.below
    clear hb
    go_wp2_with (first | refine m_rdg ?_ | (refine m_wrg ?_; clear HM HB; intro w b HM HB; try clear b) | (refine m_ap ?_; clear HM HB; intro w Aq cq HM HB) | fail)
    refine (HW.out _ (HR.out.below HB)).mono ?_
    rintro e w ⟨rfl, hb⟩
    replace HM := Lib.hid (HM.out.call hb)
    replace HB := HM.out.below
    clear hb
    go_wp2_with (first | refine m_rdg ?_ | (refine m_wrg ?_; clear HM HB; intro w b HM HB; try clear b) | (refine m_ap ?_; clear HM HB; intro w Aq cq HM HB) | fail)
    refine (HE.out _ (HR.out.below HB)).mono ?_
    rintro e w ⟨rfl, hb⟩
    replace HM := Lib.hid (HM.out.call hb)
    replace HB := HM.out.below
    clear hb
    go_wp2_with (first | refine m_rdg ?_ | (refine m_wrg ?_; clear HM HB; intro w b HM HB; try clear b) | (refine m_ap ?_; clear HM HB; intro w Aq cq HM HB) | fail)
    refine (HL.out _ (HR.out.below HB)).mono ?_
    rintro e w ⟨rfl, hb⟩
    replace HM := Lib.hid (HM.out.call hb)
    replace HB := HM.out.below
    clear hb
    go_wp2_with (first | refine m_rdg ?_ | (refine m_wrg ?_; clear HM HB; intro w b HM HB; try clear b) | (refine m_ap ?_; clear HM HB; intro w Aq cq HM HB) | fail)
    go_ret
    exact ⟨rfl, HB⟩
  rw [show lateB l = false by simpa using ht] at HL ⊢
  rw [Bool.not_false, Bool.true_and]
  obtain ⟨v, sz, tt, cl, id, fl, fr, tl, pr, x, y, K⟩ := known l hb
  obtain ⟨hrx, hry⟩ := known_right l hb K
  rw [hb, K.head] at HP
  rw [K.head] at HC
  rw [← K.src, ← K.dst, ← K.ver]
  have HX := Lib.hid K.lx
  have HY := Lib.hid K.ly
  have HUS := Lib.hid (fun w => refUns_any v x w HX.out hrx)
  have HMS := Lib.hid (fun w => refMul_any v x w HX.out hrx)
  have HMD := Lib.hid (fun w => refMul_any v y w HY.out hry)
  generalize mulA v y = md at HMD ⊢
  generalize mulA v x = ms at HMS ⊢
  generalize unsA x = us at HUS ⊢
  clear hw hb he ht K hrx hry
  cases us
  case true =>
    have HM := Lib.hid (Mem.start w0)
    have HB := HM.out.below
    go_enter Try.func63, Try.ntmps63
    go_wp2_with (first | refine m_rdg ?_ | (refine m_wrg ?_; clear HM HB; intro w b HM HB; try clear b) | (refine m_ap ?_; clear HM HB; intro w Aq cq HM HB) | fail)
    refine (HP.out _ (HR.out.below HB)).mono ?_
    rintro e w ⟨rfl, hb⟩
    replace HM := Lib.hid (HM.out.call hb)
    replace HB := HM.out.below
    clear hb
    go_wp2_with (first | refine m_rdg ?_ | (refine m_wrg ?_; clear HM HB; intro w b HM HB; try clear b) | (refine m_ap ?_; clear HM HB; intro w Aq cq HM HB) | fail)
    refine (HW.out _ (HR.out.below HB)).mono ?_
    rintro e w ⟨rfl, hb⟩
    replace HM := Lib.hid (HM.out.call hb)
    replace HB := HM.out.below
    clear hb
    go_wp2_with (first | refine m_rdg ?_ | (refine m_wrg ?_; clear HM HB; intro w b HM HB; try clear b) | (refine m_ap ?_; clear HM HB; intro w Aq cq HM HB) | fail)
    refine (HE.out _ (HR.out.below HB)).mono ?_
    rintro e w ⟨rfl, hb⟩
    replace HM := Lib.hid (HM.out.call hb)
    replace HB := HM.out.below
    clear hb
    go_wp2_with (first | refine m_rdg ?_ | (refine m_wrg ?_; clear HM HB; intro w b HM HB; try clear b) | (refine m_ap ?_; clear HM HB; intro w Aq cq HM HB) | fail)
    refine (HL.out _ (HR.out.below HB)).mono ?_
    rintro e w ⟨rfl, hb⟩
    replace HM := Lib.hid (HM.out.call hb)
    replace HB := HM.out.below
    clear hb
    go_wp2_with (first | refine m_rdg ?_ | (refine m_wrg ?_; clear HM HB; intro w b HM HB; try clear b) | (refine m_ap ?_; clear HM HB; intro w Aq cq HM HB) | fail)
    refine (HUS.out _).mono ?_
    rintro e w ⟨rfl, hb⟩
    replace HM := Lib.hid (HM.out.call hb)
    replace HB := HM.out.below
    clear hb
    go_wp2_with (first | refine m_rdg ?_ | (refine m_wrg ?_; clear HM HB; intro w b HM HB; try clear b) | (refine m_ap ?_; clear HM HB; intro w Aq cq HM HB) | fail)
    go_ret
    exact ⟨rfl, HB⟩
  cases ms
  case true =>
    have HM := Lib.hid (Mem.start w0)
    have HB := HM.out.below
    go_enter Try.func63, Try.ntmps63
    go_wp2_with (first | refine m_rdg ?_ | (refine m_wrg ?_; clear HM HB; intro w b HM HB; try clear b) | (refine m_ap ?_; clear HM HB; intro w Aq cq HM HB) | fail)
    refine (HP.out _ (HR.out.below HB)).mono ?_
    rintro e w ⟨rfl, hb⟩
    replace HM := Lib.hid (HM.out.call hb)
    replace HB := HM.out.below
    clear hb
    go_wp2_with (first | refine m_rdg ?_ | (refine m_wrg ?_; clear HM HB; intro w b HM HB; try clear b) | (refine m_ap ?_; clear HM HB; intro w Aq cq HM HB) | fail)
    refine (HW.out _ (HR.out.below HB)).mono ?_
    rintro e w ⟨rfl, hb⟩
    replace HM := Lib.hid (HM.out.call hb)
    replace HB := HM.out.below
    clear hb
    go_wp2_with (first | refine m_rdg ?_ | (refine m_wrg ?_; clear HM HB; intro w b HM HB; try clear b) | (refine m_ap ?_; clear HM HB; intro w Aq cq HM HB) | fail)
    refine (HE.out _ (HR.out.below HB)).mono ?_
    rintro e w ⟨rfl, hb⟩
    replace HM := Lib.hid (HM.out.call hb)
    replace HB := HM.out.below
    clear hb
    go_wp2_with (first | refine m_rdg ?_ | (refine m_wrg ?_; clear HM HB; intro w b HM HB; try clear b) | (refine m_ap ?_; clear HM HB; intro w Aq cq HM HB) | fail)
    refine (HL.out _ (HR.out.below HB)).mono ?_
    rintro e w ⟨rfl, hb⟩
    replace HM := Lib.hid (HM.out.call hb)
    replace HB := HM.out.below
    clear hb
    go_wp2_with (first | refine m_rdg ?_ | (refine m_wrg ?_; clear HM HB; intro w b HM HB; try clear b) | (refine m_ap ?_; clear HM HB; intro w Aq cq HM HB) | fail)
    refine (HUS.out _).mono ?_
    rintro e w ⟨rfl, hb⟩
    replace HM := Lib.hid (HM.out.call hb)
    replace HB := HM.out.below
    clear hb
    go_wp2_with (first | refine m_rdg ?_ | (refine m_wrg ?_; clear HM HB; intro w b HM HB; try clear b) | (refine m_ap ?_; clear HM HB; intro w Aq cq HM HB) | fail)
    refine (HMS.out _).mono ?_
    rintro e w ⟨rfl, hb⟩
    replace HM := Lib.hid (HM.out.call hb)
    replace HB := HM.out.below
    clear hb
    go_wp2_with (first | refine m_rdg ?_ | (refine m_wrg ?_; clear HM HB; intro w b HM HB; try clear b) | (refine m_ap ?_; clear HM HB; intro w Aq cq HM HB) | fail)
    go_ret
    exact ⟨rfl, HB⟩
  cases md
  all_goals
    have HM := Lib.hid (Mem.start w0)
    have HB := HM.out.below
    go_enter Try.func63, Try.ntmps63
    go_wp2_with (first | refine m_rdg ?_ | (refine m_wrg ?_; clear HM HB; intro w b HM HB; try clear b) | (refine m_ap ?_; clear HM HB; intro w Aq cq HM HB) | fail)
    refine (HP.out _ (HR.out.below HB)).mono ?_
    rintro e w ⟨rfl, hb⟩
    replace HM := Lib.hid (HM.out.call hb)
    replace HB := HM.out.below
    clear hb
    go_wp2_with (first | refine m_rdg ?_ | (refine m_wrg ?_; clear HM HB; intro w b HM HB; try clear b) | (refine m_ap ?_; clear HM HB; intro w Aq cq HM HB) | fail)
    refine (HW.out _ (HR.out.below HB)).mono ?_
    rintro e w ⟨rfl, hb⟩
    replace HM := Lib.hid (HM.out.call hb)
    replace HB := HM.out.below
    clear hb
    go_wp2_with (first | refine m_rdg ?_ | (refine m_wrg ?_; clear HM HB; intro w b HM HB; try clear b) | (refine m_ap ?_; clear HM HB; intro w Aq cq HM HB) | fail)
    refine (HE.out _ (HR.out.below HB)).mono ?_
    rintro e w ⟨rfl, hb⟩
    replace HM := Lib.hid (HM.out.call hb)
    replace HB := HM.out.below
    clear hb
    go_wp2_with (first | refine m_rdg ?_ | (refine m_wrg ?_; clear HM HB; intro w b HM HB; try clear b) | (refine m_ap ?_; clear HM HB; intro w Aq cq HM HB) | fail)
    refine (HL.out _ (HR.out.below HB)).mono ?_
    rintro e w ⟨rfl, hb⟩
    replace HM := Lib.hid (HM.out.call hb)
    replace HB := HM.out.below
    clear hb
    go_wp2_with (first | refine m_rdg ?_ | (refine m_wrg ?_; clear HM HB; intro w b HM HB; try clear b) | (refine m_ap ?_; clear HM HB; intro w Aq cq HM HB) | fail)
    refine (HUS.out _).mono ?_
    rintro e w ⟨rfl, hb⟩
    replace HM := Lib.hid (HM.out.call hb)
    replace HB := HM.out.below
    clear hb
    go_wp2_with (first | refine m_rdg ?_ | (refine m_wrg ?_; clear HM HB; intro w b HM HB; try clear b) | (refine m_ap ?_; clear HM HB; intro w Aq cq HM HB) | fail)
    refine (HMS.out _).mono ?_
    rintro e w ⟨rfl, hb⟩
    replace HM := Lib.hid (HM.out.call hb)
    replace HB := HM.out.below
    clear hb
    go_wp2_with (first | refine m_rdg ?_ | (refine m_wrg ?_; clear HM HB; intro w b HM HB; try clear b) | (refine m_ap ?_; clear HM HB; intro w Aq cq HM HB) | fail)
    refine (HMD.out _).mono ?_
    rintro e w ⟨rfl, hb⟩
    replace HM := Lib.hid (HM.out.call hb)
    replace HB := HM.out.below
    clear hb
    go_wp2_with (first | refine m_rdg ?_ | (refine m_wrg ?_; clear HM HB; intro w b HM HB; try clear b) | (refine m_ap ?_; clear HM HB; intro w Aq cq HM HB) | fail)
    go_ret
    exact ⟨rfl, HB⟩
end Go.Proofs.Ytahnibhcfdamdaa.Rf
