/- Package flow: the flow of any bytes. -/
import Derived.Test.YtkfjobanbnokoaaVe
import Derived.Test.YtkfjobanbnokoaaZl
set_option linter.unusedSimpArgs false
set_option linter.unusedVariables false
set_option linter.unusedSectionVars false
set_option maxRecDepth 100000
namespace Go.Proofs.Ytkfjobanbnokoaa.Fw
open Go.RowKit Go.Proofs.YtkfjobanbnokoaaW.PrintWords Go.Proofs.Ytkfjobanbnokoaa.Bs Go.Proofs.Ytkfjobanbnokoaa.Gm
open Go.Proofs.Ytkfjobanbnokoaa.Hd (HV) 
open Go.Proofs.Ytkfjobanbnokoaa.Ip (gb gb_lt)
open Go.Proofs.Ytkfjobanbnokoaa.Av (AV)
open Go.Proofs.Ytkfjobanbnokoaa.Pk (badP headP verP sizP totP proP srcP dstP wholeB lateB Known known)

def b16 (l : List UInt8) : B16 := Vector.ofFn fun i => l.getD i.1 0
theorem b16_list {l : List UInt8} (h : l.length = 16) : (b16 l).toList = l := by
  apply List.ext_getElem
  · simp [h]
  · intro i h1 h2
    simp [b16, List.getD_eq_getElem?_getD, List.getElem?_eq_getElem h2]
theorem i64_nat (n : Nat) (h : n < 9223372036854775808) : (Int64.ofNat n).toInt = (n : Int) := Int64.toInt_ofNat_of_lt (by simpa using h)
def adrN (v : Nat) (l : List UInt8) : Adr := ⟨Int64.ofNat v, b16 l⟩
theorem adrN_C {v : Nat} {l : List UInt8} (hv : v < 9223372036854775808) (hl : l.length = 16) : adrC (adrN v l) = AV [(v : Int)] l := by
  apply Array.ext'
  have h := b16_list hl
  have e : (b16C (b16 l)).toList = encs B l := by
    conv => rhs; rw [← h]
    unfold b16C encs
    rw [Array.toList_map]
    rfl
  unfold adrC adrN
  rw [Array.toList_append, e, Av.AV_list]
  unfold iV
  rw [i64_nat v hv]
  rfl
def portsB (l : List UInt8) : Bool := (proP l == 6 || proP l == 17) && (!lateB l) && decide (4 ≤ l.length - sizP l)
def ofBad (l : List UInt8) : Nat := if badP l = 0 then (if wholeB l = true then 0 else 5) else badP l
def port (l : List UInt8) (i : Nat) : Nat := if portsB l = true then 256 * gb l (sizP l + i) + gb l (sizP l + i + 1) else 0
def ofF (l : List UInt8) : Flow := if ofBad l = 0 then ⟨Int64.ofNat (verP l), Int64.ofNat (proP l), adrN (verP l) (srcP l), adrN (verP l) (dstP l), Int64.ofNat (port l 0), Int64.ofNat (port l 2)⟩ else zF
theorem headC {v sz tt cl id fl fr tl pr : Nat} {x y : List UInt8} (hx : x.length = 16) (hy : y.length = 16) : Cells 67 (HV [(v : Int), (sz : Int), (tt : Int), (cl : Int), (id : Int), (fl : Int), (fr : Int), (tl : Int), (pr : Int)] v x v y) := ⟨Hd.info_HV _ _ _ _ _ rfl hx hy, Hd.HV_one _ _ _ _ _⟩
theorem adr_size (v : Nat) {x : List UInt8} (hx : x.length = 16) : (Try.prog.info? 26).map (·.size) = some (AV [(v : Int)] x).size := Ad.info_AV _ _ hx
theorem zeroHead : ZeroOf 67 Hd.ZH := ⟨Hd.zeroH, by rw [Hd.ZH_size]; exact Hd.infoH, Hd.HV_one _ _ _ _ _⟩
theorem headP_cells (l : List UInt8) : Cells 67 (headP l) := ⟨(Pk.cells_headP l).1, (Pk.cells_headP l).2⟩
theorem built_zF : Built 28 #[] (.agg (flowC zF)) := fun W => by kernel_rfl
theorem list16 {l : List UInt8} (h : l.length = 16) : ∃ a b c d e f g h i j k m n o p q : UInt8, l = [a, b, c, d, e, f, g, h, i, j, k, m, n, o, p, q] := by
  match l, h with
  | [a, b, c, d, e, f, g, h, i, j, k, m, n, o, p, q], _ => exact ⟨a, b, c, d, e, f, g, h, i, j, k, m, n, o, p, q, rfl⟩
def FV (v pr : Int) (s d : Array Value) (sp dp : Int) : Array Value := #[.int .i64 v, .int .i64 pr] ++ (s ++ (d ++ #[.int .i64 sp, .int .i64 dp]))
theorem built_F {t : TypeId} (v pr : Int) {x y : List UInt8} (a b : Int) (hx : x.length = 16) (hy : y.length = 16) (h : ∀ a0 a1 a2 a3 a4 a5 a6 a7 a8 a9 a10 a11 a12 a13 a14 a15 b0 b1 b2 b3 b4 b5 b6 b7 b8 b9 b10 b11 b12 b13 b14 b15 : UInt8, Built t #[(0, .int .i64 v), (1, .int .i64 pr), (2, .agg (AV [a] [a0, a1, a2, a3, a4, a5, a6, a7, a8, a9, a10, a11, a12, a13, a14, a15])), (3, .agg (AV [b] [b0, b1, b2, b3, b4, b5, b6, b7, b8, b9, b10, b11, b12, b13, b14, b15]))] (.agg (FV v pr (AV [a] [a0, a1, a2, a3, a4, a5, a6, a7, a8, a9, a10, a11, a12, a13, a14, a15]) (AV [b] [b0, b1, b2, b3, b4, b5, b6, b7, b8, b9, b10, b11, b12, b13, b14, b15]) 0 0))) :
    Built t #[(0, .int .i64 v), (1, .int .i64 pr), (2, .agg (AV [a] x)), (3, .agg (AV [b] y))] (.agg (FV v pr (AV [a] x) (AV [b] y) 0 0)) := by
  obtain ⟨a0, a1, a2, a3, a4, a5, a6, a7, a8, a9, a10, a11, a12, a13, a14, a15, rfl⟩ := list16 hx
  obtain ⟨b0, b1, b2, b3, b4, b5, b6, b7, b8, b9, b10, b11, b12, b13, b14, b15, rfl⟩ := list16 hy
  exact h a0 a1 a2 a3 a4 a5 a6 a7 a8 a9 a10 a11 a12 a13 a14 a15 b0 b1 b2 b3 b4 b5 b6 b7 b8 b9 b10 b11 b12 b13 b14 b15
theorem built_flow (v pr : Int) {x y : List UInt8} (a b : Int) (hx : x.length = 16) (hy : y.length = 16) : Built 28 #[(0, .int .i64 v), (1, .int .i64 pr), (2, .agg (AV [a] x)), (3, .agg (AV [b] y))] (.agg (FV v pr (AV [a] x) (AV [b] y) 0 0)) := built_F v pr a b hx hy fun _ _ _ _ _ _ _ _ _ _ _ _ _ _ _ _ _ _ _ _ _ _ _ _ _ _ _ _ _ _ _ _ W => by kernel_rfl
theorem built_rflow (v pr : Int) {x y : List UInt8} (a b : Int) (hx : x.length = 16) (hy : y.length = 16) : Built 32 #[(0, .int .i64 v), (1, .int .i64 pr), (2, .agg (AV [a] x)), (3, .agg (AV [b] y))] (.agg (FV v pr (AV [a] x) (AV [b] y) 0 0)) := built_F v pr a b hx hy fun _ _ _ _ _ _ _ _ _ _ _ _ _ _ _ _ _ _ _ _ _ _ _ _ _ _ _ _ _ _ _ _ W => by kernel_rfl
theorem FV_flow {v pr : Nat} {x y : List UInt8} {sp dp : Nat} (hv : v < 9223372036854775808) (hp : pr < 9223372036854775808) (hx : x.length = 16) (hy : y.length = 16) (hs : sp < 9223372036854775808) (hd : dp < 9223372036854775808) :
    FV v pr (AV [(v : Int)] x) (AV [(v : Int)] y) sp dp = flowC ⟨Int64.ofNat v, Int64.ofNat pr, adrN v x, adrN v y, Int64.ofNat sp, Int64.ofNat dp⟩ := by
  unfold flowC FV
  rw [adrN_C hv hx, adrN_C hv hy]
  unfold iV
  rw [i64_nat v hv, i64_nat pr hp, i64_nat sp hs, i64_nat dp hd]
set_option maxHeartbeats 1000000 in
theorem of_bad {A : Option Addr} {c : Nat} {l : List UInt8} {w0 : World} (hr : RB w0 (.slice A l.length c) l) (hb : badP l ≠ 0) : Calls Try.prog 8 #[.slice A l.length c] w0 fun e w' => e = .returned (.tuple #[.agg (flowC zF), .int .i64 (badP l : Nat)]) ∧ Below w0.heap.size w0 w' := by
  have HR := Lib.hid hr
  have HP := Lib.hid (Pk.parseP_any (.slice A l.length c) l)
  have HH := Lib.hid (headP_cells l)
  have AL1 := Lib.hid zeroFlow
  have AL2 := Lib.hid zeroHead
  have BH1 := Lib.hid built_zF
  have HZ := Lib.hid (cellsFlow zF)
  have e1 : (((badP l : Nat) : Int) != 0) = true := bne_iff_ne.2 (by omega)
  generalize badP l = bb at *
  generalize headP l = hh at *
  generalize flowC zF = zf at *
  clear hb hr
  have HM := Lib.hid (Mem.start w0)
  have HB := HM.out.below
  go_enter Try.func8, Try.ntmps8
  go_wp2_with (first | refine m_rd ?_ | (refine m_wr ?_; clear HM HB; intro w b HM HB; try clear b) | fail)
  refine (HP.out _ (HR.out.below HB)).mono ?_
  rintro e w ⟨rfl, hb⟩
  replace HM := Lib.hid (HM.out.call hb)
  replace HB := HM.out.below
  clear hb
  go_wp2_with (first | refine m_rd ?_ | (refine m_wr ?_; clear HM HB; intro w b HM HB; try clear b) | fail)
  apply m_ret_c1
  next => exact rfl
  next => exact rfl
  next => exact rfl
  next => exact HM
  next => (first | ((repeat (first | with_reducible exact List.Mem.head _ | with_reducible apply List.Mem.tail)); done) | ((repeat (first | exact List.Mem.head _ | apply List.Mem.tail)); done))
  next => exact Try.underlying28
  next => rfl
  exact ⟨rfl, HB⟩
set_option maxHeartbeats 1000000 in
theorem of_form {A : Option Addr} {c : Nat} {l : List UInt8} {w0 : World} (hr : RB w0 (.slice A l.length c) l) (hb : badP l = 0) (hw : wholeB l = false) : Calls Try.prog 8 #[.slice A l.length c] w0 fun e w' => e = .returned (.tuple #[.agg (flowC zF), .int .i64 5]) ∧ Below w0.heap.size w0 w' := by
  have HR := Lib.hid hr
  have HP := Lib.hid (Pk.parseP_any (.slice A l.length c) l)
  have HW := Lib.hid (Pk.whole_any A c l)
  rw [hb] at HP
  rw [hw] at HW
  have HH := Lib.hid (headP_cells l)
  have AL1 := Lib.hid zeroFlow
  have AL2 := Lib.hid zeroHead
  have BH1 := Lib.hid built_zF
  have HZ := Lib.hid (cellsFlow zF)
  generalize headP l = hh at *
  generalize flowC zF = zf at *
  clear hb hr hw
  have HM := Lib.hid (Mem.start w0)
  have HB := HM.out.below
  go_enter Try.func8, Try.ntmps8
  go_wp2_with (first | refine m_rd ?_ | (refine m_wr ?_; clear HM HB; intro w b HM HB; try clear b) | fail)
  refine (HP.out _ (HR.out.below HB)).mono ?_
  rintro e w ⟨rfl, hb⟩
  replace HM := Lib.hid (HM.out.call hb)
  replace HB := HM.out.below
  clear hb
  go_wp2_with (first | refine m_rd ?_ | (refine m_wr ?_; clear HM HB; intro w b HM HB; try clear b) | fail)
  refine (HW.out _ (HR.out.below HB)).mono ?_
  rintro e w ⟨rfl, hb⟩
  replace HM := Lib.hid (HM.out.call hb)
  replace HB := HM.out.below
  clear hb
  go_wp2_with (first | refine m_rd ?_ | (refine m_wr ?_; clear HM HB; intro w b HM HB; try clear b) | fail)
  apply m_ret_c1
  next => exact rfl
  next => exact rfl
  next => exact rfl
  next => exact HM
  next => (first | ((repeat (first | with_reducible exact List.Mem.head _ | with_reducible apply List.Mem.tail)); done) | ((repeat (first | exact List.Mem.head _ | apply List.Mem.tail)); done))
  next => exact Try.underlying28
  next => rfl
  exact ⟨rfl, HB⟩
/-- What a walk knows of a whole packet. -/
structure OfK (l : List UInt8) (n : Nat) (hv cf : Array Value) (v pr sz : Nat) (sC dC : Array Value) : Prop where
  len : l.length = n
  cells : Cells 67 hv
  v0 : hv[0]? = some (.int .i64 v)
  v8 : hv[8]? = some (.int .i64 pr)
  v1 : hv[1]? = some (.int .i64 sz)
  s : PartOf 26 hv 9 sC
  d : PartOf 26 hv 26 dC
  b : Built 28 #[(0, .int .i64 v), (1, .int .i64 pr), (2, .agg sC), (3, .agg dC)] (.agg cf)
  b2 : Built 32 #[(0, .int .i64 v), (1, .int .i64 pr), (2, .agg sC), (3, .agg dC)] (.agg cf)
  c : Cells 28 cf
  c2 : Cells 32 cf
  sz : sz ≤ n
  prl : pr < 256
set_option maxHeartbeats 10000000 in
theorem of_none {A : Option Addr} {c n v pr sz : Nat} {l : List UInt8} {hv cf sC dC : Array Value} {lt : Bool} {w0 : World} (K : OfK l n hv cf v pr sz sC dC) (hr : RB w0 (.slice A l.length c) l) (HP : Hid (∀ w, RB w (.slice A n c) l → Calls Try.prog 29 #[.slice A n c] w fun e w' => e = .returned (.tuple #[.agg hv, .int .i64 0]) ∧ Below w.heap.size w w'))
    (HW : Hid (∀ w, RB w (.slice A n c) l → Calls Try.prog 30 #[.slice A n c] w fun e w' => e = .returned (.bool true) ∧ Below w.heap.size w w')) (HT : Hid (∀ w, RB w (.slice A n c) l → Calls Try.prog 31 #[.slice A n c] w fun e w' => e = .returned (.bool lt) ∧ Below w.heap.size w w'))
    (hA : 0 < n) (hp : ((pr == 6 || pr == 17) && (!lt) && decide (4 ≤ n - sz)) = false) : Calls Try.prog 8 #[.slice A n c] w0 fun e w' => e = .returned (.tuple #[.agg cf, .int .i64 0]) ∧ Below w0.heap.size w0 w' := by
  have hc : n ≤ c := by obtain ⟨_, _, e, h, _⟩ := hr; injection e with e1 e2 e3; subst e3; rw [K.len] at h; exact h
  have hn : n ≤ 9223372036854775807 := by have := hr.len; rw [K.len] at this; exact this
  obtain ⟨ad, rfl⟩ := hr.some (by rw [K.len]; exact hA)
  rw [K.len] at hr
  have HR := Lib.hid hr
  have HH := Lib.hid K.cells
  have AL1 := Lib.hid zeroFlow
  have AL2 := Lib.hid zeroHead
  have BH1 := Lib.hid K.b
  have CV1 := Lib.hid K.v0
  have CV2 := Lib.hid K.v8
  have CV3 := Lib.hid K.v1
  have PT1 := Lib.hid K.s
  have PT2 := Lib.hid K.d
  have HZ := Lib.hid K.c
  have hsz := K.sz
  obtain ⟨p6, e6⟩ : ∃ b, ((pr : Int) == 6) = b := ⟨_, rfl⟩
  obtain ⟨p17, e17⟩ : ∃ b, ((pr : Int) == 17) = b := ⟨_, rfl⟩
  obtain ⟨sh, e4⟩ : ∃ b, decide ((4 : Int) ≤ ((n - sz : Nat) : Int)) = b := ⟨_, rfl⟩
  have hp2 : ((p6 || p17) && (!lt) && sh) = false := by
    rw [← e6, ← e17, ← e4, ← hp]
    have a1 : ((pr : Int) == 6) = (pr == 6) := by rw [Bool.eq_iff_iff]; simp; omega
    have a2 : ((pr : Int) == 17) = (pr == 17) := by rw [Bool.eq_iff_iff]; simp; omega
    have a3 : decide ((4 : Int) ≤ ((n - sz : Nat) : Int)) = decide (4 ≤ n - sz) := by rw [Bool.eq_iff_iff]; simp; omega
    rw [a1, a2, a3]
  clear hp K hA hr
  generalize flowC zF = zf at *
  have hcs : sz < c ∨ c = sz := by omega
  have hcase : (p6 = false ∧ p17 = false) ∨ (p6 = false ∧ p17 = true ∧ lt = true) ∨ (p6 = false ∧ p17 = true ∧ lt = false ∧ sh = false) ∨ (p6 = true ∧ lt = true) ∨ (p6 = true ∧ lt = false ∧ sh = false) := by
    cases p6 <;> cases p17 <;> cases lt <;> cases sh <;> simp_all
  clear hp2
  rcases hcase with ⟨rfl, rfl⟩ | ⟨rfl, rfl, rfl⟩ | ⟨rfl, rfl, rfl, rfl⟩ | ⟨rfl, rfl⟩ | ⟨rfl, rfl, rfl⟩ <;> rcases hcs with hcs | rfl
  all_goals
    have HM := Lib.hid (Mem.start w0)
    have HB := HM.out.below
    go_enter Try.func8, Try.ntmps8
    go_wp2_with (first | refine m_rd ?_ | (refine m_wr ?_; clear HM HB; intro w b HM HB; try clear b) | fail)
    refine (HP.out _ (HR.out.below HB)).mono ?_
    rintro e w ⟨rfl, hb⟩
    replace HM := Lib.hid (HM.out.call hb)
    replace HB := HM.out.below
    clear hb
    go_wp2_with (first | refine m_rd ?_ | (refine m_wr ?_; clear HM HB; intro w b HM HB; try clear b) | fail)
    refine (HW.out _ (HR.out.below HB)).mono ?_
    rintro e w ⟨rfl, hb⟩
    replace HM := Lib.hid (HM.out.call hb)
    replace HB := HM.out.below
    clear hb
    go_wp2_with (first | refine m_rd ?_ | (refine m_wr ?_; clear HM HB; intro w b HM HB; try clear b) | fail)
    try (refine (HT.out _ (HR.out.below HB)).mono ?_)
    try (rintro e w ⟨rfl, hb⟩; replace HM := Lib.hid (HM.out.call hb); replace HB := HM.out.below; clear hb)
    go_wp2_with (first | refine m_rd ?_ | (refine m_wr ?_; clear HM HB; intro w b HM HB; try clear b) | fail)
    apply m_ret_c1
    next => exact rfl
    next => exact rfl
    next => exact rfl
    next => exact HM
    next => (first | ((repeat (first | with_reducible exact List.Mem.head _ | with_reducible apply List.Mem.tail)); done) | ((repeat (first | exact List.Mem.head _ | apply List.Mem.tail)); done))
    next => exact Try.underlying28
    next => rfl
    exact ⟨rfl, HB⟩
theorem join8 {g k : Nat} (hg : g < 256) (hk : k < 256) : Go.bits .or .i64 (IntKind.i64.wrap (IntKind.i64.wrap (g : Int) * 256)) (IntKind.i64.wrap (k : Int)) = 256 * (g : Int) + (k : Int) := by
  have h := Mm.i64_join g k 8 (by omega) (by omega)
  have e1 : IntKind.i64.wrap (g : Int) = g := by rw [IntKind.wrap_i64]; omega
  have e2 : IntKind.i64.wrap (k : Int) = k := by rw [IntKind.wrap_i64]; omega
  have e3 : IntKind.i64.wrap ((g : Int) * 256) = ((g * 2 ^ 8 : Nat) : Int) := by rw [IntKind.wrap_i64]; omega
  rw [e1, e2, e3, h]
  omega
set_option maxHeartbeats 10000000 in
theorem of_some {A : Option Addr} {c n v pr sz g0 g1 g2 g3 : Nat} {l : List UInt8} {hv cf cf1 cf2 sC dC : Array Value} {w0 : World} (K : OfK l n hv cf v pr sz sC dC) (hr : RB w0 (.slice A l.length c) l) (HP : Hid (∀ w, RB w (.slice A n c) l → Calls Try.prog 29 #[.slice A n c] w fun e w' => e = .returned (.tuple #[.agg hv, .int .i64 0]) ∧ Below w.heap.size w w'))
    (HW : Hid (∀ w, RB w (.slice A n c) l → Calls Try.prog 30 #[.slice A n c] w fun e w' => e = .returned (.bool true) ∧ Below w.heap.size w w')) (HT : Hid (∀ w, RB w (.slice A n c) l → Calls Try.prog 31 #[.slice A n c] w fun e w' => e = .returned (.bool false) ∧ Below w.heap.size w w'))
    (hA : 0 < n) (hp : (pr == 6 || pr == 17) = true) (h4 : 4 ≤ n - sz) (hg0 : gb l (sz + 0) = g0) (hg1 : gb l (sz + 1) = g1) (hg2 : gb l (sz + 2) = g2) (hg3 : gb l (sz + 3) = g3)
    (CV4 : Hid (cf[36]? = some (.int .i64 0))) (PU1 : Hid (cf.setIfInBounds 36 (.int .i64 ((256 * g0 + g1 : Nat) : Int)) = cf1)) (CV5 : Hid (cf1[37]? = some (.int .i64 0))) (PU2 : Hid (cf1.setIfInBounds 37 (.int .i64 ((256 * g2 + g3 : Nat) : Int)) = cf2)) (HZ2 : Hid (Cells 28 cf2)) : Calls Try.prog 8 #[.slice A n c] w0 fun e w' => e = .returned (.tuple #[.agg cf2, .int .i64 0]) ∧ Below w0.heap.size w0 w' := by
  have hc : n ≤ c := by obtain ⟨_, _, e, h, _⟩ := hr; injection e with e1 e2 e3; subst e3; rw [K.len] at h; exact h
  have hn : n ≤ 9223372036854775807 := by have := hr.len; rw [K.len] at this; exact this
  obtain ⟨ad, rfl⟩ := hr.some (by rw [K.len]; exact hA)
  have hb0 := hr.byte (sz + 0) (by rw [K.len]; omega)
  have hb1 := hr.byte (sz + 1) (by rw [K.len]; omega)
  have hb2 := hr.byte (sz + 2) (by rw [K.len]; omega)
  have hb3 := hr.byte (sz + 3) (by rw [K.len]; omega)
  change ∀ W, Below w0.heap.size w0 W → W.cell? (ad.add (sz + 0)) = some (.int .u8 ((gb l (sz + 0) : Nat) : Int)) at hb0
  change ∀ W, Below w0.heap.size w0 W → W.cell? (ad.add (sz + 1)) = some (.int .u8 ((gb l (sz + 1) : Nat) : Int)) at hb1
  change ∀ W, Below w0.heap.size w0 W → W.cell? (ad.add (sz + 2)) = some (.int .u8 ((gb l (sz + 2) : Nat) : Int)) at hb2
  change ∀ W, Below w0.heap.size w0 W → W.cell? (ad.add (sz + 3)) = some (.int .u8 ((gb l (sz + 3) : Nat) : Int)) at hb3
  have l0 := gb_lt l (sz + 0)
  have l1 := gb_lt l (sz + 1)
  have l2 := gb_lt l (sz + 2)
  have l3 := gb_lt l (sz + 3)
  rw [hg0] at hb0 l0
  rw [hg1] at hb1 l1
  rw [hg2] at hb2 l2
  rw [hg3] at hb3 l3
  rw [Nat.add_zero] at hb0
  rw [← Gm.add_add, Av.add_lit _ _ (by decide)] at hb1 hb2 hb3
  have HJ0 := Lib.hid (join8 l0 l1)
  have HJ1 := Lib.hid (join8 l2 l3)
  rw [K.len] at hr
  have HR := Lib.hid hr
  have HH := Lib.hid K.cells
  have AL1 := Lib.hid zeroFlow
  have AL2 := Lib.hid zeroHead
  have BH1 := Lib.hid K.b
  have CV1 := Lib.hid K.v0
  have CV2 := Lib.hid K.v8
  have CV3 := Lib.hid K.v1
  have PT1 := Lib.hid K.s
  have PT2 := Lib.hid K.d
  have HZ := Lib.hid K.c
  have hsz := K.sz
  obtain ⟨p6, e6⟩ : ∃ b, ((pr : Int) == 6) = b := ⟨_, rfl⟩
  obtain ⟨p17, e17⟩ : ∃ b, ((pr : Int) == 17) = b := ⟨_, rfl⟩
  have e4 : decide ((4 : Int) ≤ ((n - sz : Nat) : Int)) = true := decide_eq_true (by omega)
  have hp2 : (p6 || p17) = true := by
    rw [← e6, ← e17, ← hp]
    have a1 : ((pr : Int) == 6) = (pr == 6) := by rw [Bool.eq_iff_iff]; simp; omega
    have a2 : ((pr : Int) == 17) = (pr == 17) := by rw [Bool.eq_iff_iff]; simp; omega
    rw [a1, a2]
  have hcs : sz < c := by omega
  clear hp K hA hr hg0 hg1 hg2 hg3
  generalize flowC zF = zf at *
  have hcase : (p6 = false ∧ p17 = true) ∨ p6 = true := by cases p6 <;> cases p17 <;> simp_all
  clear hp2
  rcases hcase with ⟨rfl, rfl⟩ | rfl
  all_goals
    have HM := Lib.hid (Mem.start w0)
    have HB := HM.out.below
    go_enter Try.func8, Try.ntmps8
    go_wp2_with (first | refine m_rd ?_ | (refine m_wr ?_; clear HM HB; intro w b HM HB; try clear b) | fail)
    refine (HP.out _ (HR.out.below HB)).mono ?_
    rintro e w ⟨rfl, hb⟩
    replace HM := Lib.hid (HM.out.call hb)
    replace HB := HM.out.below
    clear hb
    go_wp2_with (first | refine m_rd ?_ | (refine m_wr ?_; clear HM HB; intro w b HM HB; try clear b) | fail)
    refine (HW.out _ (HR.out.below HB)).mono ?_
    rintro e w ⟨rfl, hb⟩
    replace HM := Lib.hid (HM.out.call hb)
    replace HB := HM.out.below
    clear hb
    go_wp2_with (first | refine m_rd ?_ | (refine m_wr ?_; clear HM HB; intro w b HM HB; try clear b) | fail)
    refine (HT.out _ (HR.out.below HB)).mono ?_
    rintro e w ⟨rfl, hb⟩
    replace HM := Lib.hid (HM.out.call hb)
    replace HB := HM.out.below
    clear hb
    go_wp2_with (first | refine m_rd ?_ | (refine m_wr ?_; clear HM HB; intro w b HM HB; try clear b) | fail)
    try simp only [Act.put, List.setIfInBounds_toArray, List.set_cons_zero, List.set_cons_succ]
    refine wp_region_held_drew (S := fun w' => Below w0.heap.size w0 w') (by kernel_rfl) (below_drew HB) (fun hS => ?_)
    replace HM := Lib.hid HM.out.drew
    replace HB := HM.out.below
    refine tk 0 54 ?_
    refine tk 1 55 ?_
    refine tk 2 56 ?_
    refine tk 3 57 ?_
    refine tk 4 58 ?_
    refine tk 5 59 ?_
    refine tk 6 60 ?_
    refine tk 7 61 ?_
    refine tk 8 62 ?_
    refine tkv 9 63 (.int .i64 ((256 * g0 + g1 : Nat) : Int)) rfl (.inl ⟨by kernel_rfl, fun w' hw => by go_simp; exact HJ0.out⟩) ?_
    refine tk 10 64 ?_
    refine tk 11 65 ?_
    refine tk 12 66 ?_
    refine tk 13 67 ?_
    refine tk 14 68 ?_
    refine tk 15 69 ?_
    refine tk 16 70 ?_
    refine tk 17 71 ?_
    refine tk 18 72 ?_
    refine tkv 19 73 (.int .i64 ((256 * g2 + g3 : Nat) : Int)) rfl (.inl ⟨by kernel_rfl, fun w' hw => by go_simp; exact HJ1.out⟩) ?_
    refine tk 20 74 ?_
    refine rone 21 rfl fun K' hK => ?_
    refine s_wr ?_ HM (Wr.put rfl (by kernel_rfl) rfl rfl rfl (by (first | ((repeat (first | with_reducible exact Upd.head _ | with_reducible apply Upd.tail)); done) | ((repeat (first | exact Upd.head _ | apply Upd.tail)); done))) CV4.out PU1.out) (by kernel_rfl)
    clear HM HB
    intro w _ HM HB
    refine hK.out _ _ (HB) (fun hS2 => ?_)
    clear hS hK
    have hS := hS2
    clear hS2
    try simp only [Act.put, List.setIfInBounds_toArray, List.set_cons_zero, List.set_cons_succ]
    refine tk 22 75 ?_
    refine rone 23 rfl fun K' hK => ?_
    refine s_wr ?_ HM (Wr.put rfl (by kernel_rfl) rfl rfl rfl (by (first | ((repeat (first | with_reducible exact Upd.head _ | with_reducible apply Upd.tail)); done) | ((repeat (first | exact Upd.head _ | apply Upd.tail)); done))) CV5.out PU2.out) (by kernel_rfl)
    clear HM HB
    intro w _ HM HB
    refine hK.out _ _ (HB) (fun hS2 => ?_)
    clear hS hK
    have hS := hS2
    clear hS2
    try simp only [Act.put, List.setIfInBounds_toArray, List.set_cons_zero, List.set_cons_succ]
    refine wpAnyH_done (by kernel_rfl) ?_ _
    clear hS
    go_wp2_with (first | refine m_rd ?_ | (refine m_wr ?_; clear HM HB; intro w b HM HB; try clear b) | fail)
    apply m_ret_c1
    next => exact rfl
    next => exact rfl
    next => exact rfl
    next => exact HM
    next => (first | ((repeat (first | with_reducible exact List.Mem.head _ | with_reducible apply List.Mem.tail)); done) | ((repeat (first | exact List.Mem.head _ | apply List.Mem.tail)); done))
    next => exact Try.underlying28
    next => rfl
    exact ⟨rfl, HB⟩
end Go.Proofs.Ytkfjobanbnokoaa.Fw
