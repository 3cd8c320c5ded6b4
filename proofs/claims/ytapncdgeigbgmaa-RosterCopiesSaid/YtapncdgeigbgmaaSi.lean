/- Layer 30: whatever is sent, and comes: a session beside the document's. -/
import Derived.Test.YtapncdgeigbgmaaSh
import Derived.Deep.SlicePairs
set_option linter.unusedSimpArgs false
set_option linter.unusedVariables false
set_option maxRecDepth 100000
namespace Go.Proofs.Ytapncdgeigbgmaa.Sf
open Go.RowKit Go.Proofs.YtapncdgeigbgmaaW.PrintWords Go.Proofs.Ytapncdgeigbgmaa.Bs Go.Proofs.Ytapncdgeigbgmaa.Rp Go.Proofs.Ytapncdgeigbgmaa.Gm

/-- A slice of deeds: whether it is sent, or which comes. -/
def DR (w : World) (A : Option Addr) (D : List (Bool × Nat)) : Prop :=
  D.length ≤ 9223372036854775807 ∧ ∀ j, j < D.length → ∃ ad, A = some ad ∧ w.cell? (ad.add (j * 2)) = some (.bool (D.getD j (false, 0)).1) ∧ w.cell? (ad.add (j * 2 + 1)) = some (.int .u64 ((D.getD j (false, 0)).2 : Nat))
theorem DR.below {w w1 : World} {A : Option Addr} {D : List (Bool × Nat)} (h : DR w A D) (hb : Below w.heap.size w w1) : DR w1 A D :=
  ⟨h.1, fun j hj => by
    obtain ⟨ad, e, h1, h2⟩ := h.2 j hj
    exact ⟨ad, e, pw_cell_below hb h1, pw_cell_below hb h2⟩⟩
theorem add_next (ad : Addr) (m : Nat) : ad.add (m + 1) = ⟨(ad.add m).block, (ad.add m).off + 1, none⟩ := by
  unfold Addr.add
  rw [if_neg (by omega)]
  by_cases h : m = 0
  · subst h; simp
  · rw [if_neg h]; simp [Nat.add_assoc]
def stepS (q : Int × List Nat) (d : Bool × Nat) : Int × List Nat := if d.1 = true then (nextN q.1, q.2) else (q.1, takeL q.2 d.2)
def endS (D : List (Bool × Nat)) (n : Int) (l : List Nat) : Int × List Nat := D.foldl stepS (n, l)
theorem endS_snoc (D : List (Bool × Nat)) (n : Int) (l : List Nat) (i : Nat) (h : i < D.length) : endS (D.take (i + 1)) n l = stepS (endS (D.take i) n l) (D.getD i (false, 0)) := by
  unfold endS
  rw [List.take_add_one, List.foldl_append, List.getElem?_eq_getElem h, List.getD_eq_getElem?_getD, List.getElem?_eq_getElem h]
  rfl
def OkS (q : Int × List Nat) (k : Nat) : Prop := 0 ≤ q.1 ∧ q.1 < 18446744073709551616 ∧ (∀ y ∈ q.2, y < 18446744073709551616) ∧ q.2.length ≤ k
theorem OkS.step {q : Int × List Nat} {k : Nat} (h : OkS q k) (d : Bool × Nat) (hd : d.2 < 18446744073709551616) : OkS (stepS q d) (k + 1) := by
  obtain ⟨h0, h1, h2, h3⟩ := h
  unfold stepS
  split
  · refine ⟨?_, ?_, h2, by show q.2.length ≤ _; omega⟩
    · show 0 ≤ nextN q.1; unfold nextN; split <;> omega
    · show nextN q.1 < _; unfold nextN Ctr.lim; split <;> omega
  · refine ⟨h0, h1, ?_, ?_⟩
    · intro y hy
      have hy' : y ∈ takeL q.2 d.2 := hy
      unfold takeL at hy'
      split at hy'
      · rcases List.mem_append.1 hy' with h | h
        · exact h2 y h
        · simp at h; omega
      · exact h2 y hy'
    · show (takeL q.2 d.2).length ≤ _
      unfold takeL
      split
      · simp; omega
      · omega
theorem OkS.all (D : List (Bool × Nat)) (n : Int) (l : List Nat) (k : Nat) (h : OkS (n, l) k) (hD : ∀ j, (D.getD j (false, 0)).2 < 18446744073709551616) : ∀ i, i ≤ D.length → OkS (endS (D.take i) n l) (k + i)
  | 0, _ => by simpa [endS] using h
  | i + 1, hi => by
    rw [endS_snoc D n l i (by omega)]
    exact (OkS.all D n l k h hD i (by omega)).step _ (hD i)
/-- A session, as a thing that a call knows of. -/
def sesE (b : Nat) (K : Array Value) (lo re n : Int) (m : List Nat) : Ent := .any (some b) (fun _ w => SesP b K lo re n m w)
theorem _root_.Go.Proofs.Ytapncdgeigbgmaa.Gm.Mem.ses {w0 w w1 : World} {es es' : List Ent} {b : Nat} {K : Array Value} {lo re n n' : Int} {m m' : List Nat} (h : Mem w0 w es) (u : Upd (sesE b K lo re n m) (sesE b K lo re n' m') es es') (hp : SesP b K lo re n' m' w1) (hg : w.grownBy w1 (some b)) : Mem w0 w1 es' :=
  h.turn u hg ⟨⟨hp, fun k hk => ⟨((h.all _ u.mem).1.2 k hk).1, by injection hk with hk; subst hk; exact hp.lt⟩⟩, SesP.local_ b K lo re n' m'⟩ (fun k hk => .inl hk)
theorem _root_.Go.Proofs.Ytapncdgeigbgmaa.Gm.Mem.sesAt {w0 w : World} {es : List Ent} {b : Nat} {K : Array Value} {lo re n : Int} {m : List Nat} (h : Mem w0 w es) (u : sesE b K lo re n m ∈ es) : SesP b K lo re n m w := h.prop u
theorem _root_.Go.Proofs.Ytapncdgeigbgmaa.Gm.Mem.front {w0 w : World} {es es' : List Ent} (h : Mem w0 w es) {e : Ent} (d : Del e es es') : Mem w0 w (e :: es') := h.perm d.perm
def ZD : Array Value := #[.bool false, .int .u64 0]
theorem zeroD : ZeroOf 116 ZD := ⟨fun W => zero_of (by kernel_rfl) W, by kernel_rfl, by kernel_rfl⟩
theorem cellsD (s : Bool) (x : Nat) : Cells 116 #[.bool s, .int .u64 (x : Int)] := ⟨by kernel_rfl, by simp [Value.oneCell']⟩

theorem _root_.Go.Proofs.Ytapncdgeigbgmaa.Gm.Mem.drop {w0 w : World} {e : Ent} {r : List Ent} (h : Mem w0 w (e :: r)) : Mem w0 w r := h.tail
set_option maxHeartbeats 4000000 in
theorem plays_any (w0 w : World) (bs : Nat) (K K2 : Array Value) (lo re lo2 re2 n : Int) (l : List Nat) (A : Option Addr) (c : Nat) (es : List Ent) (C : Option Addr) (cc : Nat) (D : List (Bool × Nat))
    (HM : HMem w0 w (sesE bs K lo re n l :: rowU (.slice A l.length c) l :: es)) (hK : K2.size = 32) (h1 : K2.all (·.oneCell') = true) (hq : OkS (n, l) 300) (hD : DR w0 C D) (hDb : ∀ j, (D.getD j (false, 0)).2 < 18446744073709551616) (hDl : D.length ≤ 60) :
    Calls Try.prog 14 #[.pointer (some ⟨bs, 0, none⟩), .agg (SV K2 lo2 re2 n A l.length c), .slice C D.length cc] w fun e w' => ∃ A' c' es2, e = .returned (.tuple #[.agg (SV K2 lo2 re2 (endS D n l).1 A' (endS D n l).2.length c'), .bool true]) ∧ HMem w0 w' (sesE bs K lo re (endS D n l).1 (endS D n l).2 :: rowU (.slice A' (endS D n l).2.length c') (endS D n l).2 :: es2) ∧ (rowU (.slice A l.length c) l :: es).Sublist (rowU (.slice A' (endS D n l).2.length c') (endS D n l).2 :: es2) := by
  have HB := HM.out.below
  have HDR := Lib.hid hD
  have HDB := Lib.hid hDb
  have HOK := Lib.hid (OkS.all D n l 300 hq hDb)
  have HCA : Hid (∀ n A len c, Cells 43 (SV K2 lo2 re2 n A len c)) := Lib.hid (fun n A len c => cellsR K2 lo2 re2 n A len c hK h1)
  have HSA : Hid (∀ n A len c, (SV K2 lo2 re2 n A len c)[34]? = some (.int .u64 n) ∧ (SV K2 lo2 re2 n A len c)[35]? = some (.slice A len c)) := Lib.hid (fun n A len c => (SV_at K2 lo2 re2 n A len c hK).2.2)
  have HRS := Lib.hid (fun n A len c w h0 h2 => refSend_any K2 lo2 re2 n A len c w hK h1 h0 h2)
  have HRB := Lib.hid (fun n A l c x w hr hb hx hc => refTake_bad K2 lo2 re2 n A l c x w hK h1 hr hb hx hc)
  have HRG := Lib.hid (fun n A l c x w hr hb hx hl hc => refTake_good K2 lo2 re2 n A l c x w hK h1 hr hb hx hl hc)
  have AL1 := Lib.hid zeroR
  have AL2 := Lib.hid zeroD
  have hDL := HDR.out.1
  clear hK h1 hq hD hDb
  go_enter Try.func14, Try.ntmps14
  go_wp2_with (first | (refine m_wr ?_ HM (Wr.box rfl rfl (HCA.out _ _ _ _)) (wanted_none rfl); clear HM HB; intro w b4 HM HB) | (refine m_wr ?_ HM (Wr.alloc rfl AL1.out.1 AL1.out.2) (wanted_none rfl); clear HM HB; intro w b6 HM HB) | refine m_rd ?_ | (refine m_wr ?_; clear HM HB; intro w b HM HB; try clear b) | fail)
  go_loopw [20] (fun v20 wr => ∃ i : Nat, i ≤ D.length ∧ v20 = .int .i64 i ∧ ∃ A' c' es2, HMem w0 wr (Ent.blk b6 ZR 43 :: Ent.blk b4 (SV K2 lo2 re2 (endS (D.take i) n l).1 A' (endS (D.take i) n l).2.length c') 43 :: sesE bs K lo re (endS (D.take i) n l).1 (endS (D.take i) n l).2 :: rowU (.slice A' (endS (D.take i) n l).2.length c') (endS (D.take i) n l).2 :: es2) ∧ Hid ((rowU (.slice A l.length c) l :: es).Sublist (rowU (.slice A' (endS (D.take i) n l).2.length c') (endS (D.take i) n l).2 :: es2))) (fun v20 _ => D.length - (intOf v20).toNat)
  case atStart => exact ⟨0, Nat.zero_le _, rfl, A, c, es, HM, Lib.hid (List.Sublist.refl _)⟩
  case round =>
    clear HM HB
    obtain ⟨i, hi, rfl, A', c', es2, HM, HSL⟩ := hrel
    have HB := HM.out.below
    have HO := HOK.out i hi
    by_cases hlt : i < D.length
    · obtain ⟨ad, rfl, hc1, hc2⟩ := (HDR.out.below HB).2 i hlt
      rw [add_next] at hc2
      have HST := Lib.hid (endS_snoc D n l i hlt)
      have hxb := HDB.out i
      generalize D.getD i (false, 0) = d at hc1 hc2 HST hxb
      obtain ⟨s, x⟩ := d
      simp only [] at hc1 hc2 hxb
      have HX := Lib.hid hxb
      have CV1 : Hid ((#[.bool s, .int .u64 ((x : Nat) : Int)] : Array Value)[0]? = some (.bool s)) := Lib.hid rfl
      have CV2 : Hid ((#[.bool s, .int .u64 ((x : Nat) : Int)] : Array Value)[1]? = some (.int .u64 ((x : Nat) : Int))) := Lib.hid rfl
      have HCD := Lib.hid (cellsD s x)
      generalize endS (D.take i) n l = q at HM HST HO HSL
      obtain ⟨nn, ll⟩ := q
      simp only [] at HM HSL
      obtain ⟨o0, o1, o2, o3⟩ := HO
      simp only [] at o0 o1 o2 o3
      have HO1 := Lib.hid o1
      have HO2 := Lib.hid o2
      have hl4 : ll.length ≤ 400 := by omega
      clear o1 o2 o3 hxb
      cases s
      case true =>
        have HST2 : Hid (endS (D.take (i + 1)) n l = (nextN nn, ll)) := Lib.hid HST.out
        have HC2 := Lib.hid (HCA.out (nextN nn) A' ll.length c')
        go_wp2_with (first | refine m_rd ?_ | (refine m_wr ?_; clear HM HB; intro w b HM HB; try clear b) | fail)
        refine (send_any (HM.out.sesAt (by (first | ((repeat (first | with_reducible exact List.Mem.head _ | with_reducible apply List.Mem.tail)); done) | ((repeat (first | exact List.Mem.head _ | apply List.Mem.tail)); done)))) o0).mono ?_
        rintro e w' ⟨rfl, hp, hg⟩
        replace HM := Lib.hid (Mem.ses HM.out (by (first | ((repeat (first | with_reducible exact Upd.head _ | with_reducible apply Upd.tail)); done) | ((repeat (first | exact Upd.head _ | apply Upd.tail)); done))) hp hg)
        replace HB := HM.out.below
        clear hp hg
        go_wp2_with (first | refine m_rd ?_ | (refine m_wr ?_; clear HM HB; intro w b HM HB; try clear b) | fail)
        refine (HRS.out _ _ _ _ _ o0 HO1.out).mono ?_
        rintro e w ⟨rfl, hb⟩
        replace HM := Lib.hid (HM.out.call hb)
        replace HB := HM.out.below
        clear hb
        go_wp2_with (first | refine m_rd ?_ | (refine m_wr ?_; clear HM HB; intro w b HM HB; try clear b) | fail)
        go_roundw
        case rel => exact ⟨i + 1, by omega, by go_num, A', c', es2, by rw [HST2.out]; exact Lib.hid (HM.out.sub (by repeat (first | exact List.Sublist.refl _ | apply List.Sublist.cons))), by rw [HST2.out]; exact HSL⟩
        case measure => (simp [intOf]) <;> omega
      case false =>
        by_cases hca : canL ll x = true
        · have HST2 : Hid (endS (D.take (i + 1)) n l = (nn, ll ++ [x])) := Lib.hid (by rw [HST.out]; unfold stepS takeL; rw [if_neg (by simp), if_pos hca])
          have HCC := Lib.hid hca
          have HLL : Hid ((ll ++ [x]).length = ll.length + 1) := Lib.hid (by simp)
          have HRT := Lib.hid (fun w hr => HRG.out nn A' ll c' x w hr HO2.out HX.out (by omega) hca)
          have HTK : Hid (takeL ll x = ll ++ [x]) := Lib.hid (by unfold takeL; rw [if_pos hca])
          clear hca
          go_wp2_with (first | refine m_rd ?_ | (refine m_wr ?_; clear HM HB; intro w b HM HB; try clear b) | fail)
          refine (can_any (HM.out.sesAt (by (first | ((repeat (first | with_reducible exact List.Mem.head _ | with_reducible apply List.Mem.tail)); done) | ((repeat (first | exact List.Mem.head _ | apply List.Mem.tail)); done)))) x HX.out).mono ?_
          rintro e w' ⟨rfl, rfl⟩
          rw [HCC.out]
          go_wp2_with (first | refine m_rd ?_ | (refine m_wr ?_; clear HM HB; intro w b HM HB; try clear b) | fail)
          refine (HRT.out _ (HM.out.ru (by (first | ((repeat (first | with_reducible exact List.Mem.head _ | with_reducible apply List.Mem.tail)); done) | ((repeat (first | exact List.Mem.head _ | apply List.Mem.tail)); done))))).mono ?_
          rintro e w ⟨A2, c2, rfl, ho, hb⟩
          rw [← HLL.out] at ho
          replace HM := Lib.hid (HM.out.rowU hb ho)
          replace HB := HM.out.below
          clear ho hb
          have HC2 := Lib.hid (HCA.out nn A2 (ll.length + 1) c2)
          go_wp2_with (first | refine m_rd ?_ | (refine m_wr ?_; clear HM HB; intro w b HM HB; try clear b) | fail)
          refine (take_any (HM.out.sesAt (by (first | ((repeat (first | with_reducible exact List.Mem.head _ | with_reducible apply List.Mem.tail)); done) | ((repeat (first | exact List.Mem.head _ | apply List.Mem.tail)); done)))) x HX.out).mono ?_
          rintro e w' ⟨rfl, hp, hg⟩
          replace HM := Lib.hid (Mem.ses HM.out (by (first | ((repeat (first | with_reducible exact Upd.head _ | with_reducible apply Upd.tail)); done) | ((repeat (first | exact Upd.head _ | apply Upd.tail)); done))) hp hg)
          replace HB := HM.out.below
          clear hp hg
          rw [if_pos HCC.out]
          rw [HTK.out] at HM
          go_wp2_with (first | refine m_rd ?_ | (refine m_wr ?_; clear HM HB; intro w b HM HB; try clear b) | fail)
          go_roundw
          case rel =>
            refine ⟨i + 1, by omega, by go_num, A2, c2, rowU (.slice A' ll.length c') ll :: es2, ?_⟩
            rw [HST2.out]
            simp only []
            rw [HLL.out] at HM ⊢
            refine ⟨?_, Lib.hid (List.Sublist.cons _ HSL.out)⟩
            exact Lib.hid ((((HM.out.front (show Del (rowU _ (ll ++ [x])) _ _ by (first | ((repeat (first | with_reducible exact Del.head _ | with_reducible apply Del.tail)); done) | ((repeat (first | exact Del.head _ | apply Del.tail)); done)))).front (show Del (sesE _ _ _ _ _ _) _ _ by (first | ((repeat (first | with_reducible exact Del.head _ | with_reducible apply Del.tail)); done) | ((repeat (first | exact Del.head _ | apply Del.tail)); done)))).front (show Del (Ent.blk b4 _ _) _ _ by (first | ((repeat (first | with_reducible exact Del.head _ | with_reducible apply Del.tail)); done) | ((repeat (first | exact Del.head _ | apply Del.tail)); done)))).front (show Del (Ent.blk b6 _ _) _ _ by (first | ((repeat (first | with_reducible exact Del.head _ | with_reducible apply Del.tail)); done) | ((repeat (first | exact Del.head _ | apply Del.tail)); done))) |>.sub (by apply List.Sublist.cons_cons; apply List.Sublist.cons_cons; apply List.Sublist.cons_cons; apply List.Sublist.cons_cons; repeat (first | exact List.Sublist.refl _ | apply List.Sublist.cons)))
          case measure => (simp [intOf]) <;> omega
        · have hcf : canL ll x = false := by simpa using hca
          have HST2 : Hid (endS (D.take (i + 1)) n l = (nn, ll)) := Lib.hid (by rw [HST.out]; unfold stepS takeL; rw [if_neg (by simp), if_neg hca])
          have HCC := Lib.hid hcf
          have HRT := Lib.hid (fun w hr => HRB.out nn A' ll c' x w hr HO2.out HX.out hcf)
          have HTK : Hid (takeL ll x = ll) := Lib.hid (by unfold takeL; rw [if_neg hca])
          have HC2 := Lib.hid (HCA.out nn A' ll.length c')
          clear hca hcf
          go_wp2_with (first | refine m_rd ?_ | (refine m_wr ?_; clear HM HB; intro w b HM HB; try clear b) | fail)
          refine (can_any (HM.out.sesAt (by (first | ((repeat (first | with_reducible exact List.Mem.head _ | with_reducible apply List.Mem.tail)); done) | ((repeat (first | exact List.Mem.head _ | apply List.Mem.tail)); done)))) x HX.out).mono ?_
          rintro e w' ⟨rfl, rfl⟩
          rw [HCC.out]
          go_wp2_with (first | refine m_rd ?_ | (refine m_wr ?_; clear HM HB; intro w b HM HB; try clear b) | fail)
          refine (HRT.out _ (HM.out.ru (by (first | ((repeat (first | with_reducible exact List.Mem.head _ | with_reducible apply List.Mem.tail)); done) | ((repeat (first | exact List.Mem.head _ | apply List.Mem.tail)); done))))).mono ?_
          rintro e w ⟨rfl, hb⟩
          replace HM := Lib.hid (HM.out.call hb)
          replace HB := HM.out.below
          clear hb
          go_wp2_with (first | refine m_rd ?_ | (refine m_wr ?_; clear HM HB; intro w b HM HB; try clear b) | fail)
          refine (take_any (HM.out.sesAt (by (first | ((repeat (first | with_reducible exact List.Mem.head _ | with_reducible apply List.Mem.tail)); done) | ((repeat (first | exact List.Mem.head _ | apply List.Mem.tail)); done)))) x HX.out).mono ?_
          rintro e w' ⟨rfl, hp, hg⟩
          replace HM := Lib.hid (Mem.ses HM.out (by (first | ((repeat (first | with_reducible exact Upd.head _ | with_reducible apply Upd.tail)); done) | ((repeat (first | exact Upd.head _ | apply Upd.tail)); done))) hp hg)
          replace HB := HM.out.below
          clear hp hg
          rw [if_neg (by rw [HCC.out]; decide)]
          rw [HTK.out] at HM
          go_wp2_with (first | refine m_rd ?_ | (refine m_wr ?_; clear HM HB; intro w b HM HB; try clear b) | fail)
          go_roundw
          case rel => exact ⟨i + 1, by omega, by go_num, A', c', es2, by rw [HST2.out]; exact Lib.hid (HM.out.sub (by repeat (first | exact List.Sublist.refl _ | apply List.Sublist.cons))), by rw [HST2.out]; exact HSL⟩
          case measure => (simp [intOf]) <;> omega
    · obtain rfl : i = D.length := by omega
      rw [List.take_length] at HM HO HSL
      clear hlt hi
      generalize hqe : endS D n l = q at HM HO HSL
      obtain ⟨nn, ll⟩ := q
      have HQE := Lib.hid hqe
      clear hqe
      simp only [] at HM HSL
      obtain ⟨o0, o1, o2, o3⟩ := HO
      simp only [] at o0 o1 o2 o3
      have HO1 := Lib.hid o1
      have HO2 := Lib.hid o2
      have HNN : Hid (∃ k : Nat, nn = (k : Int) ∧ k < 18446744073709551616) := Lib.hid ⟨nn.toNat, by omega, by omega⟩
      obtain ⟨k, hk, hk2⟩ := HNN.out
      have HKB := Lib.hid hk2
      subst hk
      have CV1 := Lib.hid (HSA.out (k : Int) A' ll.length c').1
      have CV2 := Lib.hid (HSA.out (k : Int) A' ll.length c').2
      have HC2 := Lib.hid (HCA.out (k : Int) A' ll.length c')
      have HSP := Lib.hid (fun w h => spent_any (w := w) (b := bs) (K := K) (lo := lo) (re := re) (n := (k : Int)) (m := ll) h o0)
      unfold Ctr.lim at HSP
      generalize hdl : decide ((18446744073709543423 : Int) ≤ (k : Int)) = dl at HSP
      have HDL := Lib.hid hdl
      clear o0 o1 o2 o3 hk2 hdl HNN
      go_wp2_with (first | refine m_rd ?_ | (refine m_wr ?_; clear HM HB; intro w b HM HB; try clear b) | fail)
      have HOU := Lib.hid (HM.out.ou (by (first | ((repeat (first | with_reducible exact List.Mem.head _ | with_reducible apply List.Mem.tail)); done) | ((repeat (first | exact List.Mem.head _ | apply List.Mem.tail)); done))))
      try simp only [Act.put, List.setIfInBounds_toArray, List.set_cons_zero, List.set_cons_succ]
      refine wp_region_held_drew (S := fun w' => Mem w0 w' _) (by kernel_rfl) (HM.out.drew.tail) (fun hS => ?_)
      replace HM := Lib.hid HM.out.drew
      replace HB := HM.out.below
      refine tkv 0 73 (.agg (SV K2 lo2 re2 (k : Int) A' ll.length c')) rfl (yields_own rfl rfl (fun _ h => h) (by (first | ((repeat (first | with_reducible exact List.Mem.head _ | with_reducible apply List.Mem.tail)); done) | ((repeat (first | exact List.Mem.head _ | apply List.Mem.tail)); done))) Try.underlying43 rfl HC2.out.1 (by kernel_rfl)) ?_
      refine tk 1 74 ?_
      refine tk 3 76 ?_
      refine tkv 4 77 (.int .u64 (k : Int)) rfl (yields_cell rfl (by kernel_rfl) rfl (fun _ h => h) (by (first | ((repeat (first | with_reducible exact List.Mem.head _ | with_reducible apply List.Mem.tail)); done) | ((repeat (first | exact List.Mem.head _ | apply List.Mem.tail)); done))) CV1.out (by kernel_rfl)) ?_
      refine rone 2 rfl fun K' hK => ?_
      go_simp
      refine (HSP.out _ (HM.out.sesAt (by (first | ((repeat (first | with_reducible exact List.Mem.head _ | with_reducible apply List.Mem.tail)); done) | ((repeat (first | exact List.Mem.head _ | apply List.Mem.tail)); done))))).mono ?_
      rintro e w' ⟨rfl, rfl⟩
      refine hK.out _ _ (HM.out.tail) (fun hS2 => ?_)
      clear hS hK
      have hS := hS2
      clear hS2
      try simp only [Act.put, List.setIfInBounds_toArray, List.set_cons_zero, List.set_cons_succ]
      refine rone 5 rfl fun K' hK => ?_
      go_simp
      refine (Ctr.limit_any _).mono ?_
      rintro e w' ⟨rfl, rfl⟩
      refine hK.out _ _ (HM.out.tail) (fun hS2 => ?_)
      clear hS hK
      have hS := hS2
      clear hS2
      try simp only [Act.put, List.setIfInBounds_toArray, List.set_cons_zero, List.set_cons_succ]
      have hd := HDL.out
      refine tk 6 79 ?_
      clear hd
      refine tk 7 80 ?_
      have hbb : (dl == dl) = true := by cases dl <;> rfl
      try rw [hbb]
      try simp only [hbb]
      clear hbb
      refine tk 8 81 ?_
      refine tk 9 82 ?_
      refine tk 10 83 ?_
      refine tkv 11 84 (.int .u64 (k : Int)) rfl (yields_cell rfl (by kernel_rfl) rfl (fun _ h => h) (by (first | ((repeat (first | with_reducible exact List.Mem.head _ | with_reducible apply List.Mem.tail)); done) | ((repeat (first | exact List.Mem.head _ | apply List.Mem.tail)); done))) CV1.out (by kernel_rfl)) ?_
      refine tk 13 86 ?_
      refine tkv 14 87 (.slice A' ll.length c') rfl (yields_cell rfl (by kernel_rfl) rfl (fun _ h => h) (by (first | ((repeat (first | with_reducible exact List.Mem.head _ | with_reducible apply List.Mem.tail)); done) | ((repeat (first | exact List.Mem.head _ | apply List.Mem.tail)); done))) CV2.out (by kernel_rfl)) ?_
      refine tk 15 88 ?_
      refine tkv 16 89 (.int .u64 (k : Int)) rfl (yields_cell rfl (by kernel_rfl) rfl (fun _ h => h) (by (first | ((repeat (first | with_reducible exact List.Mem.head _ | with_reducible apply List.Mem.tail)); done) | ((repeat (first | exact List.Mem.head _ | apply List.Mem.tail)); done))) CV1.out (by kernel_rfl)) ?_
      refine rone 12 rfl fun K' hK => ?_
      rw [if_pos (by kernel_rfl)]
      go_simp
      refine (can_any (HM.out.sesAt (by (first | ((repeat (first | with_reducible exact List.Mem.head _ | with_reducible apply List.Mem.tail)); done) | ((repeat (first | exact List.Mem.head _ | apply List.Mem.tail)); done)))) k HKB.out).mono ?_
      rintro e w' ⟨rfl, rfl⟩
      refine hK.out _ _ (HM.out.tail) (fun hS2 => ?_)
      clear hS hK
      have hS := hS2
      clear hS2
      try simp only [Act.put, List.setIfInBounds_toArray, List.set_cons_zero, List.set_cons_succ]
      refine rone 17 rfl fun K' hK => ?_
      rw [if_pos (by kernel_rfl)]
      go_simp
      refine (refCan_any (.slice A' ll.length c') ll k _ (HM.out.ru (by (first | ((repeat (first | with_reducible exact List.Mem.head _ | with_reducible apply List.Mem.tail)); done) | ((repeat (first | exact List.Mem.head _ | apply List.Mem.tail)); done)))) HKB.out HO2.out).mono ?_
      rintro e w' ⟨rfl, rfl⟩
      refine hK.out _ _ (HM.out.tail) (fun hS2 => ?_)
      clear hS hK
      have hS := hS2
      clear hS2
      try simp only [Act.put, List.setIfInBounds_toArray, List.set_cons_zero, List.set_cons_succ]
      generalize canL ll k = cl
      refine tk 18 91 ?_
      have hbb : (cl == cl) = true := by cases cl <;> rfl
      try rw [hbb]
      try simp only [hbb]
      clear hbb
      refine tk 19 92 ?_
      refine rone 20 rfl fun K' hK => ?_
      refine s_wr ?_ HM (Wr.whole rfl rfl rfl (by (first | ((repeat (first | with_reducible exact Upd.head _ | with_reducible apply Upd.tail)); done) | ((repeat (first | exact Upd.head _ | apply Upd.tail)); done))) HC2.out) (by kernel_rfl)
      clear HM HB
      intro w b HM HB
      refine hK.out _ _ (HM.out.tail) (fun hS2 => ?_)
      clear hS hK
      have hS := hS2
      clear hS2
      try simp only [Act.put, List.setIfInBounds_toArray, List.set_cons_zero, List.set_cons_succ]
      refine tk 21 7 ?_
      refine wpAnyH_done (by kernel_rfl) ?_ _
      clear hS
      go_wp2_with (first | refine m_rd ?_ | (refine m_wr ?_; clear HM HB; intro w b HM HB; try clear b) | fail)
      apply m_ret_c1
      next => exact rfl
      next => exact rfl
      next => exact rfl
      next => exact HM
      next => (first | ((repeat (first | with_reducible exact List.Mem.head _ | with_reducible apply List.Mem.tail)); done) | ((repeat (first | exact List.Mem.head _ | apply List.Mem.tail)); done))
      next => exact Try.underlying43
      next => rfl
      rw [HQE.out]
      exact ⟨A', c', es2, rfl, Lib.hid (HM.out.sub (by repeat (first | exact List.Sublist.refl _ | apply List.Sublist.cons))), HSL.out⟩
end Go.Proofs.Ytapncdgeigbgmaa.Sf
