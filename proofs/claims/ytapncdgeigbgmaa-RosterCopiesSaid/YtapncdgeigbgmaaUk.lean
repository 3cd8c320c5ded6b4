/- The document's roster: a key put. -/
import Derived.Test.YtapncdgeigbgmaaUj
set_option linter.unusedSimpArgs false
set_option linter.unusedVariables false
set_option linter.unusedSectionVars false
set_option maxRecDepth 100000
namespace Go.Proofs.Ytapncdgeigbgmaa.Gm
open Go.RowKit Go.Proofs.YtapncdgeigbgmaaW.PrintWords Go.Proofs.Ytapncdgeigbgmaa.Bs
/-- Two operations may come up (in a region whose operation s turns what others read). -/
theorem r2two {ops : Array Oper} {Q : Exit → Act → World → Prop} {S1 S2 : World → Prop} {s fuel : Nat} {L : Array Bool} {a : Act} {w : World} (i j : Nat) {oi oj : Oper} (hi : ops[i]? = some oi) (hj : ops[j]? = some oj) (hG : Good ops s L)
    (k1 : ∀ K' : Act → World → Prop, Shut (∀ a w, stg S1 S2 s (L.setIfInBounds i true) w → (Good ops s (L.setIfInBounds i true) → stg S1 S2 s (L.setIfInBounds i true) w → wpAny2 Try.prog ops Q S1 S2 s fuel (L.setIfInBounds i true) a w) → K' a w) → if Region.wanted oi (yielded ops a.tmps) = true then Oper.wp Try.prog oi a w K' Q else K' (a.put oi.dst undef) w)
    (k2 : ∀ K' : Act → World → Prop, Shut (∀ a w, stg S1 S2 s (L.setIfInBounds j true) w → (Good ops s (L.setIfInBounds j true) → stg S1 S2 s (L.setIfInBounds j true) w → wpAny2 Try.prog ops Q S1 S2 s fuel (L.setIfInBounds j true) a w) → K' a w) → if Region.wanted oj (yielded ops a.tmps) = true then Oper.wp Try.prog oj a w K' Q else K' (a.put oj.dst undef) w)
    (hr : Region.ready .any ops L = [i, j]) : wpAny2 Try.prog ops Q S1 S2 s (fuel + 1) L a w := by
  refine ⟨fun h => absurd (hr ▸ h) (by simp), fun m hm => ?_⟩
  rw [hr] at hm
  have hg : ∀ m ∈ [i, j], Good ops s (L.setIfInBounds m true) := fun m hm => hG.step (by rw [hr]; exact hm)
  by_cases e : m = i
  · subst e
    exact wpOp_step hi (fun K' hK => k1 K' (fun a w hS hW => hK a w ⟨hS, hW (hg _ (by simp)) hS⟩))
  · obtain rfl : m = j := by simpa [e] using hm
    exact wpOp_step hj (fun K' hK => k2 K' (fun a w hS hW => hK a w ⟨hS, hW (hg _ (by simp)) hS⟩))
/-- The last operation, a store that turns what others read. -/
theorem r2_last {ops : Array Oper} {Q : Exit → Act → World → Prop} {S1 S2 : World → Prop} {s fuel : Nat} {L : Array Bool} {a : Act} {w w0 : World} {es : List Ent} {v : Nat → Value} {e : Nat → List Ent} (i : Nat) {oi : Oper} (k : ∀ w1 b, HMem w0 w1 (e b) → Below w0.heap.size w0 w1 → Q .normal (a.put oi.dst (v b)) w1) (HM : HMem w0 w es) (hi : ops[i]? = some oi) (hG : Good ops s L) (h : Wr w0 es oi a v e)
    (hw : Region.wanted oi (yielded ops a.tmps) = true) (hr : Region.ready .any ops L = [i]) (hr2 : Region.ready .any ops (L.setIfInBounds i true) = []) (hs : (L.setIfInBounds i true).getD s false = true) (hS2 : ∀ w, S2 w) : wpAny2 Try.prog ops Q S1 S2 s (fuel + 1) L a w :=
  r2 i hi hG (fun K' hK => s_wr (fun w1 b hm hb => hK.out _ _ (stg2 hs (hS2 _)) (fun hG2 hS3 => done2 hr2 (k w1 b hm hb) _)) HM h hw) hr
/-- What holds behind a region, with six things that its orders may choose anew. -/
def Leaf6 {α β γ δ ε ζ : Type} (w0 : World) (F : α → β → γ → δ → ε → ζ → Act) (E : α → β → γ → δ → ε → ζ → List Ent) : Exit → Act → World → Prop
  | .normal, a, w => ∃ x y z u v t, a = F x y z u v t ∧ Mem w0 w (E x y z u v t)
  | _, _, _ => False
theorem leaf6 {α β γ δ ε ζ : Type} {w0 w : World} {F : α → β → γ → δ → ε → ζ → Act} {E : α → β → γ → δ → ε → ζ → List Ent} {es : List Ent} (HM : HMem w0 w es) (x : α) (y : β) (z : γ) (u : δ) (v : ε) (t : ζ) (hp : es.Perm (E x y z u v t)) {a : Act} (ha : a = F x y z u v t) : Leaf6 w0 F E .normal a w := ⟨x, y, z, u, v, t, ha, HM.out.perm hp⟩
theorem region_cut6 {α β γ δ ε ζ : Type} {id : Nat} {ops : Array Oper} {d : Bool} {a : Act} {w w0 : World} {Q : Exit → Act → World → Prop} {F : α → β → γ → δ → ε → ζ → Act} (E : α → β → γ → δ → ε → ζ → List Ent) (h : (Code.region id ops d).wp Try.prog (Leaf6 w0 F E) a w)
    (k : ∀ x y z u v t w, HMem w0 w (E x y z u v t) → Q .normal (F x y z u v t) w) : (Code.region id ops d).wp Try.prog Q a w := by
  refine Code.wp_mono (fun e a w q => ?_) h
  cases e <;> first | exact q.elim | skip
  obtain ⟨x, y, z, u, v, t, rfl, hm⟩ := q
  exact k x y z u v t w (Lib.hid hm)
end Go.Proofs.Ytapncdgeigbgmaa.Gm
namespace Go.Proofs.Ytapncdgeigbgmaa.Tb
open Go.RowKit Go.Proofs.YtapncdgeigbgmaaW.PrintWords Go.Proofs.Ytapncdgeigbgmaa.Bs Go.Proofs.Ytapncdgeigbgmaa.Gm Go.Proofs.Ytapncdgeigbgmaa.Sf

theorem litO0 : LitR ROne 0 #[] [] := ⟨rfl, by decide, fun W => by kernel_rfl⟩
theorem built_one (k : Key) (n : Int) : Built 76 #[(0, .agg (keyC k)), (1, .int .i64 n)] (.agg (oneC (k, n))) := fun W => by
  obtain ⟨k0, k1, k2, k3, k4, k5, k6, k7, k8, k9, k10, k11, k12, k13, k14, k15, k16, k17, k18, k19, k20, k21, k22, k23, k24, k25, k26, k27, k28, k29, k30, k31, e⟩ := arr32 (keyC_size k)
  unfold oneC
  rw [e]
  kernel_rfl
/-- The document's answer: a key put, or the error's number. -/
def addE (l : List (Key × Int)) (k : Key) : Int := if inL l k = true then 13 else if 16 ≤ l.length then 7 else 0
set_option maxHeartbeats 4000000 in
theorem docAdd_no (A : Option Addr) (n c : Nat) (last : Int) (l : List (Key × Int)) (k : Key) (w0 : World) (hr : RW ROne w0 (.slice A n c) l) (hn : l.length = n) (he : addE l k ≠ 0) :
    Calls Try.prog 59 #[.agg (RV A n c last), .agg (keyC k)] w0 fun e w' => e = .returned (.tuple #[.agg (RV A n c last), .int .i64 (addE l k)]) ∧ Below w0.heap.size w0 w' := by
  have HR := Lib.hid hr
  have HN := Lib.hid hn
  have HC1 := Lib.hid (cells_key (keyC k) (keyC_size k) (keyC_one k))
  have HC2 := Lib.hid (cellsRV A n c last)
  have CV1 : Hid ((RV A n c last)[0]? = some (.slice A n c)) := Lib.hid rfl
  have AL1 := Lib.hid zeroRV
  have hmax := rw_max hr
  clear hr hn
  by_cases hin : inL l k = true
  · have e1 : addE l k = 13 := by unfold addE; rw [if_pos hin]
    rw [e1]
    have HI := Lib.hid hin
    clear he hin e1
    have HM := Lib.hid (Mem.start w0)
    have HB := HM.out.below
    go_enter Try.func59, Try.ntmps59
    go_wp2_with (first | (refine m_wr ?_ HM (Wr.box rfl rfl HC2.out) (wanted_none rfl); clear HM HB; intro w br HM HB) | (refine m_wr ?_ HM (Wr.box rfl rfl HC1.out) (wanted_none rfl); clear HM HB; intro w bk HM HB) | (refine m_wr ?_ HM (Wr.alloc rfl AL1.out.1 AL1.out.2) (wanted_none rfl); clear HM HB; intro w b4 HM HB) | refine m_rd ?_ | (refine m_wr ?_; clear HM HB; intro w b HM HB; try clear b) | fail)
    refine (place_any A n c last l k _ (HR.out.below HB) HN.out).mono ?_
    rintro e w ⟨z, rfl, hz, _, hz2, hb⟩
    have hz0 := hz HI.out
    replace HM := Lib.hid (HM.out.call hb)
    replace HB := HM.out.below
    clear hb hz
    go_wp2_with (first | refine m_rd ?_ | (refine m_wr ?_; clear HM HB; intro w b HM HB; try clear b) | fail)
    apply m_ret_c1
    next => exact rfl
    next => exact rfl
    next => exact rfl
    next => exact HM
    next => (first | ((repeat (first | with_reducible exact List.Mem.head _ | with_reducible apply List.Mem.tail)); done) | ((repeat (first | exact List.Mem.head _ | apply List.Mem.tail)); done))
    next => exact Try.underlying65
    next => rfl
    exact ⟨rfl, HB⟩
  · have hin : inL l k = false := by simpa using hin
    have h16 : 16 ≤ n := by
      rw [← HN.out]
      unfold addE at he
      rw [if_neg (by rw [hin]; decide)] at he
      by_cases h : 16 ≤ l.length
      · exact h
      · rw [if_neg h] at he; exact absurd rfl he
    have e1 : addE l k = 7 := by unfold addE; rw [if_neg (by rw [hin]; decide), if_pos (by rw [HN.out]; exact h16)]
    rw [e1]
    have HI := Lib.hid hin
    have hge : decide ((16 : Int) ≤ (n : Int)) = true := decide_eq_true (by omega)
    clear he hin e1 h16
    have HM := Lib.hid (Mem.start w0)
    have HB := HM.out.below
    go_enter Try.func59, Try.ntmps59
    go_wp2_with (first | (refine m_wr ?_ HM (Wr.box rfl rfl HC2.out) (wanted_none rfl); clear HM HB; intro w br HM HB) | (refine m_wr ?_ HM (Wr.box rfl rfl HC1.out) (wanted_none rfl); clear HM HB; intro w bk HM HB) | (refine m_wr ?_ HM (Wr.alloc rfl AL1.out.1 AL1.out.2) (wanted_none rfl); clear HM HB; intro w b4 HM HB) | refine m_rd ?_ | (refine m_wr ?_; clear HM HB; intro w b HM HB; try clear b) | fail)
    refine (place_any A n c last l k _ (HR.out.below HB) HN.out).mono ?_
    rintro e w ⟨z, rfl, _, hz, _, hb⟩
    obtain rfl := hz HI.out
    replace HM := Lib.hid (HM.out.call hb)
    replace HB := HM.out.below
    clear hb
    go_wp2_with (first | refine m_rd ?_ | (refine m_wr ?_; clear HM HB; intro w b HM HB; try clear b) | fail)
    apply m_ret_c1
    next => exact rfl
    next => exact rfl
    next => exact rfl
    next => exact HM
    next => (first | ((repeat (first | with_reducible exact List.Mem.head _ | with_reducible apply List.Mem.tail)); done) | ((repeat (first | exact List.Mem.head _ | apply List.Mem.tail)); done))
    next => exact Try.underlying65
    next => rfl
    exact ⟨rfl, HB⟩
set_option maxHeartbeats 8000000 in
theorem docAdd_yes (A : Option Addr) (n c : Nat) (last : Int) (l : List (Key × Int)) (k : Key) (w0 : World) (hr : RW ROne w0 (.slice A n c) l) (hn : l.length = n) (hin : inL l k = false) (h16 : n < 16) (h0 : 0 ≤ last) (h1 : last < 1000000) :
    Calls Try.prog 59 #[.agg (RV A n c last), .agg (keyC k)] w0 fun e w' => ∃ A' c', e = .returned (.tuple #[.agg (RV A' (n + 1) c' (last + 1)), .int .i64 0]) ∧ OW ROne w0.heap.size w' (.slice A' (n + 1) c') (l ++ [(k, last + 1)]) ∧ Below w0.heap.size w0 w' := by
  have HR := Lib.hid hr
  have HN := Lib.hid hn
  have HC1 := Lib.hid (cells_key (keyC k) (keyC_size k) (keyC_one k))
  have HC2 := Lib.hid (cellsRV A n c last)
  have CV1 : Hid ((RV A n c last)[0]? = some (.slice A n c)) := Lib.hid rfl
  have CV2 : Hid ((RV A n c last)[1]? = some (.int .i64 last)) := Lib.hid rfl
  have PU1 : Hid ((RV A n c last).setIfInBounds 1 (.int .i64 (last + 1)) = RV A n c (last + 1)) := Lib.hid rfl
  have AL1 := Lib.hid zeroRV
  have hmax := rw_max hr
  have HI := Lib.hid hin
  have hge : decide ((16 : Int) ≤ (n : Int)) = false := decide_eq_false (by omega)
  have hwr : IntKind.i64.wrap (last + 1) = last + 1 := by rw [IntKind.wrap_i64]; omega
  have h16' := Lib.hid h16
  clear hr hn hin h0 h1 h16
  have HM := Lib.hid (Mem.start w0)
  have HB := HM.out.below
  go_enter Try.func59, Try.ntmps59
  go_wp2_with (first | (refine m_wr ?_ HM (Wr.box rfl rfl HC2.out) (wanted_none rfl); clear HM HB; intro w br HM HB) | (refine m_wr ?_ HM (Wr.box rfl rfl HC1.out) (wanted_none rfl); clear HM HB; intro w bk HM HB) | (refine m_wr ?_ HM (Wr.alloc rfl AL1.out.1 AL1.out.2) (wanted_none rfl); clear HM HB; intro w b4 HM HB) | refine m_rd ?_ | (refine m_wr ?_; clear HM HB; intro w b HM HB; try clear b) | fail)
  refine (place_any A n c last l k _ (HR.out.below HB) HN.out).mono ?_
  rintro e w ⟨z, rfl, _, hz, _, hb⟩
  obtain rfl := hz HI.out
  replace HM := Lib.hid (HM.out.call hb)
  replace HB := HM.out.below
  clear hb
  go_wp2_with (first | refine m_rd ?_ | (refine m_wr ?_; clear HM HB; intro w b HM HB; try clear b) | fail)
  have HR1 := HR
  have HN1 : Hid (([] : List (Key × Int)).length + l.length = n) := Lib.hid (by rw [HN.out]; simp)
  have HN2 : Hid (([] ++ l).length + [(k, last + 1)].length = n + 1) := Lib.hid (by simp [HN.out])
  have HL1 : Hid (n * ROne.bytes ≤ 140737488355328) := Lib.hid (by have := h16'.out; show n * 40 ≤ _; omega)
  have HL2 : Hid ((n + 1) * ROne.bytes ≤ 140737488355328) := Lib.hid (by have := h16'.out; show (n + 1) * 40 ≤ _; omega)
  have HBO := Lib.hid (built_one k (last + 1))
  have HPU : Hid (∀ (A2 : Option Addr) (c2 : Nat), (RV A n c (last + 1)).setIfInBounds 0 (.slice A2 (n + 1) c2) = RV A2 (n + 1) c2 (last + 1)) := Lib.hid (fun _ _ => rfl)
  apply region_cut6 (w0 := w0) (fun (b0 : Nat) (A1 : Option Addr) (c1 bl : Nat) (A2 : Option Addr) (c2 : Nat) => rowE ROne (.slice A2 (n + 1) c2) (([] ++ l) ++ [(k, last + 1)]) :: rowE ROne (.slice (some ⟨bl, 0, none⟩) 1 1) [(k, last + 1)] :: Ent.blk b4 ZRV 65 :: Ent.blk bk (keyC k) 29 :: Ent.blk br (RV A2 (n + 1) c2 (last + 1)) 65 :: [])
  case h =>
    try simp only [Act.put, List.setIfInBounds_toArray, List.set_cons_zero, List.set_cons_succ]
    refine wp_region_2 11 (fun w' => Mem w0 w' (Ent.blk bk (keyC k) 29 :: Ent.blk br (RV A n c (last + 1)) 65 :: [])) (fun _ => True) (by kernel_rfl) (HM.out.drew.sub (by ((repeat (first | exact List.Sublist.refl _ | apply List.Sublist.cons_cons | apply List.Sublist.cons)); done))) (fun hS hG => ?_)
    replace HM := Lib.hid HM.out.drew
    replace HB := HM.out.below
    refine t2p 1 21 ?_ hG hS rfl rfl (by kernel_rfl) (by kernel_rfl) (by kernel_rfl) (by kernel_rfl) (by kernel_rfl) (by intro w'; go_simp; try with_reducible rfl) (by simp only [Act.put, List.setIfInBounds_toArray, List.set_cons_zero, List.set_cons_succ]; try exact rfl) (fun _ _ _ h => h)
    clear hS hG
    intro hG hS
    refine t2a 2 22 (.slice A n c) rfl (yields_cell rfl (by kernel_rfl) rfl (fun _ h => h) (by (first | ((repeat (first | with_reducible exact List.Mem.head _ | with_reducible apply List.Mem.tail)); done) | ((repeat (first | exact List.Mem.head _ | apply List.Mem.tail)); done))) rfl (by kernel_rfl)) ?_ hG hS rfl (by kernel_rfl) (by kernel_rfl) (by kernel_rfl) (by kernel_rfl) (by kernel_rfl) (by simp only [Act.put, List.setIfInBounds_toArray, List.set_cons_zero, List.set_cons_succ]; try exact rfl) (fun _ _ _ h => h)
    clear hS hG
    intro hG hS
    refine t2a 4 24 (.agg (keyC k)) rfl (yields_own rfl rfl (fun _ h => h) (by (first | ((repeat (first | with_reducible exact List.Mem.head _ | with_reducible apply List.Mem.tail)); done) | ((repeat (first | exact List.Mem.head _ | apply List.Mem.tail)); done))) Try.underlying29 rfl HC1.out.1 (by kernel_rfl)) ?_ hG hS rfl (by kernel_rfl) (by kernel_rfl) (by kernel_rfl) (by kernel_rfl) (by kernel_rfl) (by simp only [Act.put, List.setIfInBounds_toArray, List.set_cons_zero, List.set_cons_succ]; try exact rfl) (fun _ _ _ h => h)
    clear hS hG
    intro hG hS
    refine t2p 5 25 ?_ hG hS rfl rfl (by kernel_rfl) (by kernel_rfl) (by kernel_rfl) (by kernel_rfl) (by kernel_rfl) (by intro w'; go_simp; try with_reducible rfl) (by simp only [Act.put, List.setIfInBounds_toArray, List.set_cons_zero, List.set_cons_succ]; try exact rfl) (fun _ _ _ h => h)
    clear hS hG
    intro hG hS
    refine t2a 6 26 (.int .i64 (last + 1)) rfl (yields_cell rfl (by kernel_rfl) rfl (fun _ h => h) (by (first | ((repeat (first | with_reducible exact List.Mem.head _ | with_reducible apply List.Mem.tail)); done) | ((repeat (first | exact List.Mem.head _ | apply List.Mem.tail)); done))) rfl (by kernel_rfl)) ?_ hG hS rfl (by kernel_rfl) (by kernel_rfl) (by kernel_rfl) (by kernel_rfl) (by kernel_rfl) (by simp only [Act.put, List.setIfInBounds_toArray, List.set_cons_zero, List.set_cons_succ]; try exact rfl) (fun _ _ _ h => h)
    clear hS hG
    intro hG hS
    refine t2a 7 27 (.agg (oneC (k, last + 1))) rfl (yields_build rfl #[(0, .agg (keyC k)), (1, .int .i64 (last + 1))] rfl HBO.out (by kernel_rfl)) ?_ hG hS rfl (by kernel_rfl) (by kernel_rfl) (by kernel_rfl) (by kernel_rfl) (by kernel_rfl) (by simp only [Act.put, List.setIfInBounds_toArray, List.set_cons_zero, List.set_cons_succ]; try exact rfl) (fun _ _ _ h => h)
    clear hS hG
    intro hG hS
    refine r2two 0 8 rfl rfl hG (fun K' hK => ?_) (fun K' hK => ?_) (by kernel_rfl)
    · refine s_wr ?_ HM (Wr.litR LOne rfl litO0 rfl) (by kernel_rfl)
      clear HM HB
      intro w b0 HM HB
      refine hK.out _ _ (stg1 (by kernel_rfl) (HM.out.sub (by ((repeat (first | exact List.Sublist.refl _ | apply List.Sublist.cons_cons | apply List.Sublist.cons)); done)))) (fun hG2 hS2 => ?_)
      clear hS hK hG
      have hS := hS2
      have hG := hG2
      clear hS2 hG2
      try simp only [Act.put, List.setIfInBounds_toArray, List.set_cons_zero, List.set_cons_succ]
      refine r2two 3 8 rfl rfl hG (fun K' hK => ?_) (fun K' hK => ?_) (by kernel_rfl)
      · refine s_wx ?_ HM (Wx.app LOne rfl (by first | (go_simp; with_reducible rfl) | rfl) (by first | (go_simp; with_reducible rfl) | rfl) (by (first | ((repeat (first | with_reducible exact Del.head _ | with_reducible apply Del.tail)); done) | ((repeat (first | exact Del.head _ | apply Del.tail)); done))) (fun w hm => HR1.out.below hm.below) HN1.out HL1.out) (by kernel_rfl)
        clear HM HB
        rintro w ⟨A1, c1⟩ HM HB
        refine hK.out _ _ (stg1 (by kernel_rfl) (HM.out.sub (by ((repeat (first | exact List.Sublist.refl _ | apply List.Sublist.cons_cons | apply List.Sublist.cons)); done)))) (fun hG2 hS2 => ?_)
        clear hS hK hG
        have hS := hS2
        have hG := hG2
        clear hS2 hG2
        try simp only [Act.put, List.setIfInBounds_toArray, List.set_cons_zero, List.set_cons_succ]
        refine r2 8 rfl hG ?_ (by kernel_rfl)
        intro K' hK
        refine s_wr ?_ HM (Wr.litR LOne rfl (litOne (k, last + 1)) rfl) (by kernel_rfl)
        clear HM HB
        intro w bl HM HB
        refine hK.out _ _ (stg1 (by kernel_rfl) (HM.out.sub (by ((repeat (first | exact List.Sublist.refl _ | apply List.Sublist.cons_cons | apply List.Sublist.cons)); done)))) (fun hG2 hS2 => ?_)
        clear hS hK hG
        have hS := hS2
        have hG := hG2
        clear hS2 hG2
        try simp only [Act.put, List.setIfInBounds_toArray, List.set_cons_zero, List.set_cons_succ]
        refine r2 9 rfl hG ?_ (by kernel_rfl)
        intro K' hK
        refine s_wx ?_ HM (Wx.app (xs := [] ++ l) (ys := [(k, last + 1)]) LOne rfl (by first | (go_simp; with_reducible rfl) | rfl) (by first | (go_simp; with_reducible rfl) | rfl) (by (first | ((repeat (first | with_reducible exact Del.head _ | with_reducible apply Del.tail)); done) | ((repeat (first | exact Del.head _ | apply Del.tail)); done))) (fun w hm => hm.rw_ LOne (by (first | ((repeat (first | with_reducible exact List.Mem.head _ | with_reducible apply List.Mem.tail)); done) | ((repeat (first | exact List.Mem.head _ | apply List.Mem.tail)); done)))) HN2.out HL2.out) (by kernel_rfl)
        clear HM HB
        rintro w ⟨A2, c2⟩ HM HB
        refine hK.out _ _ (stg1 (by kernel_rfl) (HM.out.sub (by ((repeat (first | exact List.Sublist.refl _ | apply List.Sublist.cons_cons | apply List.Sublist.cons)); done)))) (fun hG2 hS2 => ?_)
        clear hS hK hG
        have hS := hS2
        have hG := hG2
        clear hS2 hG2
        try simp only [Act.put, List.setIfInBounds_toArray, List.set_cons_zero, List.set_cons_succ]
        refine t2p 10 30 ?_ hG hS rfl rfl (by kernel_rfl) (by kernel_rfl) (by kernel_rfl) (by kernel_rfl) (by kernel_rfl) (by intro w'; go_simp; try with_reducible rfl) (by simp only [Act.put, List.setIfInBounds_toArray, List.set_cons_zero, List.set_cons_succ]; try exact rfl) (fun _ _ _ h => h)
        clear hS hG
        intro hG hS
        refine r2_last (w0 := w0) 11 ?_ HM rfl hG (Wr.put (b := br) (i := 0) (v := .slice A2 (n + 1) c2) (v0 := .slice A n c) (cs := RV A n c (last + 1)) (cs' := RV A2 (n + 1) c2 (last + 1)) (T := 65) rfl (by kernel_rfl) (by first | (go_simp; with_reducible rfl) | rfl) (by first | (go_simp; with_reducible rfl) | rfl) rfl (by (first | ((repeat (first | with_reducible exact Upd.head _ | with_reducible apply Upd.tail)); done) | ((repeat (first | exact Upd.head _ | apply Upd.tail)); done))) rfl (HPU.out A2 c2)) (by kernel_rfl) (by kernel_rfl) (by kernel_rfl) (by kernel_rfl) (fun _ => trivial)
        clear HM HB
        intro w _ HM HB
        exact leaf6 HM b0 A1 c1 bl A2 c2 (by ((repeat (first | exact List.Perm.refl _ | (refine List.Perm.trans (Del.perm (by (first | ((repeat (first | with_reducible exact Del.head _ | with_reducible apply Del.tail)); done) | ((repeat (first | exact Del.head _ | apply Del.tail)); done)))) (List.Perm.cons _ ?_)))); done)) rfl
      · refine s_wr ?_ HM (Wr.litR LOne rfl (litOne (k, last + 1)) rfl) (by kernel_rfl)
        clear HM HB
        intro w bl HM HB
        refine hK.out _ _ (stg1 (by kernel_rfl) (HM.out.sub (by ((repeat (first | exact List.Sublist.refl _ | apply List.Sublist.cons_cons | apply List.Sublist.cons)); done)))) (fun hG2 hS2 => ?_)
        clear hS hK hG
        have hS := hS2
        have hG := hG2
        clear hS2 hG2
        try simp only [Act.put, List.setIfInBounds_toArray, List.set_cons_zero, List.set_cons_succ]
        refine r2 3 rfl hG ?_ (by kernel_rfl)
        intro K' hK
        refine s_wx ?_ HM (Wx.app LOne rfl (by first | (go_simp; with_reducible rfl) | rfl) (by first | (go_simp; with_reducible rfl) | rfl) (by (first | ((repeat (first | with_reducible exact Del.head _ | with_reducible apply Del.tail)); done) | ((repeat (first | exact Del.head _ | apply Del.tail)); done))) (fun w hm => HR1.out.below hm.below) HN1.out HL1.out) (by kernel_rfl)
        clear HM HB
        rintro w ⟨A1, c1⟩ HM HB
        refine hK.out _ _ (stg1 (by kernel_rfl) (HM.out.sub (by ((repeat (first | exact List.Sublist.refl _ | apply List.Sublist.cons_cons | apply List.Sublist.cons)); done)))) (fun hG2 hS2 => ?_)
        clear hS hK hG
        have hS := hS2
        have hG := hG2
        clear hS2 hG2
        try simp only [Act.put, List.setIfInBounds_toArray, List.set_cons_zero, List.set_cons_succ]
        refine r2 9 rfl hG ?_ (by kernel_rfl)
        intro K' hK
        refine s_wx ?_ HM (Wx.app (xs := [] ++ l) (ys := [(k, last + 1)]) LOne rfl (by first | (go_simp; with_reducible rfl) | rfl) (by first | (go_simp; with_reducible rfl) | rfl) (by (first | ((repeat (first | with_reducible exact Del.head _ | with_reducible apply Del.tail)); done) | ((repeat (first | exact Del.head _ | apply Del.tail)); done))) (fun w hm => hm.rw_ LOne (by (first | ((repeat (first | with_reducible exact List.Mem.head _ | with_reducible apply List.Mem.tail)); done) | ((repeat (first | exact List.Mem.head _ | apply List.Mem.tail)); done)))) HN2.out HL2.out) (by kernel_rfl)
        clear HM HB
        rintro w ⟨A2, c2⟩ HM HB
        refine hK.out _ _ (stg1 (by kernel_rfl) (HM.out.sub (by ((repeat (first | exact List.Sublist.refl _ | apply List.Sublist.cons_cons | apply List.Sublist.cons)); done)))) (fun hG2 hS2 => ?_)
        clear hS hK hG
        have hS := hS2
        have hG := hG2
        clear hS2 hG2
        try simp only [Act.put, List.setIfInBounds_toArray, List.set_cons_zero, List.set_cons_succ]
        refine t2p 10 30 ?_ hG hS rfl rfl (by kernel_rfl) (by kernel_rfl) (by kernel_rfl) (by kernel_rfl) (by kernel_rfl) (by intro w'; go_simp; try with_reducible rfl) (by simp only [Act.put, List.setIfInBounds_toArray, List.set_cons_zero, List.set_cons_succ]; try exact rfl) (fun _ _ _ h => h)
        clear hS hG
        intro hG hS
        refine r2_last (w0 := w0) 11 ?_ HM rfl hG (Wr.put (b := br) (i := 0) (v := .slice A2 (n + 1) c2) (v0 := .slice A n c) (cs := RV A n c (last + 1)) (cs' := RV A2 (n + 1) c2 (last + 1)) (T := 65) rfl (by kernel_rfl) (by first | (go_simp; with_reducible rfl) | rfl) (by first | (go_simp; with_reducible rfl) | rfl) rfl (by (first | ((repeat (first | with_reducible exact Upd.head _ | with_reducible apply Upd.tail)); done) | ((repeat (first | exact Upd.head _ | apply Upd.tail)); done))) rfl (HPU.out A2 c2)) (by kernel_rfl) (by kernel_rfl) (by kernel_rfl) (by kernel_rfl) (fun _ => trivial)
        clear HM HB
        intro w _ HM HB
        exact leaf6 HM b0 A1 c1 bl A2 c2 (by ((repeat (first | exact List.Perm.refl _ | (refine List.Perm.trans (Del.perm (by (first | ((repeat (first | with_reducible exact Del.head _ | with_reducible apply Del.tail)); done) | ((repeat (first | exact Del.head _ | apply Del.tail)); done)))) (List.Perm.cons _ ?_)))); done)) rfl
    · refine s_wr ?_ HM (Wr.litR LOne rfl (litOne (k, last + 1)) rfl) (by kernel_rfl)
      clear HM HB
      intro w bl HM HB
      refine hK.out _ _ (stg1 (by kernel_rfl) (HM.out.sub (by ((repeat (first | exact List.Sublist.refl _ | apply List.Sublist.cons_cons | apply List.Sublist.cons)); done)))) (fun hG2 hS2 => ?_)
      clear hS hK hG
      have hS := hS2
      have hG := hG2
      clear hS2 hG2
      try simp only [Act.put, List.setIfInBounds_toArray, List.set_cons_zero, List.set_cons_succ]
      refine r2 0 rfl hG ?_ (by kernel_rfl)
      intro K' hK
      refine s_wr ?_ HM (Wr.litR LOne rfl litO0 rfl) (by kernel_rfl)
      clear HM HB
      intro w b0 HM HB
      refine hK.out _ _ (stg1 (by kernel_rfl) (HM.out.sub (by ((repeat (first | exact List.Sublist.refl _ | apply List.Sublist.cons_cons | apply List.Sublist.cons)); done)))) (fun hG2 hS2 => ?_)
      clear hS hK hG
      have hS := hS2
      have hG := hG2
      clear hS2 hG2
      try simp only [Act.put, List.setIfInBounds_toArray, List.set_cons_zero, List.set_cons_succ]
      refine r2 3 rfl hG ?_ (by kernel_rfl)
      intro K' hK
      refine s_wx ?_ HM (Wx.app LOne rfl (by first | (go_simp; with_reducible rfl) | rfl) (by first | (go_simp; with_reducible rfl) | rfl) (by (first | ((repeat (first | with_reducible exact Del.head _ | with_reducible apply Del.tail)); done) | ((repeat (first | exact Del.head _ | apply Del.tail)); done))) (fun w hm => HR1.out.below hm.below) HN1.out HL1.out) (by kernel_rfl)
      clear HM HB
      rintro w ⟨A1, c1⟩ HM HB
      refine hK.out _ _ (stg1 (by kernel_rfl) (HM.out.sub (by ((repeat (first | exact List.Sublist.refl _ | apply List.Sublist.cons_cons | apply List.Sublist.cons)); done)))) (fun hG2 hS2 => ?_)
      clear hS hK hG
      have hS := hS2
      have hG := hG2
      clear hS2 hG2
      try simp only [Act.put, List.setIfInBounds_toArray, List.set_cons_zero, List.set_cons_succ]
      refine r2 9 rfl hG ?_ (by kernel_rfl)
      intro K' hK
      refine s_wx ?_ HM (Wx.app (xs := [] ++ l) (ys := [(k, last + 1)]) LOne rfl (by first | (go_simp; with_reducible rfl) | rfl) (by first | (go_simp; with_reducible rfl) | rfl) (by (first | ((repeat (first | with_reducible exact Del.head _ | with_reducible apply Del.tail)); done) | ((repeat (first | exact Del.head _ | apply Del.tail)); done))) (fun w hm => hm.rw_ LOne (by (first | ((repeat (first | with_reducible exact List.Mem.head _ | with_reducible apply List.Mem.tail)); done) | ((repeat (first | exact List.Mem.head _ | apply List.Mem.tail)); done)))) HN2.out HL2.out) (by kernel_rfl)
      clear HM HB
      rintro w ⟨A2, c2⟩ HM HB
      refine hK.out _ _ (stg1 (by kernel_rfl) (HM.out.sub (by ((repeat (first | exact List.Sublist.refl _ | apply List.Sublist.cons_cons | apply List.Sublist.cons)); done)))) (fun hG2 hS2 => ?_)
      clear hS hK hG
      have hS := hS2
      have hG := hG2
      clear hS2 hG2
      try simp only [Act.put, List.setIfInBounds_toArray, List.set_cons_zero, List.set_cons_succ]
      refine t2p 10 30 ?_ hG hS rfl rfl (by kernel_rfl) (by kernel_rfl) (by kernel_rfl) (by kernel_rfl) (by kernel_rfl) (by intro w'; go_simp; try with_reducible rfl) (by simp only [Act.put, List.setIfInBounds_toArray, List.set_cons_zero, List.set_cons_succ]; try exact rfl) (fun _ _ _ h => h)
      clear hS hG
      intro hG hS
      refine r2_last (w0 := w0) 11 ?_ HM rfl hG (Wr.put (b := br) (i := 0) (v := .slice A2 (n + 1) c2) (v0 := .slice A n c) (cs := RV A n c (last + 1)) (cs' := RV A2 (n + 1) c2 (last + 1)) (T := 65) rfl (by kernel_rfl) (by first | (go_simp; with_reducible rfl) | rfl) (by first | (go_simp; with_reducible rfl) | rfl) rfl (by (first | ((repeat (first | with_reducible exact Upd.head _ | with_reducible apply Upd.tail)); done) | ((repeat (first | exact Upd.head _ | apply Upd.tail)); done))) rfl (HPU.out A2 c2)) (by kernel_rfl) (by kernel_rfl) (by kernel_rfl) (by kernel_rfl) (fun _ => trivial)
      clear HM HB
      intro w _ HM HB
      exact leaf6 HM b0 A1 c1 bl A2 c2 (by ((repeat (first | exact List.Perm.refl _ | (refine List.Perm.trans (Del.perm (by (first | ((repeat (first | with_reducible exact Del.head _ | with_reducible apply Del.tail)); done) | ((repeat (first | exact Del.head _ | apply Del.tail)); done)))) (List.Perm.cons _ ?_)))); done)) rfl
  case k =>
    intro b0 A1 c1 bl A2 c2 w HM
    have HB := HM.out.below
    have HC3 := Lib.hid (cellsRV A2 (n + 1) c2 (last + 1))
    go_wp2_with (first | refine m_rd ?_ | (refine m_wr ?_; clear HM HB; intro w b HM HB; try clear b) | fail)
    apply m_ret_c1
    next => exact rfl
    next => exact rfl
    next => exact rfl
    next => exact HM
    next => (first | ((repeat (first | with_reducible exact List.Mem.head _ | with_reducible apply List.Mem.tail)); done) | ((repeat (first | exact List.Mem.head _ | apply List.Mem.tail)); done))
    next => exact Try.underlying65
    next => rfl
    exact ⟨A2, c2, rfl, HM.out.ow (R := ROne) (by (first | ((repeat (first | with_reducible exact List.Mem.head _ | with_reducible apply List.Mem.tail)); done) | ((repeat (first | exact List.Mem.head _ | apply List.Mem.tail)); done))), HB⟩
end Go.Proofs.Ytapncdgeigbgmaa.Tb
