/- Package sessions: what is done to a whole table. -/
import Derived.Test.YtapncdgeigbgmaaTi
set_option linter.unusedSimpArgs false
set_option linter.unusedVariables false
set_option linter.unusedSectionVars false
set_option maxRecDepth 100000
namespace Go.Proofs.Ytapncdgeigbgmaa.Tb
open Go.RowKit Go.Proofs.YtapncdgeigbgmaaW.PrintWords Go.Proofs.Ytapncdgeigbgmaa.Bs Go.Proofs.Ytapncdgeigbgmaa.Gm Go.Proofs.Ytapncdgeigbgmaa.Sf

theorem rows_out {O : Own} (hn : (O.map (·.1)).Nodup) {k : Key} {v : Value} {xs : List UInt32} (h : getK O k = some (v, xs)) : (O.map rowO).Perm (rowE RN v xs :: (delK O k).map rowO) := (perm_del hn h).map rowO
theorem rows_put {O : Own} (hn : (O.map (·.1)).Nodup) (k : Key) (v : Value) (xs : List UInt32) : ((putK O k (v, xs)).map rowO).Perm (rowE RN v xs :: (delK O k).map rowO) := (perm_put (v := (v, xs)) hn).map rowO
theorem sess_out {L : List Ses} (hn : (L.map (·.lo)).Nodup) {s : Ses} (hs : s ∈ L) : (L.map sesO).Perm (sesO s :: (outL L s.lo).map sesO) := (out_perm hn hs).map sesO
theorem perm_two {α : Type} {a b : α} {A A' B B' C : List α} (h1 : A.Perm (a :: A')) (h2 : B.Perm (b :: B')) : (A ++ (B ++ C)).Perm (a :: b :: (A' ++ (B' ++ C))) := by
  refine (h1.append (h2.append_right C)).trans ?_
  exact List.Perm.cons _ List.perm_middle
theorem perm_one {α : Type} {a : α} {A A' B C : List α} (h1 : A.Perm (a :: A')) : (A ++ (B ++ C)).Perm (a :: (A' ++ (B ++ C))) := h1.append_right _
theorem perm_right {α : Type} {b : α} {A B B' C : List α} (h2 : B.Perm (b :: B')) : (A ++ (B ++ C)).Perm (b :: (A ++ (B' ++ C))) := ((h2.append_right C).append_left A).trans List.perm_middle
/-- A new table, no sessions. -/
theorem ok_nil (bt bb bo : Nat) : Tab.Ok ⟨bt, bb, bo, [], []⟩ := ⟨List.nodup_nil, List.nodup_nil, fun k => .inl ⟨rfl, rfl⟩, fun k => Nat.zero_le _, Nat.zero_le _⟩
/-- A session goes. -/
def Out (T T' : Tab) (lo : UInt32) : Prop := T'.bt = T.bt ∧ T'.L = outL T.L lo ∧ T'.Ok
theorem forget_tab {w0 w : World} {es : List Ent} {T : Tab} (h : T.Ok) {s : Ses} (hs : s ∈ T.L) (HM : HMem w0 w (tabE T es)) :
    Calls Try.prog 39 #[.pointer (some ⟨T.bt, 0, none⟩), .int .u32 (s.lo.toNat : Int)] w fun e w' => e = .returned (.int .i64 0) ∧ ∃ T', Out T T' s.lo ∧ HMem w0 w' (tabE T' es) := by
  obtain ⟨bt, bb, bo, L, O⟩ := T
  have h0 := h
  obtain ⟨nlo, nk, own, two, room⟩ := h
  simp only at nlo nk own two room hs
  have hne : ownL L s.k ≠ [] := List.ne_nil_of_mem (ownL_mem.2 ⟨s, hs, rfl, rfl⟩)
  obtain ⟨A, c, _, hg⟩ := (own s.k).resolve_left (fun h => hne h.2)
  obtain ⟨xs, hxs⟩ : ∃ xs, ownL L s.k = xs := ⟨_, rfl⟩
  rw [hxs] at hg hne
  have hx : 0 < xs.length := List.length_pos_iff.2 hne
  have HM2 : HMem w0 w (tabB bt bb bo :: sesE s.b (keyC s.k) s.lo.toNat s.re.toNat s.n s.m :: mapE MB bb (byL L) :: mapE MO bo (ownO O) :: rowE RN (.slice A xs.length c) xs :: ((delK O s.k).map rowO ++ ((outL L s.lo).map sesO ++ es))) := Lib.hid (HM.out.perm (by
    unfold tabE
    refine List.Perm.cons _ ?_
    refine ((((perm_two (rows_out nk hg) (sess_out nlo hs)).cons _).cons _).trans ?_)
    show List.Perm _ (sesO s :: _)
    ((repeat (first | exact List.Perm.refl _ | (refine List.Perm.trans (Del.perm (by (first | ((repeat (first | with_reducible exact Del.head _ | with_reducible apply Del.tail)); done) | ((repeat (first | exact Del.head _ | apply Del.tail)); done)))) (List.Perm.cons _ ?_)))); done)))
  refine (forget_some (k := s.k) s.lo HM2 (byL_some nlo hs) (by rw [ownO_get, hg]; rfl) hx rfl).mono ?_
  rintro e w' ⟨rfl, HM3⟩
  refine ⟨rfl, ?_⟩
  obtain ⟨ys, hys⟩ : ∃ ys, (xs.filter fun x => !decide (x = s.lo)) = ys := ⟨_, rfl⟩
  have hyo : ownL (outL L s.lo) s.k = ys := by rw [ownL_out, hxs, hys]
  rw [hys, byL_del] at HM3
  have htwo : ∀ k, (ownL (outL L s.lo) k).length ≤ 2 := fun k => by rw [ownL_out]; exact Nat.le_trans (List.length_filter_le _ _) (two k)
  have hroom : (outL L s.lo).length ≤ 32 := Nat.le_trans (List.length_filter_le _ _) room
  by_cases h0 : ys.length = 0
  · have hy : ys = [] := List.eq_nil_of_length_eq_zero h0
    rw [if_pos h0, ownO_del] at HM3
    refine ⟨⟨bt, bb, bo, outL L s.lo, delK O s.k⟩, ⟨rfl, rfl, ⟨out_nodup nlo _, delK_keys nk, fun k => ?_, htwo, hroom⟩⟩, Lib.hid ?_⟩
    · by_cases hk : k = s.k
      · subst hk
        exact .inl ⟨getK_del_same, by rw [hyo, hy]⟩
      · simp only
        rw [getK_del_other hk, out_other nlo hs hk]
        exact own k
    · refine (HM3.out.perm (es' := rowE RN (.slice A ys.length c) ys :: sesE s.b (keyC s.k) s.lo.toNat s.re.toNat s.n s.m :: tabE ⟨bt, bb, bo, outL L s.lo, delK O s.k⟩ es) ?_).tail.tail
      unfold tabE
      ((repeat (first | exact List.Perm.refl _ | (refine List.Perm.trans (Del.perm (by (first | ((repeat (first | with_reducible exact Del.head _ | with_reducible apply Del.tail)); done) | ((repeat (first | exact Del.head _ | apply Del.tail)); done)))) (List.Perm.cons _ ?_)))); done)
  · rw [if_neg h0, ownO_put _ _ _ ys] at HM3
    refine ⟨⟨bt, bb, bo, outL L s.lo, putK O s.k (.slice A ys.length c, ys)⟩, ⟨rfl, rfl, ⟨out_nodup nlo _, putK_keys nk, fun k => ?_, htwo, hroom⟩⟩, Lib.hid ?_⟩
    · by_cases hk : k = s.k
      · subst hk
        exact .inr ⟨A, c, by rw [hyo]; exact fun e => h0 (by rw [e]; rfl), by rw [getK_put_same, hyo]⟩
      · simp only
        rw [getK_put_other hk, out_other nlo hs hk]
        exact own k
    · refine (HM3.out.perm (es' := sesE s.b (keyC s.k) s.lo.toNat s.re.toNat s.n s.m :: tabE ⟨bt, bb, bo, outL L s.lo, putK O s.k (.slice A ys.length c, ys)⟩ es) ?_).tail
      unfold tabE
      refine List.Perm.trans (l₂ := sesE s.b (keyC s.k) s.lo.toNat s.re.toNat s.n s.m :: tabB bt bb bo :: mapE MB bb (byL (outL L s.lo)) :: mapE MO bo (ownO (putK O s.k (.slice A ys.length c, ys))) :: rowE RN (.slice A ys.length c) ys :: ((delK O s.k).map rowO ++ ((outL L s.lo).map sesO ++ es))) ?_ (((((perm_one (rows_put nk _ _ _)).symm.cons _).cons _).cons _).cons _)
      ((repeat (first | exact List.Perm.refl _ | (refine List.Perm.trans (Del.perm (by (first | ((repeat (first | with_reducible exact Del.head _ | with_reducible apply Del.tail)); done) | ((repeat (first | exact Del.head _ | apply Del.tail)); done)))) (List.Perm.cons _ ?_)))); done)
theorem delK_put {κ ν : Type} [DecidableEq κ] {l : List (κ × ν)} {x : κ} {v : ν} : delK (putK l x v) x = delK l x := by
  unfold putK
  split
  · unfold delK
    rw [List.filter_map]
    have e : ((fun p : κ × ν => !decide (p.1 = x)) ∘ fun p => if p.1 = x then (x, v) else p) = fun p => !decide (p.1 = x) := by
      funext q
      simp only [Function.comp]
      by_cases hq : q.1 = x <;> simp [hq]
    rw [e]
    conv => rhs; rw [← List.map_id (l.filter fun p => !decide (p.1 = x))]
    refine List.map_congr_left fun q hq => ?_
    have := (List.mem_filter.1 hq).2
    simp only [Bool.not_eq_true', decide_eq_false_iff_not] at this
    rw [if_neg this]
    rfl
  · unfold delK
    rw [List.filter_append]
    simp
/-- A session is installed: the error, and the sessions behind it. -/
def instE (L : List Ses) (k : Key) (lo : UInt32) : Int := if lo ∈ L.map (·.lo) then 13 else if (ownL L k).length = 2 then 0 else if 32 ≤ L.length then 7 else 0
def instR (L : List Ses) (s : Ses) : List Ses := if s.lo ∈ L.map (·.lo) then L else if (ownL L s.k).length = 2 then outL L ((ownL L s.k).headD 0) ++ [s] else if 32 ≤ L.length then L else L ++ [s]
/-- One more session at the end of a table whose own key's row has one more. -/
theorem ok_snoc {L : List Ses} {O : Own} {bt bb bo bt' bb' bo' : Nat} (h : Tab.Ok ⟨bt, bb, bo, L, O⟩) (s : Ses) (hs : s.lo ∉ L.map (·.lo)) (h2 : (ownL L s.k).length < 2) (hl : L.length < 32) (A : Option Addr) (c : Nat) :
    Tab.Ok ⟨bt', bb', bo', L ++ [s], putK O s.k (.slice A ((ownL L s.k).length + 1) c, ownL L s.k ++ [s.lo])⟩ := by
  obtain ⟨nlo, nk, own, two, room⟩ := h
  simp only at nlo nk own two room
  refine ⟨?_, putK_keys nk, fun k => ?_, fun k => ?_, by simp; omega⟩
  · simp only [List.map_append, List.map_cons, List.map_nil]
    rw [List.nodup_append]
    refine ⟨nlo, by simp, fun a ha b hb e => hs ?_⟩
    obtain rfl : b = s.lo := by simpa using hb
    rw [← e]; exact ha
  · by_cases hk : k = s.k
    · subst hk
      refine .inr ⟨A, c, ?_, ?_⟩
      · rw [ownL_snoc, if_pos rfl]; simp
      · rw [getK_put_same, ownL_snoc, if_pos rfl]; simp
    · simp only
      rw [getK_put_other hk, ownL_snoc, if_neg (fun e => hk e.symm), List.append_nil]
      exact own k
  · simp only
    rw [ownL_snoc]
    split
    · rename_i e; rw [← e]; simp; omega
    · rw [List.append_nil]; exact two k
def Put (T T' : Tab) (k : Key) (lo re : UInt32) (n : Int) : Prop := T'.Ok ∧ T'.bt = T.bt ∧ ∃ b, T'.L = instR T.L ⟨b, k, lo, re, n, [], none, 0⟩
theorem install_tab {w0 w : World} {es : List Ent} {T : Tab} (h : T.Ok) (k : Key) (lo re : UInt32) (n : Int) (HM : HMem w0 w (tabE T es)) :
    Calls Try.prog 22 #[.pointer (some ⟨T.bt, 0, none⟩), .agg (keyC k), .int .u32 (lo.toNat : Int), .int .u32 (re.toNat : Int), .int .u64 n] w fun e w' => e = .returned (.int .i64 (instE T.L k lo)) ∧ ∃ T', Put T T' k lo re n ∧ HMem w0 w' (tabE T' es) := by
  by_cases hlo : lo ∈ T.L.map (·.lo)
  · obtain ⟨s, hs, rfl⟩ := List.mem_map.1 hlo
    refine (install_twice k s.lo re.toNat n HM (byL_some h.nlo hs)).mono ?_
    rintro e w' ⟨rfl, HM2⟩
    exact ⟨by unfold instE; rw [if_pos hlo], T, ⟨h, rfl, 0, by unfold instR; rw [if_pos hlo]⟩, HM2⟩
  obtain ⟨bt, bb, bo, L, O⟩ := T
  have hOk := h
  obtain ⟨nlo, nk, own, two, room⟩ := h
  simp only at nlo nk own two room hlo
  have hbn := byL_none hlo
  have hlast : ∀ b, (⟨b, k, lo, re, n, [], none, 0⟩ : Ses).lo ∉ L.map (·.lo) := fun b => hlo
  have hbp : ∀ b, putK (byL L) lo b = byL (L ++ [⟨b, k, lo, re, n, [], none, 0⟩]) := fun b => byL_put (s := ⟨b, k, lo, re, n, [], none, 0⟩) hlo
  rcases own k with ⟨hg, h0⟩ | ⟨A, c, hne, hg⟩
  · have hgo : getK (ownO O) k = none := by rw [ownO_get, hg]; rfl
    by_cases hl : L.length < 32
    · refine (install_first k lo re.toNat n HM hbn hgo (by rw [byL_length]; exact hl)).mono ?_
      rintro e w' ⟨rfl, b, A, c, HM2⟩
      have hok := ok_snoc (bt' := bt) (bb' := bb) (bo' := bo) hOk ⟨b, k, lo, re, n, [], none, 0⟩ hlo (by rw [h0]; decide) hl A c
      simp only [h0] at hok
      refine ⟨by unfold instE; rw [if_neg hlo, if_neg (by rw [h0]; decide), if_neg (by simp only; omega)], _, ⟨hok, rfl, b, by unfold instR; simp only; rw [if_neg hlo, if_neg (by rw [h0]; decide), if_neg (by omega)]⟩, Lib.hid ?_⟩
      try dsimp only at HM2
      rw [hbp, ownO_put _ _ _ ([] ++ [lo])] at HM2
      refine HM2.out.perm ?_
      unfold tabE
      simp only [List.map_append, List.map_cons, List.map_nil, List.nil_append, List.length_nil]
      refine ((List.Perm.cons _ (List.Perm.cons _ (List.Perm.cons _ ?_))))
      refine List.Perm.trans ?_ (perm_two (rows_put nk k _ _) (List.perm_append_singleton (sesO ⟨b, k, lo, re, n, [], none, 0⟩) (L.map sesO))).symm
      rw [show delK O k = O from del_none hg]
      exact List.Perm.refl _
    · refine (install_full0 (A := none) (c := 0) k lo re.toNat n HM hbn hgo (by rw [byL_length]; show 32 ≤ L.length; omega)).mono ?_
      rintro e w' ⟨rfl, HM2⟩
      exact ⟨by unfold instE; rw [if_neg hlo, if_neg (by rw [h0]; decide), if_pos (by simp only; omega)], _, ⟨hOk, rfl, 0, by unfold instR; simp only; rw [if_neg hlo, if_neg (by rw [h0]; decide), if_pos (by omega)]⟩, HM2⟩
  · obtain ⟨xs, hxs⟩ : ∃ xs, ownL L k = xs := ⟨_, rfl⟩
    have h2 := two k
    rw [hxs] at hg hne h2
    have hgo : getK (ownO O) k = some (.slice A xs.length c) := by rw [ownO_get, hg]; rfl
    match xs, hxs, hne, h2, hg, hgo with
    | [x], hxs, _, _, hg, hgo =>
      by_cases hl : L.length < 32
      · have HM1 : HMem w0 w (tabB bt bb bo :: mapE MB bb (byL L) :: mapE MO bo (ownO O) :: rowE RN (.slice A 1 c) [x] :: ((delK O k).map rowO ++ (L.map sesO ++ es))) := Lib.hid (HM.out.perm ((((perm_one (rows_out nk hg)).cons _).cons _).cons _))
        refine (install_second k lo re.toNat n HM1 hbn hgo rfl (by rw [byL_length]; exact hl)).mono ?_
        rintro e w' ⟨rfl, b, A2, c2, HM2⟩
        have hok := ok_snoc (bt' := bt) (bb' := bb) (bo' := bo) hOk ⟨b, k, lo, re, n, [], none, 0⟩ hlo (by rw [hxs]; simp) hl A2 c2
        simp only [hxs] at hok
        refine ⟨by unfold instE; rw [if_neg hlo, if_neg (by rw [hxs]; simp), if_neg (by simp only; omega)], _, ⟨hok, rfl, b, by unfold instR; simp only; rw [if_neg hlo, if_neg (by rw [hxs]; simp), if_neg (by omega)]⟩, Lib.hid ?_⟩
        try dsimp only at HM2
        rw [hbp, ownO_put _ _ _ ([x] ++ [lo])] at HM2
        refine HM2.out.perm ?_
        unfold tabE
        simp only [List.map_append, List.map_cons, List.map_nil, List.length_cons, List.length_nil]
        refine ((List.Perm.cons _ (List.Perm.cons _ (List.Perm.cons _ ?_))))
        exact (perm_two (rows_put nk k _ _) (List.perm_append_singleton (sesO ⟨b, k, lo, re, n, [], none, 0⟩) (L.map sesO))).symm
      · refine (install_full1 k lo re.toNat n HM hbn hgo (by rw [byL_length]; show 32 ≤ L.length; omega)).mono ?_
        rintro e w' ⟨rfl, HM2⟩
        exact ⟨by unfold instE; rw [if_neg hlo, if_neg (by rw [hxs]; simp), if_pos (by simp only; omega)], _, ⟨hOk, rfl, 0, by unfold instR; simp only; rw [if_neg hlo, if_neg (by rw [hxs]; simp), if_pos (by omega)]⟩, HM2⟩
    | [x0, x1], hxs, _, _, hg, hgo =>
      obtain ⟨s0, hs0, hk0, hx0⟩ := ownL_mem.1 (show x0 ∈ ownL L k by rw [hxs]; simp)
      subst hx0
      have hnd : (ownL L k).Nodup := nlo.sublist (List.filter_sublist.map _)
      rw [hxs] at hnd
      have hx1 : x1 ≠ s0.lo := by simp at hnd; exact fun e => hnd e.symm
      have HM1 : HMem w0 w (tabB bt bb bo :: sesE s0.b (keyC k) s0.lo.toNat s0.re.toNat s0.n s0.m :: mapE MB bb (byL L) :: mapE MO bo (ownO O) :: rowE RN (.slice A 2 c) [s0.lo, x1] :: ((delK O k).map rowO ++ ((outL L s0.lo).map sesO ++ es))) := Lib.hid (HM.out.perm (by
        unfold tabE
        refine List.Perm.cons _ ?_
        refine ((((perm_two (rows_out nk hg) (sess_out nlo hs0)).cons _).cons _).trans ?_)
        rw [show sesE s0.b (keyC k) s0.lo.toNat s0.re.toNat s0.n s0.m = sesO s0 by rw [← hk0]; rfl]
        show List.Perm (mapE MB bb (byL L) :: mapE MO bo (ownO O) :: rowE RN (.slice A 2 c) [s0.lo, x1] :: sesO s0 :: _) _
        ((repeat (first | exact List.Perm.refl _ | (refine List.Perm.trans (Del.perm (by (first | ((repeat (first | with_reducible exact Del.head _ | with_reducible apply Del.tail)); done) | ((repeat (first | exact Del.head _ | apply Del.tail)); done)))) (List.Perm.cons _ ?_)))); done)))
      refine (install_third k lo re.toNat n HM1 hbn hgo (byL_some nlo hs0) hx1).mono ?_
      rintro e w' ⟨rfl, b, A2, c2, HM2⟩
      have hlo2 : lo ∉ (outL L s0.lo).map (·.lo) := fun hm => hlo ((List.filter_sublist.map _).subset hm)
      have hlen := out_len nlo hs0
      have hown1 : ownL (outL L s0.lo) k = [x1] := by rw [ownL_out, hxs]; simp [hx1]
      have hokm : Tab.Ok ⟨bt, bb, bo, outL L s0.lo, putK O k (.slice A 1 c, [x1])⟩ := ⟨out_nodup nlo _, putK_keys nk, fun k2 => by
        by_cases hk : k2 = k
        · subst hk
          exact .inr ⟨A, c, by rw [hown1]; simp, by rw [getK_put_same, hown1]; rfl⟩
        · simp only
          rw [getK_put_other hk, out_other nlo hs0 (by rw [hk0]; exact hk)]
          exact own k2, fun k2 => by rw [ownL_out]; exact Nat.le_trans (List.length_filter_le _ _) (two k2), by simp only; omega⟩
      have hok := ok_snoc (bt' := bt) (bb' := bb) (bo' := bo) hokm ⟨b, k, lo, re, n, [], none, 0⟩ hlo2 (by rw [hown1]; simp) (by omega) A2 c2
      simp only [hown1] at hok
      refine ⟨by unfold instE; rw [if_neg hlo, if_pos (by rw [hxs]; rfl)], _, ⟨hok, rfl, b, by unfold instR; simp only; rw [if_neg hlo, if_pos (by rw [hxs]; rfl), hxs]; rfl⟩, Lib.hid ?_⟩
      try dsimp only at HM2
      rw [byL_del, byL_put (s := ⟨b, k, lo, re, n, [], none, 0⟩) hlo2, ownO_put _ _ _ [x1], ownO_put _ _ _ ([x1] ++ [lo])] at HM2
      refine HM2.out.perm ?_
      unfold tabE
      simp only [List.map_append, List.map_cons, List.map_nil, List.length_cons, List.length_nil]
      refine ((List.Perm.cons _ (List.Perm.cons _ (List.Perm.cons _ ?_))))
      refine List.Perm.trans ?_ (perm_two (rows_put (putK_keys nk) k _ _) (List.perm_append_singleton (sesO ⟨b, k, lo, re, n, [], none, 0⟩) ((outL L s0.lo).map sesO))).symm
      rw [delK_put]
      exact List.Perm.refl _
theorem len_tab {w0 w : World} {es : List Ent} {T : Tab} {bt : Nat} (hb : T.bt = bt) (HM : HMem w0 w (tabE T es)) : Calls Try.prog 23 #[.pointer (some ⟨bt, 0, none⟩)] w fun e w' => e = .returned (.int .i64 T.L.length) ∧ w = w' := by
  subst hb
  exact len_any (L := T.L) HM (List.Mem.head _) (List.Mem.tail _ (List.Mem.head _))
end Go.Proofs.Ytapncdgeigbgmaa.Tb
