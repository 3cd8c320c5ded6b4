/- The statements of package replay: the list of all that was taken, and the walks. -/
import Derived.Test.YtapncdgeigbgmaaRpP
import Derived.Test.YtapncdgeigbgmaaOp
set_option linter.unusedSimpArgs false
set_option linter.unusedVariables false
set_option maxRecDepth 100000
namespace Go.Proofs.Ytapncdgeigbgmaa.Rp
open Go.RowKit Go.ChangeShapes Go.WideShapes Go.Proofs.YtapncdgeigbgmaaW.PrintWords Go.Proofs.Ytapncdgeigbgmaa.Bs

/-! ### Rows of whole numbers from 0 on -/
def U (k : IntKind) (x : Nat) : Value := .int k (x : Int)
def RU (k : IntKind) (w : World) (v : Value) (l : List Nat) : Prop := ∃ A c, v = .slice A l.length c ∧ l.length ≤ c ∧ ReadsOf (U k) 0 w A l.length l
def OU (base : Nat) (w : World) (v : Value) (l : List Nat) : Prop := w.ownsRow base 22 1 v l.length (encs (U .u64) l)
theorem RU.below {k : IntKind} {w w1 : World} {v : Value} {l : List Nat} (h : RU k w v l) (hb : Below w.heap.size w w1) : RU k w1 v l := by
  obtain ⟨A, c, rfl, hc, hr⟩ := h
  exact ⟨A, c, rfl, hc, hr.below hb⟩
theorem RU.len {k : IntKind} {w : World} {v : Value} {l : List Nat} (h : RU k w v l) : l.length ≤ 9223372036854775807 := by
  obtain ⟨A, c, rfl, hc, hr⟩ := h
  exact hr.2.1
theorem RU.nil (k : IntKind) (w : World) : RU k w (.slice none 0 0) [] := ⟨none, 0, rfl, Nat.le_refl _, rfl, by simp, fun h => absurd h (Nat.lt_irrefl 0)⟩
theorem u_cell {k : IntKind} {w : World} {A : Option Addr} {l : List Nat} (h : ReadsOf (U k) 0 w A l.length l) (j : Nat) (hj : j < l.length) :
    ∃ ad, A = some ad ∧ w.cell? (ad.add j) = some (.int k ((l.getD j 0 : Nat) : Int)) := by
  obtain ⟨ad, e, hc⟩ := h.2.2 (by omega)
  exact ⟨ad, e, hc j hj⟩
theorem OU.ru {base : Nat} {w : World} {v : Value} {l : List Nat} (h : OU base w v l) : RU .u64 w v l := by
  obtain ⟨A, c, rfl, hc, hr⟩ := own_reads_of_le (enc := U .u64) (d := 0) h
  exact ⟨A, c, rfl, hc, hr⟩
theorem OU.below {base : Nat} {w w1 : World} {v : Value} {l : List Nat} (h : OU base w v l) (hb : Below w.heap.size w w1) : OU base w1 v l := pw_own_below h hb
theorem OU.alloc {base : Nat} {w : World} {v : Value} {l : List Nat} (h : OU base w v l) (o : Obj) : OU base (w.alloc o) v l := h.below (below_alloc (Below.refl _ _) o)
theorem OU.nil (base : Nat) (w : World) : OU base w (.slice none 0 0) [] := own_nil _ _ _ _
theorem OU.other {base b : Nat} {w w1 : World} {v : Value} {l : List Nat} (h : OU base w v l) (hg : w.grownBy w1 (some b)) (hb : b < base) : OU base w1 v l :=
  own_other h hg (by
    rcases own_base' h with h | ⟨k, h, hk⟩
    · exact .inl h
    · exact .inr (by rw [h]; intro e; injection e with e; omega))
theorem info64 : (Try.prog.info? 22).map (fun i => (i.zero, i.size, i.bytes)) = some (some (.int .u64 0), 1, 8) := by kernel_rfl
theorem append_u64 {ops : Array Oper} {rest : List Oper} {o : Oper} {a : Act} {Q : Exit → Act → World → Prop} {W w0 : World} (base : Nat) (hgd : o.guard = none) (s x : Operand)
    (ho : o.op = .call { callee := .builtin .append, args := #[s, x], argTypes := #[41, 41] })
    (v : Value) (xs : List Nat) (n : Nat) (hs : a.eval s = v) (hx : a.eval x = .slice (some ⟨W.heap.size, 0, none⟩) 1 1)
    (HO : OU base W v xs) (HB : Below base w0 W) (hbase : base ≤ W.heap.size) (hl : xs.length + 1 ≤ 17592186044416)
    (h : ∀ v1 w1, OU base w1 v1 (xs ++ [n]) → Below base w0 w1 → wpList Try.prog ops Q rest (a.put o.dst v1) w1) :
    wpList Try.prog ops Q (o :: rest) a (W.alloc (.cells #[.int .u64 (n : Int)] 22)) :=
  print_append_of (U .u64) base hgd s x 41 22 (.int .u64 0) 8 ho Try.underlying41 info64 rfl (by decide) v xs n hs hx rfl HO HB hbase (by omega) fun v1 w1 h1 h2 _ _ => h v1 w1 h1 h2

theorem nats_of {k : IntKind} {W : World} {A : Option Addr} {n : Nat} {zs : List Int} (h : ReadsInt W k A n zs) (b : Nat) (hw : ∀ z ∈ zs, 0 ≤ z ∧ z < (b : Int)) : ∃ l : List Nat, l.length = n ∧ ReadsOf (U k) 0 W A n l ∧ ∀ x ∈ l, x < b := by
  refine ⟨zs.map Int.toNat, by rw [List.length_map]; exact h.1, ⟨by rw [List.length_map]; exact h.1, h.2.1, fun hn => ?_⟩, fun x hx => ?_⟩
  · obtain ⟨ad, e, hc⟩ := h.2.2 hn
    refine ⟨ad, e, fun j hj => ?_⟩
    have hjz : j < zs.length := by rw [h.1]; exact hj
    rw [hc j hj]
    have h1 := hw (zs.getD j 0) (by simp [List.getD_eq_getElem?_getD, List.getElem?_eq_getElem hjz])
    unfold U
    have e2 : (zs.map Int.toNat).getD j 0 = (zs.getD j 0).toNat := by simp [List.getD_eq_getElem?_getD, List.getElem?_map, List.getElem?_eq_getElem hjz]
    rw [e2, Int.toNat_of_nonneg h1.1]
  · obtain ⟨z, hz, rfl⟩ := List.mem_map.1 hx
    have := hw z hz
    omega
theorem u64s_of {W : World} {A : Option Addr} {c : Nat} {zs : List Int} (hc : zs.length ≤ c) (h : ReadsInt W .u64 A zs.length zs) (hw : ∀ z ∈ zs, (Lit.int .u64 z).wf = true) : ∃ l : List Nat, RU .u64 W (.slice A zs.length c) l ∧ ∀ x ∈ l, x < 18446744073709551616 := by
  obtain ⟨l, hl, hr, hb⟩ := nats_of h 18446744073709551616 (fun z hz => by have := bounds_u64 (hw z hz); omega)
  exact ⟨l, ⟨A, c, by rw [hl], by omega, by rw [hl]; exact hr⟩, hb⟩
theorem u16s_of {W : World} {A : Option Addr} {c : Nat} {zs : List Int} (hc : zs.length ≤ c) (h : ReadsInt W .u16 A zs.length zs) (hw : ∀ z ∈ zs, (Lit.int .u16 z).wf = true) : ∃ l : List Nat, RU .u16 W (.slice A zs.length c) l ∧ ∀ x ∈ l, x < 65536 := by
  obtain ⟨l, hl, hr, hb⟩ := nats_of h 65536 (fun z hz => by have := bounds_u16 (hw z hz); omega)
  exact ⟨l, ⟨A, c, by rw [hl], by omega, by rw [hl]; exact hr⟩, hb⟩
theorem getD_lt {l : List Nat} {b : Nat} (h : ∀ x ∈ l, x < b) (hb : 0 < b) (j : Nat) : l.getD j 0 < b := by
  by_cases hj : j < l.length
  · exact h _ (by simp [List.getD_eq_getElem?_getD, List.getElem?_eq_getElem hj])
  · rw [List.getD_eq_getElem?_getD, List.getElem?_eq_none (by omega)]; exact hb

/-! ### The window beside the list -/
/-- From cell o of block b on lies a window that holds what m holds. -/
def Holds (w : World) (b o : Nat) (m : List Nat) : Prop := ∃ t s R, Win w b o t s R ∧ Inv t s R m
theorem Win.far {w w1 : World} {b o t : Nat} {s : Bool} {R : Nat → Nat} {B : Nat} (h : Win w b o t s R) (hb : Below B w w1) (hlt : b < B) : Win w1 b o t s R := by
  have hc : ∀ j, w1.cell? ⟨b, j, none⟩ = w.cell? ⟨b, j, none⟩ := fun j => by unfold World.cell?; rw [hb.block b hlt]
  have hf : ∀ j, w1.frozen? ⟨b, j, none⟩ = w.frozen? ⟨b, j, none⟩ := fun j => by unfold World.frozen?; rw [hb.block b hlt]
  obtain ⟨c0, c1, c2, f, ht, hR⟩ := h
  exact ⟨(hc _).trans c0, (hc _).trans c1, fun i hi => (hc _).trans (c2 i hi), fun i hi => (hf _).trans (f i hi), ht, hR⟩
theorem Holds.far {w w1 : World} {b o : Nat} {m : List Nat} {B : Nat} (h : Holds w b o m) (hb : Below B w w1) (hlt : b < B) : Holds w1 b o m := by
  obtain ⟨t, s, R, hw, hi⟩ := h
  exact ⟨t, s, R, hw.far hb hlt, hi⟩
theorem Inv.dup {t : Nat} {s : Bool} {R : Nat → Nat} {m : List Nat} (h : Inv t s R m) (n : Nat) (hn : n ∈ m) : Inv t s R (m ++ [n]) := by
  obtain ⟨hs, ht, hb⟩ := h
  have hne : m ≠ [] := by intro e; rw [e] at hn; simp at hn
  refine ⟨by rw [hs]; simp [hne], ?_, fun k h1 h2 => ?_⟩
  · rw [topL_snoc, ht]; have := topL_le m n hn; omega
  · rw [hb k h1 h2]
    by_cases e : k = n
    · subst e; simp [hn]
    · simp [e]
theorem Holds.dup {w : World} {b o : Nat} {m : List Nat} (h : Holds w b o m) (n : Nat) (hn : n ∈ m) : Holds w b o (m ++ [n]) := by
  obtain ⟨t, s, R, hw, hi⟩ := h
  exact ⟨t, s, R, hw, hi.dup n hn⟩

theorem can_inv (b o n : Nat) (m : List Nat) (w : World) (hw : Holds w b o m) (h : n < 18446744073709551616) :
    Calls Try.prog 80 #[.pointer (some ⟨b, o, none⟩), .int .u64 n] w fun e w' => e = .returned (.bool (canL m n)) ∧ w = w' := by
  obtain ⟨t, s, R, hw, hi⟩ := hw
  rw [← hi.can n]
  exact (can_any b o t n s R w hw h).mono fun e w' h => ⟨h.1, h.2.symm⟩
theorem take_inv (b o n : Nat) (m : List Nat) (w : World) (hw : Holds w b o m) (h : n < 18446744073709551616) :
    Calls Try.prog 55 #[.pointer (some ⟨b, o, none⟩), .int .u64 n] w fun e w' => e = .returned (.bool (canL m n)) ∧ Holds w' b o (if canL m n = true then m ++ [n] else m) ∧ Wr w w' b o := by
  obtain ⟨t, s, R, hw, hi⟩ := hw
  have hc := hi.can n
  refine (take_any b o t n s R w hw h).mono ?_
  rintro e w' ⟨rfl, hw', hr⟩
  refine ⟨by rw [hc], ⟨_, _, _, hw', ?_⟩, hr⟩
  rw [← hc]
  cases hx : canW t s R n with
  | true => exact hi.take n hx
  | false => exact hi.keep n hx

theorem Win.new (w : World) (cs : Array Value) (T : TypeId) (hcs : cs = #[.int .u64 0, .bool false] ++ Array.replicate 32 (.int .u64 0)) : Holds (w.alloc (.cells cs T)) w.heap.size 0 [] := by
  subst hcs
  refine ⟨0, false, fun _ => 0, ⟨(blk_cell (blk_new w _) 0).trans rfl, (blk_cell (blk_new w _) 1).trans rfl, fun i hi => ?_, fun j hj => blk_frozen (blk_new w _) _, by decide, fun i hi => show 0 < 18446744073709551616 by decide⟩, Inv.nil⟩
  refine (blk_cell (blk_new w _) (0 + 2 + i)).trans ?_
  rw [Array.getElem?_append_right (by simp)]
  simp [hi]

/-! ### The list of the document -/
theorem mem_step {l : List Nat} {j : Nat} (hj : j < l.length) (n : Nat) : n ∈ l.take (j + 1) ↔ n ∈ l.take j ∨ l.getD j 0 = n := by
  have e : l.take (j + 1) = l.take j ++ [l.getD j 0] := by
    rw [List.take_add_one, List.getD_eq_getElem?_getD, List.getElem?_eq_getElem hj]
    rfl
  rw [e, List.mem_append, List.mem_singleton]
  constructor
  · rintro (h | h)
    · exact .inl h
    · exact .inr h.symm
  · rintro (h | h)
    · exact .inl h
    · exact .inr h.symm

set_option maxRecDepth 100000 in
set_option maxHeartbeats 1000000 in
theorem has_any (v : Value) (l : List Nat) (n : Nat) (w : World) (hr : RU .u64 w v l) (hn : n < 18446744073709551616) (hb : ∀ x ∈ l, x < 18446744073709551616) :
    Calls Try.prog 78 #[v, .int .u64 n] w fun e w' => e = .returned (.bool (decide (n ∈ l))) ∧ w = w' := by
  have hl := hr.len
  obtain ⟨A, c, rfl, _, hr⟩ := hr
  have HR := Lib.hid hr
  have HB := Lib.hid (fun j => getD_lt hb (by decide) j)
  have hn1 : (n : Int) < 18446744073709551616 := by omega
  clear hr hb hn
  go_enter Try.func78, Try.ntmps78
  go_wp2
  go_loop [5] (fun v5 => ∃ j : Nat, j ≤ l.length ∧ v5 = .int .i64 j ∧ Hid (n ∉ l.take j)) (fun v5 => l.length - (intOf v5).toNat)
  case atStart => exact ⟨0, Nat.zero_le _, rfl, Lib.hid (by simp)⟩
  case round =>
    obtain ⟨j, hj, rfl, HN⟩ := hrel
    by_cases hlt : j < l.length
    · obtain ⟨ad, rfl, hc1⟩ := u_cell HR.out j hlt
      have hx1 : ((l.getD j 0 : Nat) : Int) < 18446744073709551616 := by have := HB.out j; omega
      have HS := Lib.hid (mem_step hlt n)
      have HM : Hid (l.getD j 0 = n → n ∈ l) := Lib.hid (fun e => by
        have := (HS.out).2 (.inr e)
        exact List.mem_of_mem_take this)
      generalize l.getD j 0 = x at hc1 hx1 HS HM
      by_cases he : x = n
      · have HF : Hid (decide (n ∈ l) = true) := Lib.hid (decide_eq_true (HM.out he))
        subst he
        go_wp2
        go_ret
        exact ⟨by rw [HF.out]; rfl, rfl⟩
      · have HF : Hid (n ∉ l.take (j + 1)) := Lib.hid (fun h => by
          rcases HS.out.1 h with h | h
          · exact HN.out h
          · exact he h)
        have he2 : ((x : Int) == (n : Int)) = false := beq_false_of_ne (by omega)
        clear he
        go_wp2
        go_round
        case rel => exact ⟨j + 1, by omega, by go_num, HF⟩
        case measure => (simp [intOf]) <;> omega
    · have HF : Hid (decide (n ∈ l) = false) := Lib.hid (decide_eq_false (by
        have h := HN.out
        rwa [List.take_of_length_le (by omega)] at h))
      go_wp2
      go_ret
      exact ⟨by rw [HF.out]; rfl, rfl⟩

theorem topL_step {l : List Nat} {j : Nat} (hj : j < l.length) : topL (l.take (j + 1)) = max (topL (l.take j)) (l.getD j 0) := by
  have e : l.take (j + 1) = l.take j ++ [l.getD j 0] := by
    rw [List.take_add_one, List.getD_eq_getElem?_getD, List.getElem?_eq_getElem hj]
    rfl
  rw [e, topL_snoc]
theorem topL_lt {l : List Nat} {b : Nat} (h : ∀ x ∈ l, x < b) (hb : 0 < b) : topL l < b := by
  have : ∀ (l : List Nat) (a : Nat), a < b → (∀ x ∈ l, x < b) → l.foldl max a < b := by
    intro l
    induction l with
    | nil => intro a ha _; exact ha
    | cons x l ih =>
      intro a ha hx
      rw [List.foldl_cons]
      have := hx x (by simp)
      exact ih _ (by omega) fun y hy => hx y (by simp [hy])
  exact this l 0 hb h

set_option maxRecDepth 100000 in
set_option maxHeartbeats 1000000 in
theorem top_any (v : Value) (l : List Nat) (w : World) (hr : RU .u64 w v l) (hb : ∀ x ∈ l, x < 18446744073709551616) :
    Calls Try.prog 79 #[v] w fun e w' => e = .returned (.int .u64 (topL l : Nat)) ∧ w = w' := by
  have hl := hr.len
  obtain ⟨A, c, rfl, _, hr⟩ := hr
  have HR := Lib.hid hr
  have HB := Lib.hid (fun j => getD_lt hb (by decide) j)
  have HTL : Hid (∀ j, topL (l.take j) < 18446744073709551616) := Lib.hid (fun j => topL_lt (fun x hx => hb x (List.mem_of_mem_take hx)) (by decide))
  clear hr hb
  go_enter Try.func79, Try.ntmps79
  go_wp2
  go_loop [3, 4] (fun v3 v4 => ∃ j t : Nat, j ≤ l.length ∧ v4 = .int .i64 j ∧ v3 = .int .u64 t ∧ Hid (t = topL (l.take j))) (fun v3 v4 => l.length - (intOf v4).toNat)
  case atStart => exact ⟨0, 0, Nat.zero_le _, rfl, rfl, Lib.hid rfl⟩
  case round =>
    obtain ⟨j, t, hj, rfl, rfl, HT⟩ := hrel
    by_cases hlt : j < l.length
    · obtain ⟨ad, rfl, hc1⟩ := u_cell HR.out j hlt
      have hx1 : ((l.getD j 0 : Nat) : Int) < 18446744073709551616 := by have := HB.out j; omega
      have HS : Hid (max t (l.getD j 0) = topL (l.take (j + 1))) := Lib.hid (by rw [topL_step hlt, HT.out])
      have ht1 : (t : Int) < 18446744073709551616 := by have := HTL.out j; rw [← HT.out] at this; omega
      generalize l.getD j 0 = x at hc1 hx1 HS
      go_wp2
      go_round
      case rel => exact ⟨j + 1, max t x, by omega, by go_num, int_eq (by omega), HS⟩
      case measure => (simp [intOf]) <;> omega
    · have HF : Hid (t = topL l) := Lib.hid (by
        have h := HT.out
        rwa [List.take_of_length_le (by omega)] at h)
      go_wp2
      go_ret
      exact ⟨ret_int (by rw [HF.out]), rfl⟩

set_option maxRecDepth 100000 in
set_option maxHeartbeats 1000000 in
theorem refCan_any (v : Value) (l : List Nat) (n : Nat) (w : World) (hr : RU .u64 w v l) (hn : n < 18446744073709551616) (hb : ∀ x ∈ l, x < 18446744073709551616) :
    Calls Try.prog 52 #[v, .int .u64 n] w fun e w' => e = .returned (.bool (canL l n)) ∧ w = w' := by
  have HH := Lib.hid (fun w hr => has_any v l n w hr hn hb)
  have HT := Lib.hid (fun w hr => top_any v l w hr hb)
  have HR := Lib.hid hr
  have hn1 : (n : Int) < 18446744073709551616 := by omega
  have ht1 : ((topL l : Nat) : Int) < 18446744073709551616 := by have := topL_lt hb (by decide); omega
  have HC : Hid (canL l n = (decide (n < 18446744073709543423) && !decide (n ∈ l) && (decide (topL l ≤ n) || decide (topL l - n ≤ 1984)))) := Lib.hid rfl
  clear hr hn hb
  generalize decide (n ∈ l) = d at HH HC
  generalize topL l = t at HT HC ht1
  by_cases hlim : (18446744073709543423 : Int) ≤ n
  · have HF : Hid (canL l n = false) := Lib.hid (by rw [HC.out, decide_eq_false (by omega)]; rfl)
    go_enter Try.func52, Try.ntmps52
    go_wp2_with fail
    go_ret
    rw [HF.out]
    exact ⟨rfl, rfl⟩
  cases d with
  | true =>
    have HF : Hid (canL l n = false) := Lib.hid (by rw [HC.out]; simp)
    go_enter Try.func52, Try.ntmps52
    go_wp2_with fail
    refine (HH.out _ HR.out).mono ?_
    rintro e w' ⟨rfl, rfl⟩
    go_wp2_with fail
    go_ret
    rw [HF.out]
    exact ⟨rfl, rfl⟩
  | false =>
    by_cases htn : (t : Int) ≤ n
    · have HF : Hid (canL l n = true) := Lib.hid (by rw [HC.out, decide_eq_true (show n < 18446744073709543423 by omega), decide_eq_true (show t ≤ n by omega)]; rfl)
      go_enter Try.func52, Try.ntmps52
      go_wp2_with fail
      refine (HH.out _ HR.out).mono ?_
      rintro e w' ⟨rfl, rfl⟩
      go_wp2_with fail
      refine (HT.out _ HR.out).mono ?_
      rintro e w' ⟨rfl, rfl⟩
      go_wp2_with fail
      go_ret
      rw [HF.out]
      exact ⟨rfl, rfl⟩
    · have hsub : IntKind.u64.wrap ((t : Int) - n) = (t : Int) - n := by rw [IntKind.wrap_u64]; omega
      clear ht1 hn1
      by_cases hd : (t : Int) - n ≤ 1984
      · have HF : Hid (canL l n = true) := Lib.hid (by rw [HC.out, decide_eq_true (show n < 18446744073709543423 by omega), decide_eq_true (show t - n ≤ 1984 by omega)]; simp)
        go_enter Try.func52, Try.ntmps52
        go_wp2_with fail
        refine (HH.out _ HR.out).mono ?_
        rintro e w' ⟨rfl, rfl⟩
        go_wp2_with fail
        refine (HT.out _ HR.out).mono ?_
        rintro e w' ⟨rfl, rfl⟩
        clear hlim
        go_wp2_with fail
        go_ret
        rw [HF.out]
        exact ⟨rfl, rfl⟩
      · have HF : Hid (canL l n = false) := Lib.hid (by rw [HC.out, decide_eq_false (show ¬ t ≤ n by omega), decide_eq_false (show ¬ t - n ≤ 1984 by omega)]; simp)
        go_enter Try.func52, Try.ntmps52
        go_wp2_with fail
        refine (HH.out _ HR.out).mono ?_
        rintro e w' ⟨rfl, rfl⟩
        go_wp2_with fail
        refine (HT.out _ HR.out).mono ?_
        rintro e w' ⟨rfl, rfl⟩
        clear hlim
        go_wp2_with fail
        go_ret
        rw [HF.out]
        exact ⟨ret_bool (by simp; omega), rfl⟩

/-! ### The walks of the statements -/
end Go.Proofs.Ytapncdgeigbgmaa.Rp
