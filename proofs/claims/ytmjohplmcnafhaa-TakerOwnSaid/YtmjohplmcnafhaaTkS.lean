/- One step of the statements of the taker. -/
import Derived.Test.YtmjohplmcnafhaaTkR
import Derived.Deep.RegionHeld3
set_option linter.unusedSimpArgs false
set_option linter.unusedVariables false
namespace Go.Proofs.Ytmjohplmcnafhaa.Tk
open Go.RowKit Go.Proofs.YtmjohplmcnafhaaW.PrintWords Go.Proofs.Ytmjohplmcnafhaa.Bs Go.Proofs.Ytmjohplmcnafhaa.Le

theorem size_push (w : World) (o : Obj) : (w.alloc o).heap.size = w.heap.size + 1 := by show (w.heap.push o).size = _; rw [Array.size_push]
theorem three_blocks {w w1 : World} {o1 o2 o3 : Obj} (hb : Below (((w.alloc o1).alloc o2).alloc o3).heap.size (((w.alloc o1).alloc o2).alloc o3) w1) :
    w1.heap[w.heap.size + 1]? = some o2 ∧ w1.heap[w.heap.size + 1 + 1]? = some o3 ∧ w.heap.size + 3 ≤ w1.heap.size ∧ Below w.heap.size w w1 := by
  have h3 := blk_new1 (w.alloc o1) o2 o3
  rw [size_push] at h3
  refine ⟨blk_below (blk_old (blk_new1 w o1 o2) o3) hb, blk_below h3 hb, ?_, below_comp (below_alloc (below_alloc (below_alloc (Below.refl _ _) _) _) _) hb⟩
  have := hb.size
  rw [size_push, size_push, size_push] at this
  exact this

theorem two_cells {w : World} {g : Nat} {T : TypeId} {x y : Value} (h : w.heap[g]? = some (.cells #[x, y] T (0, 0))) : w.cell? ⟨g, 0, none⟩ = some x ∧ w.cell? ⟨g, 1, none⟩ = some y :=
  ⟨(blk_cell h 0).trans rfl, (blk_cell h 1).trans rfl⟩
theorem two_cells1 {w : World} {g : Nat} {T : TypeId} {x y : Value} (h : w.heap[g]? = some (.cells #[x, y] T (0, 0))) : (∀ o, (w.alloc o).cell? ⟨g, 0, none⟩ = some x) ∧ ∀ o, (w.alloc o).cell? ⟨g, 1, none⟩ = some y :=
  ⟨fun o => (two_cells (blk_old h o)).1, fun o => (two_cells (blk_old h o)).2⟩
theorem three_cells {w : World} {g : Nat} {T : TypeId} {x y z : Value} (h : w.heap[g]? = some (.cells #[x, y, z] T (0, 0))) :
    w.cell? ⟨g, 0, none⟩ = some x ∧ w.cell? ⟨g, 1, none⟩ = some y ∧ w.cell? ⟨g, 2, none⟩ = some z ∧ w.frozen? ⟨g, 0, none⟩ = false ∧ w.frozen? ⟨g, 1, none⟩ = false ∧ w.frozen? ⟨g, 2, none⟩ = false :=
  ⟨(blk_cell h 0).trans rfl, (blk_cell h 1).trans rfl, (blk_cell h 2).trans rfl, blk_frozen h 0, blk_frozen h 1, blk_frozen h 2⟩

theorem grown_then {w w1 w2 : World} {r : Option Nat} (h : w.grownBy w1 r) (hb : Below w.heap.size w1 w2) : w.grownBy w2 r :=
  ⟨hb.os.trans h.os, hb.tape.trans h.tape, hb.output.trans h.output, Nat.le_trans h.size hb.size, fun i hi hne => (hb.block i hi).trans (h.block i hi hne)⟩

theorem RB.inside {w : World} {A : Option Addr} {n c : Nat} {l : List UInt8} (h : RB w (.slice A n c) l) : l = [] ∨ ∀ ad, A = some ad → ad.block < w.heap.size := by
  by_cases hl : l = []
  · exact .inl hl
  · right
    rintro ad rfl
    obtain ⟨A', c', e, _, hr⟩ := h
    injection e with e1 e2 e3
    subst e1
    obtain ⟨ad', e', hc⟩ := hr.2.2 (by cases l with | nil => exact absurd rfl hl | cons a l => simp)
    injection e' with e'
    subst e'
    have h0 := hc 0 (by cases l with | nil => exact absurd rfl hl | cons a l => simp)
    have := World.block_lt_of_cell? _ _ h0
    rwa [show (ad.add 0).block = ad.block by unfold Addr.add; split <;> rfl] at this
theorem RB.far {w w1 : World} {b n c : Nat} {A : Option Addr} {l : List UInt8} (h : RB w (.slice A n c) l) (hb : Below b w w1) (hA : l = [] ∨ ∀ ad, A = some ad → ad.block < b) : RB w1 (.slice A n c) l := by
  obtain ⟨A', c', e, hc, hr⟩ := h
  injection e with e1 e2 e3
  subst e1 e2 e3
  refine ⟨A, c, rfl, hc, hr.1, hr.2.1, fun hn => ?_⟩
  obtain ⟨ad, rfl, hcl⟩ := hr.2.2 hn
  have hlt : ad.block < b := by
    rcases hA with rfl | h
    · exact absurd hn (by simp)
    · exact h ad rfl
  refine ⟨ad, rfl, fun j hj => ?_⟩
  have hblk : (ad.add j).block = ad.block := by unfold Addr.add; split <;> rfl
  exact (hb.cell (by rw [hblk]; exact hlt)).trans (hcl j hj)

theorem Tk.rb {w : World} {g : Nat} {P : Option Addr} {q : Nat} {l : List UInt8} {k : Nat} {f : Int} (h : Tk w g P q l k f) : RB w (.slice P l.length q) l := by
  obtain ⟨_, hc, hr, _⟩ := h
  exact ⟨P, q, rfl, hc, hr⟩
theorem Tk.far {w w1 : World} {g b : Nat} {P : Option Addr} {q : Nat} {l : List UInt8} {k : Nat} {f : Int} (h : Tk w g P q l k f) (hb : Below b w w1) (hg : g < b) (hP : l = [] ∨ ∀ ad, P = some ad → ad.block < b) : Tk w1 g P q l k f := by
  obtain ⟨A', c', e, _, hr⟩ := RB.far h.rb hb hP
  injection e with e1 e2 e3
  subst e1
  obtain ⟨hbk, hc, _, hs, hk, hl⟩ := h
  exact ⟨(hb.block g hg).trans hbk, hc, hr, hs, hk, hl⟩

/-- What a step hands back. -/
def Stepped (w : World) (g : Nat) (P : Option Addr) (q : Nat) (A : Option Addr) (c : Nat) (l : List UInt8) (k : Nat) (f : Int) (e : Ending) (w' : World) : Prop :=
  e = .returned (.tuple #[.agg #[.slice A l.length c, .int .i64 k, .int .i64 f], .bool true]) ∧ Tk w' g P q l k f ∧ w.grownBy w' (some g)

set_option maxRecDepth 100000 in
set_option maxHeartbeats 2000000 in
theorem step_little (g : Nat) (P : Option Addr) (q : Nat) (A : Option Addr) (c : Nat) (l : List UInt8) (k : Nat) (f n : Int) (w : World) (h : Tk w g P q l k f) (hA : RB w (.slice A l.length c) l)
    (hn0 : -9223372036854775808 ≤ n) (hn1 : n ≤ 9223372036854775807) :
    Calls Try.prog 52 #[.pointer (some ⟨g, 0, none⟩), .agg #[.slice A l.length c, .int .i64 k, .int .i64 f], .agg #[.int .i64 0, .int .i64 n]] w (Stepped w g P q A c l (nextT l k f n (decide (1 ≤ n ∧ n ≤ 8))).1 (nextT l k f n (decide (1 ≤ n ∧ n ≤ 8))).2.1) := by
  have HT := Lib.hid h
  have HP := Lib.hid (RB.inside h.rb)
  have hg := h.lt
  have hk : k ≤ l.length := by obtain ⟨_, _, _, _, hk, _⟩ := h; exact hk
  have hl : l.length ≤ 1099511627776 := by obtain ⟨_, _, _, _, _, hl⟩ := h; exact hl
  have HA := Lib.hid hA
  obtain ⟨A', c', e, hc, hr⟩ := hA
  injection e with e1 e2 e3
  subst e1 e3
  have HQ := Lib.hid (fun w h => little_any g P q l k f n w h hn0 hn1)
  have HN := Lib.hid (fun w hr => number_any A c l k f n false w hk hl hc hr hn0 hn1)
  have HR := Lib.hid hr
  clear h hr e2
  generalize nextT l k f n (decide (1 ≤ n ∧ n ≤ 8)) = r at HQ HN ⊢
  go_enter Try.func52, Try.ntmps52
  go_wp2_with fail
  refine (HN.out _ (HR.out.below (below_alloc (below_alloc (below_alloc (Below.refl _ _) _) _) _))).mono ?_
  rintro e w1 ⟨rfl, hb⟩
  obtain ⟨hcb, hrs, hsz, hb1⟩ := three_blocks hb
  have HT1 := Lib.hid (HT.out.below hb1)
  have HCB := Lib.hid hcb
  have HRS := Lib.hid hrs
  have HB1 := Lib.hid hb1
  obtain ⟨cb0, cb1⟩ := two_cells hcb
  obtain ⟨cc0, cc1⟩ := two_cells1 hcb
  clear hcb hrs hb hb1
  rw [show ordered false r.2.2 = r.2.2 from rfl]
  go_wp2_with fail
  refine (HQ.out _ (HT1.out.below (below_alloc (Below.refl _ _) _))).mono ?_
  rintro e w2 ⟨rfl, ht, hgr⟩
  have HG := Lib.hid (World.grownBy.trans (grown_of_below (below_alloc HB1.out _) (some g)) hgr)
  have hrs2 := blk_grown (blk_old HRS.out _) hgr (fun e => by injection e with e; omega)
  have hns2 := blk_grown (blk_new w1 _) hgr (fun e => by injection e with e; omega)
  obtain ⟨d0, d1, d2, f0, f1, f2⟩ := three_cells hrs2
  obtain ⟨e0, e1, e2, _, _, _⟩ := three_cells hns2
  have HT2 := Lib.hid ht
  clear ht hgr hrs2 hns2 cb0 cb1 cc0 cc1
  go_wp2_with fail
  refine bodyPost_ret (by simp [results, Try.results52, go_sem, d0, d1, d2]; try rfl) rfl ?_
  have hb2 := ((Below.refl w.heap.size w2).setCell (p := ⟨w.heap.size + 1 + 1, 0, none⟩) (by show w.heap.size ≤ w.heap.size + 1 + 1; omega) (.slice A l.length c)).setCell (p := ⟨w.heap.size + 1 + 1, 1, none⟩) (by show w.heap.size ≤ w.heap.size + 1 + 1; omega) (.int .i64 r.1) |>.setCell (p := ⟨w.heap.size + 1 + 1, 2, none⟩) (by show w.heap.size ≤ w.heap.size + 1 + 1; omega) (.int .i64 r.2.1)
  exact ⟨rfl, HT2.out.far hb2 hg HP.out, grown_then HG.out hb2⟩

set_option maxRecDepth 100000 in
set_option maxHeartbeats 2000000 in
theorem step_big (g : Nat) (P : Option Addr) (q : Nat) (A : Option Addr) (c : Nat) (l : List UInt8) (k : Nat) (f n : Int) (w : World) (h : Tk w g P q l k f) (hA : RB w (.slice A l.length c) l)
    (hn0 : -9223372036854775808 ≤ n) (hn1 : n ≤ 9223372036854775807) :
    Calls Try.prog 52 #[.pointer (some ⟨g, 0, none⟩), .agg #[.slice A l.length c, .int .i64 k, .int .i64 f], .agg #[.int .i64 1, .int .i64 n]] w (Stepped w g P q A c l (nextT l k f n (decide (1 ≤ n ∧ n ≤ 8))).1 (nextT l k f n (decide (1 ≤ n ∧ n ≤ 8))).2.1) := by
  have HT := Lib.hid h
  have HP := Lib.hid (RB.inside h.rb)
  have hg := h.lt
  have hk : k ≤ l.length := by obtain ⟨_, _, _, _, hk, _⟩ := h; exact hk
  have hl : l.length ≤ 1099511627776 := by obtain ⟨_, _, _, _, _, hl⟩ := h; exact hl
  have HA := Lib.hid hA
  obtain ⟨A', c', e, hc, hr⟩ := hA
  injection e with e1 e2 e3
  subst e1 e3
  have HQ := Lib.hid (fun w h => big_any g P q l k f n w h hn0 hn1)
  have HN := Lib.hid (fun w hr => number_any A c l k f n true w hk hl hc hr hn0 hn1)
  have HR := Lib.hid hr
  clear h hr e2
  generalize nextT l k f n (decide (1 ≤ n ∧ n ≤ 8)) = r at HQ HN ⊢
  go_enter Try.func52, Try.ntmps52
  go_wp2_with fail
  refine (HN.out _ (HR.out.below (below_alloc (below_alloc (below_alloc (Below.refl _ _) _) _) _))).mono ?_
  rintro e w1 ⟨rfl, hb⟩
  obtain ⟨hcb, hrs, hsz, hb1⟩ := three_blocks hb
  have HT1 := Lib.hid (HT.out.below hb1)
  have HCB := Lib.hid hcb
  have HRS := Lib.hid hrs
  have HB1 := Lib.hid hb1
  obtain ⟨cb0, cb1⟩ := two_cells hcb
  obtain ⟨cc0, cc1⟩ := two_cells1 hcb
  clear hcb hrs hb hb1
  rw [show ordered true r.2.2 = r.2.2.reverse from rfl]
  go_wp2_with fail
  refine (HQ.out _ (HT1.out.below (below_alloc (Below.refl _ _) _))).mono ?_
  rintro e w2 ⟨rfl, ht, hgr⟩
  have HG := Lib.hid (World.grownBy.trans (grown_of_below (below_alloc HB1.out _) (some g)) hgr)
  have hrs2 := blk_grown (blk_old HRS.out _) hgr (fun e => by injection e with e; omega)
  have hns2 := blk_grown (blk_new w1 _) hgr (fun e => by injection e with e; omega)
  obtain ⟨d0, d1, d2, f0, f1, f2⟩ := three_cells hrs2
  obtain ⟨e0, e1, e2, _, _, _⟩ := three_cells hns2
  have HT2 := Lib.hid ht
  clear ht hgr hrs2 hns2 cb0 cb1 cc0 cc1
  go_wp2_with fail
  refine bodyPost_ret (by simp [results, Try.results52, go_sem, d0, d1, d2]; try rfl) rfl ?_
  have hb2 := ((Below.refl w.heap.size w2).setCell (p := ⟨w.heap.size + 1 + 1, 0, none⟩) (by show w.heap.size ≤ w.heap.size + 1 + 1; omega) (.slice A l.length c)).setCell (p := ⟨w.heap.size + 1 + 1, 1, none⟩) (by show w.heap.size ≤ w.heap.size + 1 + 1; omega) (.int .i64 r.1) |>.setCell (p := ⟨w.heap.size + 1 + 1, 2, none⟩) (by show w.heap.size ≤ w.heap.size + 1 + 1; omega) (.int .i64 r.2.1)
  exact ⟨rfl, HT2.out.far hb2 hg HP.out, grown_then HG.out hb2⟩


theorem refBytes_weak (A : Option Addr) (c : Nat) (l : List UInt8) (k : Nat) (f n : Int) (w : World) (hk : k ≤ l.length) (hl : l.length ≤ 1099511627776) (hc : l.length ≤ c) (hr : ReadsOf B 0 w A l.length l) (hn0 : -9223372036854775808 ≤ n) (hn1 : n ≤ 9223372036854775807) :
    Calls Try.prog 55 #[.agg #[.slice A l.length c, .int .i64 k, .int .i64 f], .int .i64 n] w fun e w' => ∃ A2 n2 c2, e = .returned (.tuple #[.agg #[.slice A l.length c, .int .i64 (nextT l k f n (decide (0 ≤ n))).1, .int .i64 (nextT l k f n (decide (0 ≤ n))).2.1], .slice A2 n2 c2]) ∧ Below w.heap.size w w' ∧ RB w' (.slice A2 n2 c2) (nextT l k f n (decide (0 ≤ n))).2.2 ∧ ((nextT l k f n (decide (0 ≤ n))).2.2 = [] ∨ ∀ n1 c1, (Value.slice A2 n2 c2).ownBlock = (Value.slice A n1 c1).ownBlock) := by
  refine (refBytes_any A c l k f n w hk hl hc hr hn0 hn1).mono ?_
  rintro e w' ⟨A2, n2, c2, o1, o2, o3, o4, rfl, rfl, hrb, hob⟩
  have hb := below_alloc (below_alloc (below_alloc (below_alloc (Below.refl w.heap.size w) o1) o2) o3) o4
  exact ⟨A2, n2, c2, rfl, hb, hrb.below hb, hob⟩

set_option maxRecDepth 100000 in
set_option maxHeartbeats 2000000 in
theorem step_bytes (g : Nat) (P : Option Addr) (q : Nat) (A : Option Addr) (c : Nat) (l : List UInt8) (k : Nat) (f n : Int) (w : World) (h : Tk w g P q l k f) (hA : RB w (.slice A l.length c) l) (hs : l = [] ∨ (Value.slice A l.length c).ownBlock ≠ some g)
    (hn0 : -9223372036854775808 ≤ n) (hn1 : n ≤ 9223372036854775807) :
    Calls Try.prog 52 #[.pointer (some ⟨g, 0, none⟩), .agg #[.slice A l.length c, .int .i64 k, .int .i64 f], .agg #[.int .i64 2, .int .i64 n]] w (Stepped w g P q A c l (nextT l k f n (decide (0 ≤ n))).1 (nextT l k f n (decide (0 ≤ n))).2.1) := by
  have HT := Lib.hid h
  have HP := Lib.hid (RB.inside h.rb)
  have hg := h.lt
  have hk : k ≤ l.length := by obtain ⟨_, _, _, _, hk, _⟩ := h; exact hk
  have hl : l.length ≤ 1099511627776 := by obtain ⟨_, _, _, _, _, hl⟩ := h; exact hl
  have HA := Lib.hid hA
  obtain ⟨A', c', e, hc, hr⟩ := hA
  injection e with e1 e2 e3
  subst e1 e3
  have HQ := Lib.hid (fun w h => bytes_any g P q l k f n w h hn0 hn1)
  have HN := Lib.hid (fun w hr => refBytes_weak A c l k f n w hk hl hc hr hn0 hn1)
  have HR := Lib.hid hr
  have hnil : l = [] → (nextT l k f n (decide (0 ≤ n))).2.2 = [] := fun h => by rw [h]; exact nextT_nil _ _ _ _
  clear h hr e2
  generalize nextT l k f n (decide (0 ≤ n)) = r at HQ HN hnil ⊢
  go_enter Try.func52, Try.ntmps52
  go_wp2_with fail
  refine (HN.out _ (HR.out.below (below_alloc (below_alloc (below_alloc (Below.refl _ _) _) _) _))).mono ?_
  rintro e w1 ⟨A2, n2, c2, rfl, hb, hrb, hob⟩
  obtain ⟨hcb, hrs, hsz, hb1⟩ := three_blocks hb
  have HT1 := Lib.hid (HT.out.below hb1)
  have HRB := Lib.hid hrb
  have HCB := Lib.hid hcb
  have HRS := Lib.hid hrs
  have HB1 := Lib.hid hb1
  obtain ⟨cb0, cb1⟩ := two_cells hcb
  obtain ⟨cc0, cc1⟩ := two_cells1 hcb
  have HX : Hid (r.2.2 = [] ∨ (Value.slice A2 n2 c2).ownBlock ≠ some g) := Lib.hid (by
    rcases hob with h | h
    · exact .inl h
    · rcases hs with h2 | h2
      · exact .inl (hnil h2)
      · right; rw [h l.length c]; exact h2)
  clear hcb hrs hb hb1 hrb hob hs hnil
  go_wp2_with fail
  have hne1 : ¬ w.heap.size + 1 + 1 = w1.heap.size := by omega
  have hne2 : ¬ w.heap.size + 2 = w1.heap.size := by omega
  go_region_held3 (fun w' => w'.cell? ⟨w.heap.size + 1, 1, none⟩ = some (.int .i64 n) ∧ w'.cell? ⟨w1.heap.size, 0, none⟩ = some (.slice A l.length c) ∧ w'.cell? ⟨w1.heap.size, 1, none⟩ = some (.int .i64 r.1) ∧ w'.cell? ⟨w1.heap.size, 2, none⟩ = some (.int .i64 r.2.1)) (go_keep)
    (first
      | (go_at_call 38
         refine (HQ.out _ ?_).mono ?_
         · exact HT1.out.below (below_drew (below_alloc (Below.refl _ _) _))
         rintro e w2 ⟨v, rfl, ho, ht, hgr⟩
         have hcb2 := blk_grown (show ((w1.alloc _).drew).heap[w.heap.size + 1]? = some _ from blk_old HCB.out _) hgr (fun e => by injection e with e; omega)
         have hrs2 := blk_grown (show ((w1.alloc _).drew).heap[w.heap.size + 1 + 1]? = some _ from blk_old HRS.out _) hgr (fun e => by injection e with e; omega)
         have hns2 := blk_grown (show ((w1.alloc _).drew).heap[w1.heap.size]? = some _ from blk_new w1 _) hgr (fun e => by injection e with e; omega)
         have HG := Lib.hid (World.grownBy.trans (grown_of_below (below_drew (below_alloc HB1.out _)) (some g)) hgr)
         have HV := Lib.hid ho.rb
         have HY := Lib.hid (RB.grown (HRB.out.below (below_drew (below_alloc (Below.refl _ _) _))) hgr HX.out)
         have HT2 := Lib.hid ht
         have HCB2 := Lib.hid hcb2
         have HRS2 := Lib.hid hrs2
         have HNS2 := Lib.hid hns2
         obtain ⟨_, b1⟩ := two_cells hcb2
         obtain ⟨e0, e1, e2, _, _, _⟩ := three_cells hns2
         clear ho ht hgr hcb2 hrs2 hns2)
      | (go_at_call 31
         refine (En.same_any _ _ r.2.2 r.2.2 _ HV.out HY.out).mono ?_
         rintro e w3 ⟨rfl, hb3⟩
         have hrs3 := blk_below HRS2.out hb3
         have hns3 := blk_below HNS2.out hb3
         have hcb3 := blk_below HCB2.out hb3
         obtain ⟨_, b1'⟩ := two_cells hcb3
         obtain ⟨d0, d1, d2, f0, f1, f2⟩ := three_cells hrs3
         obtain ⟨e0', e1', e2', _, _, _⟩ := three_cells hns3
         have HG3 := Lib.hid (World.grownBy.trans HG.out (grown_of_below hb3 _))
         have HT3 := Lib.hid (HT2.out.below hb3)
         rw [show decide (r.2.2 = r.2.2) = true from decide_eq_true rfl]
         clear hb3 hrs3 hns3 hcb3))
  go_wp2
  refine bodyPost_ret (by simp [results, Try.results52, go_sem, d0, d1, d2]; try rfl) rfl ?_
  have hb2 := ((Below.refl w.heap.size w3).setCell (p := ⟨w.heap.size + 1 + 1, 0, none⟩) (by show w.heap.size ≤ w.heap.size + 1 + 1; omega) (.slice A l.length c)).setCell (p := ⟨w.heap.size + 1 + 1, 1, none⟩) (by show w.heap.size ≤ w.heap.size + 1 + 1; omega) (.int .i64 r.1) |>.setCell (p := ⟨w.heap.size + 1 + 1, 2, none⟩) (by show w.heap.size ≤ w.heap.size + 1 + 1; omega) (.int .i64 r.2.1)
  exact ⟨rfl, HT3.out.far hb2 hg HP.out, grown_then HG3.out hb2⟩

set_option maxRecDepth 100000 in
set_option maxHeartbeats 2000000 in
theorem step_zeros (g : Nat) (P : Option Addr) (q : Nat) (A : Option Addr) (c : Nat) (l : List UInt8) (k : Nat) (f n d : Int) (w : World) (h : Tk w g P q l k f) (hA : RB w (.slice A l.length c) l)
    (hn0 : -9223372036854775808 ≤ n) (hn1 : n ≤ 9223372036854775807) (hd0 : -9223372036854775808 ≤ d) (hd1 : d ≤ 9223372036854775807) (h0 : ¬ d = 0) (h1 : ¬ d = 1) (h2 : ¬ d = 2) :
    Calls Try.prog 52 #[.pointer (some ⟨g, 0, none⟩), .agg #[.slice A l.length c, .int .i64 k, .int .i64 f], .agg #[.int .i64 d, .int .i64 n]] w (Stepped w g P q A c l (zerosT l k f n).1 (zerosT l k f n).2.1) := by
  have HT := Lib.hid h
  have HP := Lib.hid (RB.inside h.rb)
  have hg := h.lt
  have hk : k ≤ l.length := by obtain ⟨_, _, _, _, hk, _⟩ := h; exact hk
  have hl : l.length ≤ 1099511627776 := by obtain ⟨_, _, _, _, _, hl⟩ := h; exact hl
  have HA := Lib.hid hA
  obtain ⟨A', c', e, hc, hr⟩ := hA
  injection e with e1 e2 e3
  subst e1 e3
  have HQ := Lib.hid (fun w h => zeros_any g P q l k f n w h hn0 hn1)
  have HN := Lib.hid (fun w hr => refZeros_any A c l k f n w hk hl hc hr hn0 hn1)
  have HR := Lib.hid hr
  clear h hr e2
  have hq0 : (d == 0) = false := beq_false_of_ne h0
  have hq1 : (d == 1) = false := beq_false_of_ne h1
  have hq2 : (d == 2) = false := beq_false_of_ne h2
  clear h0 h1 h2
  generalize zerosT l k f n = r at HQ HN ⊢
  go_enter Try.func52, Try.ntmps52
  go_wp2_with fail
  refine (HN.out _ (HR.out.below (below_alloc (below_alloc (below_alloc (Below.refl _ _) _) _) _))).mono ?_
  rintro e w1 ⟨rfl, hb⟩
  obtain ⟨hcb, hrs, hsz, hb1⟩ := three_blocks hb
  have HT1 := Lib.hid (HT.out.below hb1)
  have HCB := Lib.hid hcb
  have HRS := Lib.hid hrs
  have HB1 := Lib.hid hb1
  obtain ⟨cb0, cb1⟩ := two_cells hcb
  obtain ⟨cc0, cc1⟩ := two_cells1 hcb
  clear hcb hrs hb hb1
  go_wp2_with fail
  have hne1 : ¬ w.heap.size + 1 + 1 = w1.heap.size := by omega
  have hne2 : ¬ w.heap.size + 2 = w1.heap.size := by omega
  go_region_held3 (fun w' => w'.cell? ⟨w.heap.size + 1, 1, none⟩ = some (.int .i64 n) ∧ w'.cell? ⟨w1.heap.size, 0, none⟩ = some (.slice A l.length c) ∧ w'.cell? ⟨w1.heap.size, 1, none⟩ = some (.int .i64 r.1) ∧ w'.cell? ⟨w1.heap.size, 2, none⟩ = some (.int .i64 r.2.1)) (go_keep)
    (first
      | (go_at_call 44
         refine (HQ.out _ ?_).mono ?_
         · exact HT1.out.below (below_drew (below_alloc (Below.refl _ _) _))
         rintro e w2 ⟨rfl, ht, hgr⟩
         have hcb2 := blk_grown (show ((w1.alloc _).drew).heap[w.heap.size + 1]? = some _ from blk_old HCB.out _) hgr (fun e => by injection e with e; omega)
         have hrs2 := blk_grown (show ((w1.alloc _).drew).heap[w.heap.size + 1 + 1]? = some _ from blk_old HRS.out _) hgr (fun e => by injection e with e; omega)
         have hns2 := blk_grown (show ((w1.alloc _).drew).heap[w1.heap.size]? = some _ from blk_new w1 _) hgr (fun e => by injection e with e; omega)
         have HG := Lib.hid (World.grownBy.trans (grown_of_below (below_drew (below_alloc HB1.out _)) (some g)) hgr)
         have HT2 := Lib.hid ht
         obtain ⟨_, b1⟩ := two_cells hcb2
         obtain ⟨e0, e1, e2, _, _, _⟩ := three_cells hns2
         obtain ⟨d0, d1, d2, f0, f1, f2⟩ := three_cells hrs2
         clear ht hgr hcb2 hrs2 hns2))
  go_wp2
  refine bodyPost_ret (by simp [results, Try.results52, go_sem, d0, d1, d2]; try rfl) rfl ?_
  have hb2 := ((Below.refl w.heap.size w2).setCell (p := ⟨w.heap.size + 1 + 1, 0, none⟩) (by show w.heap.size ≤ w.heap.size + 1 + 1; omega) (.slice A l.length c)).setCell (p := ⟨w.heap.size + 1 + 1, 1, none⟩) (by show w.heap.size ≤ w.heap.size + 1 + 1; omega) (.int .i64 r.1) |>.setCell (p := ⟨w.heap.size + 1 + 1, 2, none⟩) (by show w.heap.size ≤ w.heap.size + 1 + 1; omega) (.int .i64 r.2.1)
  exact ⟨rfl, HT2.out.far hb2 hg HP.out, grown_then HG.out hb2⟩

/-- The pure step: how many were taken, what failed. -/
def stepT (l : List UInt8) (k : Nat) (f d n : Int) : Nat × Int :=
  if d = 0 ∨ d = 1 then ((nextT l k f n (decide (1 ≤ n ∧ n ≤ 8))).1, (nextT l k f n (decide (1 ≤ n ∧ n ≤ 8))).2.1)
  else if d = 2 then ((nextT l k f n (decide (0 ≤ n))).1, (nextT l k f n (decide (0 ≤ n))).2.1)
  else ((zerosT l k f n).1, (zerosT l k f n).2.1)

theorem step_any (g : Nat) (P : Option Addr) (q : Nat) (A : Option Addr) (c : Nat) (l : List UInt8) (k : Nat) (f n d : Int) (w : World) (h : Tk w g P q l k f) (hA : RB w (.slice A l.length c) l) (hs : l = [] ∨ (Value.slice A l.length c).ownBlock ≠ some g)
    (hn0 : -9223372036854775808 ≤ n) (hn1 : n ≤ 9223372036854775807) (hd0 : -9223372036854775808 ≤ d) (hd1 : d ≤ 9223372036854775807) :
    Calls Try.prog 52 #[.pointer (some ⟨g, 0, none⟩), .agg #[.slice A l.length c, .int .i64 k, .int .i64 f], .agg #[.int .i64 d, .int .i64 n]] w (Stepped w g P q A c l (stepT l k f d n).1 (stepT l k f d n).2) := by
  unfold stepT
  by_cases h0 : d = 0
  · subst h0
    rw [if_pos (.inl rfl)]
    exact step_little g P q A c l k f n w h hA hn0 hn1
  · by_cases h1 : d = 1
    · subst h1
      rw [if_pos (.inr rfl)]
      exact step_big g P q A c l k f n w h hA hn0 hn1
    · rw [if_neg (by omega)]
      by_cases h2 : d = 2
      · subst h2
        rw [if_pos rfl]
        exact step_bytes g P q A c l k f n w h hA hs hn0 hn1
      · rw [if_neg h2]
        exact step_zeros g P q A c l k f n d w h hA hn0 hn1 hd0 hd1 h0 h1 h2

end Go.Proofs.Ytmjohplmcnafhaa.Tk
