/- The reference of the taker, and the chapter's example. -/
import Derived.Test.YtmjohplmcnafhaaTk
import Derived.Deep.RegionWith
set_option linter.unusedSimpArgs false
set_option linter.unusedVariables false
namespace Go.Proofs.Ytmjohplmcnafhaa.Tk
open Go.RowKit Go.Proofs.YtmjohplmcnafhaaW.PrintWords Go.Proofs.Ytmjohplmcnafhaa.Bs Go.Proofs.Ytmjohplmcnafhaa.Le

theorem nextT_nil (k : Nat) (f n : Int) (r : Bool) : (nextT [] k f n r).2.2 = [] := by
  unfold nextT
  split
  · rfl
  · split
    · rfl
    · split
      · rfl
      · simp

theorem blk_old {w : World} {g : Nat} {o : Obj} (h : w.heap[g]? = some o) (o' : Obj) : (w.alloc o').heap[g]? = some o := blk_below h (below_alloc (Below.refl _ _) _)
theorem blk_new1 (w : World) (o1 o2 : Obj) : ((w.alloc o1).alloc o2).heap[w.heap.size + 1]? = some o2 := by
  have h := blk_new (w.alloc o1) o2
  rwa [show (w.alloc o1).heap.size = w.heap.size + 1 by show (w.heap.push o1).size = _; rw [Array.size_push]] at h

theorem nextT_at (l : List UInt8) (k : Nat) (f n : Int) (r : Bool) (hk : k ≤ l.length) (hr : r = true → 0 ≤ n) : (nextT l k f n r).1 ≤ l.length := by
  unfold nextT
  split
  · exact hk
  · split
    · exact hk
    · split
      · exact hk
      · have := hr (by cases r <;> simp_all)
        simp only; omega
theorem nextT_bad (l : List UInt8) (k : Nat) (f n : Int) (r : Bool) (h : (nextT l k f n r).2.1 ≠ 0) : (nextT l k f n r).1 = k ∧ (nextT l k f n r).2.2 = [] := by
  unfold nextT at h ⊢
  by_cases h1 : f ≠ 0
  · rw [if_pos h1]; exact ⟨rfl, rfl⟩
  · rw [if_neg h1] at h ⊢
    by_cases h2 : r = false
    · rw [if_pos h2]; exact ⟨rfl, rfl⟩
    · rw [if_neg h2] at h ⊢
      by_cases h3 : (l.length : Int) - k < n
      · rw [if_pos h3]; exact ⟨rfl, rfl⟩
      · rw [if_neg h3] at h; exact absurd rfl h
theorem nextT_not (l : List UInt8) (k : Nat) (f n : Int) : (nextT l k f n false).2.1 ≠ 0 := by
  unfold nextT
  by_cases h1 : f ≠ 0
  · rw [if_pos h1]; exact h1
  · rw [if_neg h1, if_pos rfl]; simp
theorem nextT_good (l : List UInt8) (k : Nat) (f n : Int) (r : Bool) (hr : r = true → 0 ≤ n) (h : (nextT l k f n r).2.1 = 0) :
    ∃ m : Nat, n = m ∧ k + m ≤ l.length ∨ l.length < k := by
  unfold nextT at h
  by_cases h1 : f ≠ 0
  · rw [if_pos h1] at h; exact absurd h h1
  · rw [if_neg h1] at h
    by_cases h2 : r = false
    · rw [if_pos h2] at h; exact absurd h (by simp)
    · rw [if_neg h2] at h
      by_cases h3 : (l.length : Int) - k < n
      · rw [if_pos h3] at h; exact absurd h (by simp)
      · have := hr (by cases r <;> simp_all)
        by_cases h4 : l.length < k
        · exact ⟨0, .inr h4⟩
        · exact ⟨n.toNat, .inl ⟨by omega, by omega⟩⟩
theorem nextT_take (l : List UInt8) (k m : Nat) (f : Int) (r : Bool) (h : (nextT l k f m r).2.1 = 0) :
    (nextT l k f m r).1 = k + m ∧ (nextT l k f m r).2.2 = (l.drop k).take m := by
  unfold nextT at h ⊢
  by_cases h1 : f ≠ 0
  · rw [if_pos h1] at h; exact absurd h h1
  · rw [if_neg h1] at h ⊢
    by_cases h2 : r = false
    · rw [if_pos h2] at h; exact absurd h (by simp)
    · rw [if_neg h2] at h ⊢
      by_cases h3 : (l.length : Int) - k < (m : Int)
      · rw [if_pos h3] at h; exact absurd h (by simp)
      · rw [if_neg h3]; exact ⟨rfl, rfl⟩

set_option maxRecDepth 100000 in
set_option maxHeartbeats 1000000 in
theorem can_any (A : Option Addr) (c : Nat) (l : List UInt8) (k : Nat) (f n : Int) (r : Bool) (w : World) (hk : k ≤ l.length) (hl : l.length ≤ 1099511627776) :
    Calls Try.prog 57 #[.agg #[.slice A l.length c, .int .i64 k, .int .i64 f], .int .i64 n, .bool r] w fun e w' =>
      e = .returned (.agg #[.slice A l.length c, .int .i64 k, .int .i64 (nextT l k f n r).2.1]) ∧ ∃ o1 o2, w' = (w.alloc o1).alloc o2 := by
  by_cases hz : f = 0
  · subst hz
    cases r with
    | false =>
      have HF : Hid ((nextT l k 0 n false).2.1 = 1) := Lib.hid (by simp [nextT])
      go_enter Try.func57, Try.ntmps57
      go_wp2
      refine bodyPost_ret (by simp [results, Try.results57, go_sem]; try rfl) rfl ?_
      rw [HF.out]
      exact ⟨rfl, _, _, rfl⟩
    | true =>
      by_cases hn : (l.length : Int) - k < n
      · have HF : Hid ((nextT l k 0 n true).2.1 = 3) := Lib.hid (by simp [nextT, hn])
        go_enter Try.func57, Try.ntmps57
        go_wp2
        refine bodyPost_ret (by simp [results, Try.results57, go_sem]; try rfl) rfl ?_
        rw [HF.out]
        exact ⟨rfl, _, _, rfl⟩
      · have HF : Hid ((nextT l k 0 n true).2.1 = 0) := Lib.hid (by simp [nextT, hn])
        go_enter Try.func57, Try.ntmps57
        go_wp2
        refine bodyPost_ret (by simp [results, Try.results57, go_sem]; try rfl) rfl ?_
        rw [HF.out]
        exact ⟨rfl, _, _, rfl⟩
  · have HF : Hid ((nextT l k f n r).2.1 = f) := Lib.hid (by simp [nextT, hz])
    have hf : (f != 0) = true := bne_iff_ne.2 hz
    go_enter Try.func57, Try.ntmps57
    go_wp2
    clear hz
    go_wp2
    refine bodyPost_ret (by simp [results, Try.results57, go_sem]; try rfl) rfl ?_
    rw [HF.out]
    exact ⟨rfl, _, _, rfl⟩

/-- The bytes in the order that a number is read in. -/
def ordered (big : Bool) (l : List UInt8) : List UInt8 := if big = true then l.reverse else l

def Numbered (w : World) (A : Option Addr) (c : Nat) (l : List UInt8) (r : Nat × Int × List UInt8) (big : Bool) (e : Ending) (w' : World) : Prop :=
  e = .returned (.tuple #[.agg #[.slice A l.length c, .int .i64 r.1, .int .i64 r.2.1], .int .u64 (ofLe (ordered big r.2.2))]) ∧ Below w.heap.size w w'

set_option maxRecDepth 100000 in
set_option maxHeartbeats 2000000 in
theorem number_any (A : Option Addr) (c : Nat) (l : List UInt8) (k : Nat) (f n : Int) (big : Bool) (w : World) (hk : k ≤ l.length) (hl : l.length ≤ 1099511627776) (hc : l.length ≤ c) (hr : ReadsOf B 0 w A l.length l) (hn0 : -9223372036854775808 ≤ n) (hn1 : n ≤ 9223372036854775807) :
    Calls Try.prog 54 #[.agg #[.slice A l.length c, .int .i64 k, .int .i64 f], .int .i64 n, .bool big] w (Numbered w A c l (nextT l k f n (decide (1 ≤ n ∧ n ≤ 8))) big) := by
  have HR := Lib.hid hr
  clear hr
  by_cases h1 : 1 ≤ n
  · by_cases h8 : n ≤ 8
    · rw [decide_eq_true (show 1 ≤ n ∧ n ≤ 8 from ⟨h1, h8⟩)]
      by_cases hz : (nextT l k f n true).2.1 = 0
      · obtain ⟨m, h⟩ := nextT_good l k f n true (fun _ => by omega) hz
        obtain ⟨rfl, hkm⟩ : n = m ∧ k + m ≤ l.length := by omega
        obtain ⟨e1, e2⟩ := nextT_take l k m f true hz
        have hm8 : m ≤ 8 := by omega
        obtain ⟨A', hsl, hrs, hob⟩ := mid2 A c l k m hkm hc
        have HS : Hid (∀ w1, Below w.heap.size w w1 → RB w1 (.slice A' m (c - k)) ((l.drop k).take m)) := Lib.hid (fun w1 hb => by
          have hlen : ((l.drop k).take m).length = m := by simp only [List.length_take, List.length_drop]; omega
          exact ⟨A', c - k, by rw [hlen], by rw [hlen]; omega, by rw [hlen]; exact hrs w1 (HR.out.below hb)⟩)
        have HE : Hid (Numbered w A c l (nextT l k f m true) big = Numbered w A c l (k + m, 0, (l.drop k).take m) big) := Lib.hid (by
          have : nextT l k f m true = (k + m, 0, (l.drop k).take m) := Prod.ext e1 (Prod.ext hz e2)
          rw [this])
        have HZ := Lib.hid hz
        have hlm : ((l.drop k).take m).length = m := by simp only [List.length_take, List.length_drop]; omega
        generalize (l.drop k).take m = L at HS HE hlm
        clear e1 e2 hz hrs h hob
        rw [HE.out]
        cases big with
        | true =>
          go_enter Try.func54, Try.ntmps54
          go_wp2_with fail
          refine (can_any A c l k f m true _ hk hl).mono ?_
          rintro e w1 ⟨rfl, o1, o2, rfl⟩
          rw [HZ.out]
          go_wp2_with fail
          have hbx := blk_old (blk_old (blk_old (blk_new w (Obj.cells #[Value.slice A l.length c, Value.int IntKind.i64 ((k : Int) + m), Value.int IntKind.i64 0] 78)) (Obj.cells #[Value.slice none 0 0, Value.int IntKind.i64 0, Value.int IntKind.i64 0] 78)) o1) o2
          have hrx := blk_old (blk_old (blk_new1 w (Obj.cells #[Value.slice A l.length c, Value.int IntKind.i64 ((k : Int) + m), Value.int IntKind.i64 0] 78) (Obj.cells #[Value.slice none 0 0, Value.int IntKind.i64 0, Value.int IntKind.i64 0] 78)) o1) o2
          refine (En.reversed_any _ L _ (HS.out _ ?_) (by omega)).mono ?_
          · exact below_alloc (below_alloc (below_alloc (below_alloc (Below.refl _ _) _) _) _) _
          rintro e w2 ⟨v, rfl, ho, hb2⟩
          have hbx2 := blk_below hbx hb2
          have hrx2 := blk_below hrx hb2
          have HB2 := Lib.hid (below_comp (below_alloc (below_alloc (below_alloc (below_alloc (Below.refl _ _) _) _) _) _) hb2)
          have HO2 := Lib.hid ho.rb
          have c0 := (blk_cell hbx2 0).trans rfl
          have c1 := (blk_cell hbx2 1).trans rfl
          have c2 := (blk_cell hbx2 2).trans rfl
          have d0 := (blk_cell hrx2 0).trans rfl
          have d1 := (blk_cell hrx2 1).trans rfl
          have d2 := (blk_cell hrx2 2).trans rfl
          have f0 := (blk_frozen hrx2 0)
          have f1 := (blk_frozen hrx2 1)
          have f2 := (blk_frozen hrx2 2)
          clear hbx hrx hb2 ho
          obtain ⟨A3, c3, rfl, _, _⟩ := HO2.out
          rw [List.length_reverse, hlm] at HO2
          rw [List.length_reverse, hlm]
          go_wp2_with fail
          go_region_with (go_at_call 35; refine (En.get_any _ L.reverse _ (HO2.out.below (below_drew (Below.refl _ _))) ?_).mono ?_; (rw [List.length_reverse]; omega); rintro e w' ⟨rfl, rfl⟩)
          all_goals
            go_wp2
            refine bodyPost_ret (by simp [results, Try.results54, go_sem, d0, d1, d2]; try rfl) rfl ?_
            exact ⟨rfl, below_drew (((HB2.out.setCell (p := ⟨w.heap.size + 1, 0, none⟩) (Nat.le_succ _) _).setCell (p := ⟨w.heap.size + 1, 1, none⟩) (Nat.le_succ _) _).setCell (p := ⟨w.heap.size + 1, 2, none⟩) (Nat.le_succ _) _)⟩
        | false =>
          go_enter Try.func54, Try.ntmps54
          go_wp2_with fail
          refine (can_any A c l k f m true _ hk hl).mono ?_
          rintro e w1 ⟨rfl, o1, o2, rfl⟩
          rw [HZ.out]
          go_wp2_with fail
          go_region_with (go_at_call 35; refine (En.get_any _ L _ (HS.out _ ?_) ?_).mono ?_; exact below_drew (below_alloc (below_alloc (below_alloc (below_alloc (Below.refl _ _) _) _) _) _); omega; rintro e w' ⟨rfl, rfl⟩)
          all_goals
            go_wp2
            refine bodyPost_ret (by simp [results, Try.results54, go_sem]; try rfl) rfl ?_
            exact ⟨rfl, below_drew (below_alloc (below_alloc (below_alloc (below_alloc (Below.refl _ _) _) _) _) _)⟩
      · obtain ⟨e1, e2⟩ := nextT_bad l k f n true hz
        have hz2 : ((nextT l k f n true).2.1 != 0) = true := bne_iff_ne.2 hz
        have HE : Hid (Numbered w A c l (nextT l k f n true) big = Numbered w A c l (k, (nextT l k f n true).2.1, []) big) := Lib.hid (by
          have : nextT l k f n true = (k, (nextT l k f n true).2.1, []) := Prod.ext e1 (Prod.ext rfl e2)
          rw [← this])
        rw [HE.out]
        have hq := can_any A c l k f n true
        have HB : Hid (ofLe (ordered big []) = 0) := Lib.hid (by cases big <;> rfl)
        generalize (nextT l k f n true).2.1 = x at hz hz2 hq
        have HQ := Lib.hid hq
        clear e1 e2 hz hq
        go_enter Try.func54, Try.ntmps54
        go_wp2_with fail
        refine (HQ.out _ hk hl).mono ?_
        rintro e w1 ⟨rfl, o1, o2, rfl⟩
        go_wp2_with fail
        refine bodyPost_ret (by simp [results, Try.results54, go_sem]; try rfl) rfl ?_
        unfold Numbered
        rw [HB.out]
        exact ⟨rfl, below_alloc (below_alloc (below_alloc (below_alloc (Below.refl _ _) _) _) _) _⟩
    · rw [decide_eq_false (show ¬ (1 ≤ n ∧ n ≤ 8) by omega)]
      have hz := nextT_not l k f n
      obtain ⟨e1, e2⟩ := nextT_bad l k f n false hz
      have hz2 : ((nextT l k f n false).2.1 != 0) = true := bne_iff_ne.2 hz
      have HE : Hid (Numbered w A c l (nextT l k f n false) big = Numbered w A c l (k, (nextT l k f n false).2.1, []) big) := Lib.hid (by
        have : nextT l k f n false = (k, (nextT l k f n false).2.1, []) := Prod.ext e1 (Prod.ext rfl e2)
        rw [← this])
      rw [HE.out]
      have hq := can_any A c l k f n false
      have HB : Hid (ofLe (ordered big []) = 0) := Lib.hid (by cases big <;> rfl)
      generalize (nextT l k f n false).2.1 = x at hz hz2 hq
      have HQ := Lib.hid hq
      clear e1 e2 hz hq
      go_enter Try.func54, Try.ntmps54
      go_wp2_with fail
      refine (HQ.out _ hk hl).mono ?_
      rintro e w1 ⟨rfl, o1, o2, rfl⟩
      go_wp2_with fail
      refine bodyPost_ret (by simp [results, Try.results54, go_sem]; try rfl) rfl ?_
      unfold Numbered
      rw [HB.out]
      exact ⟨rfl, below_alloc (below_alloc (below_alloc (below_alloc (Below.refl _ _) _) _) _) _⟩
  · rw [decide_eq_false (show ¬ (1 ≤ n ∧ n ≤ 8) by omega)]
    have hz := nextT_not l k f n
    obtain ⟨e1, e2⟩ := nextT_bad l k f n false hz
    have hz2 : ((nextT l k f n false).2.1 != 0) = true := bne_iff_ne.2 hz
    have HE : Hid (Numbered w A c l (nextT l k f n false) big = Numbered w A c l (k, (nextT l k f n false).2.1, []) big) := Lib.hid (by
      have : nextT l k f n false = (k, (nextT l k f n false).2.1, []) := Prod.ext e1 (Prod.ext rfl e2)
      rw [← this])
    rw [HE.out]
    have hq := can_any A c l k f n false
    have HB : Hid (ofLe (ordered big []) = 0) := Lib.hid (by cases big <;> rfl)
    generalize (nextT l k f n false).2.1 = x at hz hz2 hq
    have HQ := Lib.hid hq
    clear e1 e2 hz hq
    go_enter Try.func54, Try.ntmps54
    go_wp2_with fail
    refine (HQ.out _ hk hl).mono ?_
    rintro e w1 ⟨rfl, o1, o2, rfl⟩
    go_wp2_with fail
    refine bodyPost_ret (by simp [results, Try.results54, go_sem]; try rfl) rfl ?_
    unfold Numbered
    rw [HB.out]
    exact ⟨rfl, below_alloc (below_alloc (below_alloc (below_alloc (Below.refl _ _) _) _) _) _⟩

/-- What the reference's Bytes hands back. -/
def Byted (w : World) (A : Option Addr) (c : Nat) (l : List UInt8) (r : Nat × Int × List UInt8) (e : Ending) (w' : World) : Prop :=
  ∃ A2 n2 c2 o1 o2 o3 o4, e = .returned (.tuple #[.agg #[.slice A l.length c, .int .i64 r.1, .int .i64 r.2.1], .slice A2 n2 c2]) ∧ w' = (((w.alloc o1).alloc o2).alloc o3).alloc o4 ∧ RB w (.slice A2 n2 c2) r.2.2 ∧ (r.2.2 = [] ∨ ∀ n1 c1, (Value.slice A2 n2 c2).ownBlock = (Value.slice A n1 c1).ownBlock)

set_option maxRecDepth 100000 in
set_option maxHeartbeats 2000000 in
theorem refBytes_any (A : Option Addr) (c : Nat) (l : List UInt8) (k : Nat) (f n : Int) (w : World) (hk : k ≤ l.length) (hl : l.length ≤ 1099511627776) (hc : l.length ≤ c) (hr : ReadsOf B 0 w A l.length l) (hn0 : -9223372036854775808 ≤ n) (hn1 : n ≤ 9223372036854775807) :
    Calls Try.prog 55 #[.agg #[.slice A l.length c, .int .i64 k, .int .i64 f], .int .i64 n] w (Byted w A c l (nextT l k f n (decide (0 ≤ n)))) := by
  have HR := Lib.hid hr
  clear hr
  by_cases hz : (nextT l k f n (decide (0 ≤ n))).2.1 = 0
  · have h0 : 0 ≤ n := by
      by_cases h : 0 ≤ n
      · exact h
      · rw [decide_eq_false h] at hz; exact absurd hz (nextT_not l k f n)
    rw [decide_eq_true h0] at hz ⊢
    obtain ⟨m, h⟩ := nextT_good l k f n true (fun _ => h0) hz
    obtain ⟨rfl, hkm⟩ : n = m ∧ k + m ≤ l.length := by omega
    obtain ⟨e1, e2⟩ := nextT_take l k m f true hz
    obtain ⟨A', hsl, hrs, hob⟩ := mid2 A c l k m hkm hc
    have HS : Hid (RB w (.slice A' m (c - k)) ((l.drop k).take m)) := Lib.hid (by
      have hlen : ((l.drop k).take m).length = m := by simp only [List.length_take, List.length_drop]; omega
      exact ⟨A', c - k, by rw [hlen], by rw [hlen]; omega, by rw [hlen]; exact hrs w HR.out⟩)
    have HE : Hid (Byted w A c l (nextT l k f m true) = Byted w A c l (k + m, 0, (l.drop k).take m)) := Lib.hid (by
      have : nextT l k f m true = (k + m, 0, (l.drop k).take m) := Prod.ext e1 (Prod.ext hz e2)
      rw [this])
    have HOB : Hid (∀ n1 c1, (Value.slice A' m (c - k)).ownBlock = (Value.slice A n1 c1).ownBlock) := Lib.hid (fun n1 c1 => hob _ _ _ _)
    have HZ := Lib.hid hz
    generalize (l.drop k).take m = L at HS HE
    clear e1 e2 hz hrs h hob
    rw [HE.out]
    go_enter Try.func55, Try.ntmps55
    go_wp2_with fail
    refine (can_any A c l k f m true _ hk hl).mono ?_
    rintro e w1 ⟨rfl, o1, o2, rfl⟩
    rw [HZ.out]
    go_wp2_with fail
    refine bodyPost_ret (by simp [results, Try.results55, go_sem]; try rfl) rfl ?_
    exact ⟨_, _, _, _, _, _, _, rfl, rfl, HS.out, .inr (HOB.out)⟩
  · obtain ⟨e1, e2⟩ := nextT_bad l k f n _ hz
    have hz2 : ((nextT l k f n (decide (0 ≤ n))).2.1 != 0) = true := bne_iff_ne.2 hz
    have HE : Hid (Byted w A c l (nextT l k f n (decide (0 ≤ n))) = Byted w A c l (k, (nextT l k f n (decide (0 ≤ n))).2.1, [])) := Lib.hid (by
      have : nextT l k f n (decide (0 ≤ n)) = (k, (nextT l k f n (decide (0 ≤ n))).2.1, []) := Prod.ext e1 (Prod.ext rfl e2)
      rw [← this])
    rw [HE.out]
    have hq := can_any A c l k f n (decide (0 ≤ n))
    generalize (nextT l k f n (decide (0 ≤ n))).2.1 = x at hz hz2 hq
    have HQ := Lib.hid hq
    clear e1 e2 hz hq
    by_cases h0 : 0 ≤ n
    · rw [decide_eq_true h0] at HQ
      go_enter Try.func55, Try.ntmps55
      go_wp2_with fail
      refine (HQ.out _ hk hl).mono ?_
      rintro e w1 ⟨rfl, o1, o2, rfl⟩
      go_wp2_with fail
      refine bodyPost_ret (by simp [results, Try.results55, go_sem]; try rfl) rfl ?_
      exact ⟨_, _, _, _, _, _, _, rfl, rfl, RB.nil _, .inl rfl⟩
    · rw [decide_eq_false h0] at HQ
      go_enter Try.func55, Try.ntmps55
      go_wp2_with fail
      refine (HQ.out _ hk hl).mono ?_
      rintro e w1 ⟨rfl, o1, o2, rfl⟩
      go_wp2_with fail
      refine bodyPost_ret (by simp [results, Try.results55, go_sem]; try rfl) rfl ?_
      exact ⟨_, _, _, _, _, _, _, rfl, rfl, RB.nil _, .inl rfl⟩

theorem cells5 {w : World} {A : Option Addr} {l : List UInt8} (h : ReadsOf B 0 w A l.length l) (j : Nat) (hj : j < l.length) :
    ∃ ad, A = some ad ∧ ∀ o1 o2 o3 o4 o5, (((((w.alloc o1).alloc o2).alloc o3).alloc o4).alloc o5).cell? (ad.add j) = some (.int .u8 ((l.getD j 0).toNat : Int)) := by
  obtain ⟨ad, e, _⟩ := reads_cell h j hj
  refine ⟨ad, e, fun o1 o2 o3 o4 o5 => ?_⟩
  obtain ⟨ad', e', h'⟩ := reads_cell (h.below (below_alloc (below_alloc (below_alloc (below_alloc (below_alloc (Below.refl _ _) o1) o2) o3) o4) o5)) j hj
  rw [e] at e'
  injection e' with e'
  subst e'
  exact h'

/-- What the reference's Zeros hands back. -/
def Zeroed (w : World) (A : Option Addr) (c : Nat) (l : List UInt8) (r : Nat × Int × Bool) (e : Ending) (w' : World) : Prop :=
  e = .returned (.tuple #[.agg #[.slice A l.length c, .int .i64 r.1, .int .i64 r.2.1], .bool r.2.2]) ∧ Below w.heap.size w w'

theorem below7 (w : World) (o1 o2 o3 o4 o5 o6 o7 : Obj) : Below w.heap.size w (((((((w.alloc o1).alloc o2).alloc o3).alloc o4).alloc o5).alloc o6).alloc o7) :=
  below_alloc (below_alloc (below_alloc (below_alloc (below_alloc (below_alloc (below_alloc (Below.refl _ _) _) _) _) _) _) _) _

set_option maxRecDepth 100000 in
set_option maxHeartbeats 2000000 in
theorem refZeros_any (A : Option Addr) (c : Nat) (l : List UInt8) (k : Nat) (f n : Int) (w : World) (hk : k ≤ l.length) (hl : l.length ≤ 1099511627776) (hc : l.length ≤ c) (hr : ReadsOf B 0 w A l.length l) (hn0 : -9223372036854775808 ≤ n) (hn1 : n ≤ 9223372036854775807) :
    Calls Try.prog 56 #[.agg #[.slice A l.length c, .int .i64 k, .int .i64 f], .int .i64 n] w (Zeroed w A c l (zerosT l k f n)) := by
  have hq := refBytes_any A c l k f n
  have HZ : Hid (zerosT l k f n = if (nextT l k f n (decide (0 ≤ n))).2.2.all (· == 0) then ((nextT l k f n (decide (0 ≤ n))).1, (nextT l k f n (decide (0 ≤ n))).2.1, (nextT l k f n (decide (0 ≤ n))).2.1 == 0) else (k, 10, false)) := Lib.hid rfl
  have hbad := nextT_bad l k f n (decide (0 ≤ n))
  generalize nextT l k f n (decide (0 ≤ n)) = r at hq HZ hbad
  have HQ := Lib.hid (hq · hk hl hc · hn0 hn1)
  have HR := Lib.hid hr
  clear hq hr
  generalize hL : r.2.2 = L at HZ hbad
  generalize hF : r.2.1 = F at HZ hbad
  generalize hK : r.1 = k' at HZ hbad
  have HE : Hid (r = (k', F, L)) := Lib.hid (Prod.ext hK (Prod.ext hF hL))
  clear hL hF hK
  by_cases hz : F = 0
  · subst hz
    clear hbad
    go_enter Try.func56, Try.ntmps56
    go_wp2_with fail
    refine (HQ.out _ (HR.out.below (below_alloc (below_alloc (Below.refl _ _) _) _))).mono ?_
    rintro e w1 ⟨A2, n2, c2, o1, o2, o3, o4, rfl, rfl, hrb, _⟩
    rw [HE.out] at hrb
    rw [HE.out]
    obtain rfl : n2 = L.length := by obtain ⟨A', c', e, _⟩ := hrb; injection e
    have hlen := hrb.len
    obtain ⟨A3, c3, e3, _, hrd⟩ := hrb
    injection e3 with e4 e5 e6
    subst e4
    have HRD := Lib.hid hrd
    clear hrd e5 e6
    have HCELL := Lib.hid (cells5 HRD.out)
    go_wp2_with fail
    go_loop [8] (fun v8 => ∃ (j : Nat), j ≤ L.length ∧ v8 = .int .i64 j ∧ Hid ((L.take j).all (· == 0) = true)) (fun v8 => L.length - (intOf v8).toNat)
    case atStart => exact ⟨0, Nat.zero_le _, rfl, Lib.hid rfl⟩
    case round =>
      obtain ⟨j, hj, rfl, HA⟩ := hrel
      by_cases hlt : j < L.length
      · obtain ⟨ad, rfl, hc1⟩ := HCELL.out j hlt
        have hby := byte_lt (L.getD j 0)
        by_cases hx : L.getD j 0 = 0
        · have HF := Lib.hid (all_take L j hlt HA.out hx)
          rw [hx] at hc1
          simp only [show (((0 : UInt8).toNat : Nat) : Int) = 0 from rfl] at hc1
          clear hx hby
          go_wp2
          go_round
          case rel => exact ⟨j + 1, by omega, by go_num, HF⟩
          case measure => (simp [intOf]) <;> omega
        · have HF : Hid (zerosT l k f n = (k, 10, false)) := Lib.hid (by rw [HZ.out, all_not L j hlt hx]; rfl)
          have hxx : ¬ ((L.getD j 0).toNat : Int) = 0 := by
            intro h
            have h2 : (L.getD j 0).toNat = 0 := by omega
            exact hx (UInt8.toNat_inj.1 (by rw [h2]; rfl))
          generalize L.getD j 0 = x at hc1 hby hxx
          clear hx
          go_wp2
          refine bodyPost_ret (by simp [results, Try.results56, go_sem]; try rfl) rfl ?_
          rw [HF.out]
          exact ⟨rfl, below7 _ _ _ _ _ _ _ _⟩
      · have HF : Hid (zerosT l k f n = (k', 0, true)) := Lib.hid (by
          have h := HA.out
          rw [List.take_of_length_le (show L.length ≤ j by omega)] at h
          rw [HZ.out, if_pos h]; rfl)
        go_wp2
        refine bodyPost_ret (by simp [results, Try.results56, go_sem]; try rfl) rfl ?_
        rw [HF.out]
        exact ⟨rfl, below7 _ _ _ _ _ _ _ _⟩
  · obtain ⟨rfl, rfl⟩ := hbad hz
    have hz2 : (F != 0) = true := bne_iff_ne.2 hz
    have HF : Hid (zerosT l k' f n = (k', F, false)) := Lib.hid (by
      rw [HZ.out]
      have : (F == 0) = false := beq_false_of_ne hz
      simp [this])
    clear hz hbad
    go_enter Try.func56, Try.ntmps56
    go_wp2_with fail
    refine (HQ.out _ (HR.out.below (below_alloc (below_alloc (Below.refl _ _) _) _))).mono ?_
    rintro e w1 ⟨A2, n2, c2, o1, o2, o3, o4, rfl, rfl, hrb, _⟩
    rw [HE.out]
    clear hrb
    go_wp2_with fail
    refine bodyPost_ret (by simp [results, Try.results56, go_sem]; try rfl) rfl ?_
    rw [HF.out]
    exact ⟨rfl, below7 _ _ _ _ _ _ _ _⟩

set_option maxRecDepth 100000 in
set_option maxHeartbeats 2000000 in
theorem alive_any (w : World) :
    Calls Try.prog 36 #[] w fun e w' => e = .returned (.bool true) ∧ Below w.heap.size w w' := by
  go_enter Try.func36, Try.ntmps36
  go_wp2_with fail
  have HL : Hid (RB (w.alloc (.cells #[.int .u8 1, .int .u8 2, .int .u8 0, .int .u8 0] 5)) (.slice (some ⟨w.heap.size, 0, none⟩) 4 4) [1, 2, 0, 0]) := Lib.hid (OB.lit w 0 [1, 2, 0, 0] (Nat.zero_le _) (by decide)).rb
  refine (new_any _ [1, 2, 0, 0] _ HL.out (by decide)).mono ?_
  rintro e w1 ⟨g, P, q, rfl, hg, htk, hb⟩
  have HG : Hid (w.heap.size ≤ g) := Lib.hid (by have := (below_alloc (Below.refl w.heap.size w) (.cells #[.int .u8 1, .int .u8 2, .int .u8 0, .int .u8 0] 5)).size; omega)
  have HB := Lib.hid (below_comp (below_alloc (Below.refl _ _) _) hb)
  have HT := Lib.hid htk
  clear hb htk hg
  go_wp2_with fail
  refine (little_any g P q [1, 2, 0, 0] 0 0 2 _ HT.out (by decide) (by decide)).mono ?_
  rintro e w2 ⟨rfl, ht, hgr⟩
  have HT2 : Hid (Tk w2 g P q [1, 2, 0, 0] 2 0) := Lib.hid ht
  have HB2 := Lib.hid (grown_below hgr HB.out HB.out.size HG.out)
  rw [show ofLe (nextT [1, 2, 0, 0] 0 0 2 (decide ((1 : Int) ≤ 2 ∧ (2 : Int) ≤ 8))).2.2 = 513 from by decide]
  clear ht hgr
  go_wp2_with fail
  refine (zeros_any g P q [1, 2, 0, 0] 2 0 2 _ HT2.out (by decide) (by decide)).mono ?_
  rintro e w3 ⟨rfl, ht, hgr⟩
  have HT3 : Hid (Tk w3 g P q [1, 2, 0, 0] 4 0) := Lib.hid ht
  have HB3 := Lib.hid (grown_below hgr HB2.out HB2.out.size HG.out)
  rw [show (zerosT [1, 2, 0, 0] 2 0 2).2.2 = true from by decide]
  clear ht hgr
  go_wp2_with fail
  refine (bytes_any g P q [1, 2, 0, 0] 4 0 1 _ HT3.out (by decide) (by decide)).mono ?_
  rintro e w4 ⟨v, rfl, ho, ht, hgr⟩
  have HT4 : Hid (Tk w4 g P q [1, 2, 0, 0] 4 3) := Lib.hid ht
  have HB4 := Lib.hid (grown_below hgr HB3.out HB3.out.size HG.out)
  obtain ⟨A1, c1, rfl, _, _⟩ := ho.rb
  rw [show (nextT [1, 2, 0, 0] 4 0 1 (decide ((0 : Int) ≤ 1))).2.2.length = 0 from by decide]
  clear ht hgr ho
  go_wp2_with fail
  refine (fail_any g P q [1, 2, 0, 0] 4 3 _ HT4.out).mono ?_
  rintro e w' ⟨rfl, rfl⟩
  go_wp2_with fail
  go_ret
  exact ⟨rfl, HB4.out⟩

end Go.Proofs.Ytmjohplmcnafhaa.Tk
