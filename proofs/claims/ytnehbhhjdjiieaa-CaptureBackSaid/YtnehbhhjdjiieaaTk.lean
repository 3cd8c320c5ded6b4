/- Package taker: bytes that are taken from the front; what each method does to the one block behind the pointer. -/
import Derived.Test.YtnehbhhjdjiieaaEn
set_option linter.unusedSimpArgs false
set_option linter.unusedVariables false
set_option maxRecDepth 100000
namespace Go.Proofs.Ytnehbhhjdjiieaa.Tk
open Go.RowKit Go.Proofs.YtnehbhhjdjiieaaW.PrintWords Go.Proofs.Ytnehbhhjdjiieaa.Bs Go.Proofs.Ytnehbhhjdjiieaa.Le

/-- Block g is a taker of l, of which k were taken, with what failed. -/
def Tk (w : World) (g : Nat) (P : Option Addr) (q : Nat) (l : List UInt8) (k : Nat) (f : Int) : Prop :=
  w.heap[g]? = some (.cells #[.slice P l.length q, .int .i64 k, .int .i64 f] 127 (0, 0)) ∧ l.length ≤ q ∧ ReadsOf B 0 w P l.length l ∧ (l = [] ∨ (Value.slice P l.length q).ownBlock ≠ some g) ∧ k ≤ l.length ∧ l.length ≤ 1099511627776

/-- The next bytes are taken, if it may be: what failed, how many were taken, the bytes. -/
def nextT (l : List UInt8) (k : Nat) (f : Int) (n : Int) (right : Bool) : Nat × Int × List UInt8 :=
  if f ≠ 0 then (k, f, []) else if right = false then (k, 1, []) else if (l.length : Int) - k < n then (k, 3, []) else (k + n.toNat, 0, (l.drop k).take n.toNat)

/-- What next hands back. -/
def Took (w : World) (g : Nat) (P : Option Addr) (q : Nat) (l : List UInt8) (r : Nat × Int × List UInt8) (e : Ending) (w' : World) : Prop :=
  ∃ A n c, e = .returned (.slice A n c) ∧ RB w' (.slice A n c) r.2.2 ∧ Tk w' g P q l r.1 r.2.1 ∧ w.grownBy w' (some g) ∧ (r.2.2 = [] ∨ (Value.slice A n c).ownBlock ≠ some g)

theorem Tk.cells {w : World} {g : Nat} {P : Option Addr} {q : Nat} {l : List UInt8} {k : Nat} {f : Int} (h : Tk w g P q l k f) : l.length ≤ q ∧ w.cell? ⟨g, 0, none⟩ = some (.slice P l.length q) ∧ w.cell? ⟨g, 1, none⟩ = some (.int .i64 k) ∧ w.cell? ⟨g, 2, none⟩ = some (.int .i64 f) ∧ (∀ i, w.frozen? ⟨g, i, none⟩ = false) := by
  obtain ⟨hb, hc, _⟩ := h
  exact ⟨hc, (blk_cell hb 0).trans rfl, (blk_cell hb 1).trans rfl, (blk_cell hb 2).trans rfl, fun i => blk_frozen hb i⟩

theorem Tk.below {w w1 : World} {g : Nat} {P : Option Addr} {q : Nat} {l : List UInt8} {k : Nat} {f : Int} (h : Tk w g P q l k f) (hb : Below w.heap.size w w1) : Tk w1 g P q l k f := by
  obtain ⟨hbk, hc, hr, hs, hk, hl⟩ := h
  exact ⟨blk_below hbk hb, hc, hr.below hb, hs, hk, hl⟩
theorem Tk.lt {w : World} {g : Nat} {P : Option Addr} {q : Nat} {l : List UInt8} {k : Nat} {f : Int} (h : Tk w g P q l k f) : g < w.heap.size := by
  obtain ⟨hbk, _⟩ := h
  exact blk_lt hbk
/-- What a store into the block's second or third cell leaves. -/
theorem Tk.fail {w : World} {g : Nat} {P : Option Addr} {q : Nat} {l : List UInt8} {k : Nat} {f : Int} (h : Tk w g P q l k f) (x : Int) : Tk (w.setCell ⟨g, 2, none⟩ (.int .i64 x)) g P q l k x := by
  obtain ⟨hbk, hc, hr, hs, hk, hl⟩ := h
  have hrb : RB (w.setCell ⟨g, 2, none⟩ (.int .i64 x)) (.slice P l.length q) l := RB.grown ⟨P, q, rfl, hc, hr⟩ (grown_set w g 2 _) hs
  obtain ⟨A', c', e, _, hr'⟩ := hrb
  injection e with e1 e2 e3
  subst e1
  exact ⟨(blk_set hbk 2 _).trans rfl, hc, hr', hs, hk, hl⟩
theorem Tk.at_ {w : World} {g : Nat} {P : Option Addr} {q : Nat} {l : List UInt8} {k : Nat} {f : Int} (h : Tk w g P q l k f) (m : Nat) (hm : m ≤ l.length) : Tk (w.setCell ⟨g, 1, none⟩ (.int .i64 m)) g P q l m f := by
  obtain ⟨hbk, hc, hr, hs, hk, hl⟩ := h
  have hrb : RB (w.setCell ⟨g, 1, none⟩ (.int .i64 m)) (.slice P l.length q) l := RB.grown ⟨P, q, rfl, hc, hr⟩ (grown_set w g 1 _) hs
  obtain ⟨A', c', e, _, hr'⟩ := hrb
  injection e with e1 e2 e3
  subst e1
  exact ⟨(blk_set hbk 1 _).trans rfl, hc, hr', hs, hm, hl⟩

theorem left_any (g : Nat) (P : Option Addr) (q : Nat) (l : List UInt8) (k : Nat) (f : Int) (w : World) (h : Tk w g P q l k f) :
    Calls Try.prog 67 #[.pointer (some ⟨g, 0, none⟩)] w fun e w' => e = .returned (.int .i64 ((l.length : Int) - k)) ∧ Below w.heap.size w w' := by
  obtain ⟨hc, h0, h1, h2, hf⟩ := h.cells
  obtain ⟨_, _, _, _, hk, hl⟩ := h
  clear hf
  go_enter Try.func67, Try.ntmps67
  go_wp2
  repeat (go_quiet (fail); try go_wp2)
  go_ret
  exact ⟨rfl, pw_below_drewN (Below.refl _ _) _⟩

theorem left_nil (w : World) :
    Calls Try.prog 67 #[.pointer none] w fun e w' => e = .returned (.int .i64 0) ∧ w = w' := by
  go_enter Try.func67, Try.ntmps67
  go_wp2
  go_ret
  exact ⟨rfl, rfl⟩

theorem fail_any (g : Nat) (P : Option Addr) (q : Nat) (l : List UInt8) (k : Nat) (f : Int) (w : World) (h : Tk w g P q l k f) :
    Calls Try.prog 61 #[.pointer (some ⟨g, 0, none⟩)] w fun e w' => e = .returned (.int .i64 f) ∧ w = w' := by
  obtain ⟨hc, h0, h1, h2, hf⟩ := h.cells
  clear hf
  go_enter Try.func61, Try.ntmps61
  go_wp2
  go_ret
  exact ⟨rfl, rfl⟩

theorem fail_nil (w : World) :
    Calls Try.prog 61 #[.pointer none] w fun e w' => e = .returned (.int .i64 2) ∧ w = w' := by
  go_enter Try.func61, Try.ntmps61
  go_wp2
  go_ret
  exact ⟨rfl, rfl⟩

set_option maxRecDepth 100000 in
theorem next_nil (n : Int) (r : Bool) (w : World) :
    Calls Try.prog 77 #[.pointer none, .int .i64 n, .bool r] w fun e w' => e = .returned (.slice none 0 0) ∧ w = w' := by
  go_enter Try.func77, Try.ntmps77
  go_wp2_with fail
  go_ret
  exact ⟨rfl, rfl⟩

set_option maxRecDepth 100000 in
set_option maxHeartbeats 2000000 in
theorem next_any (g : Nat) (P : Option Addr) (q : Nat) (l : List UInt8) (k : Nat) (f : Int) (n : Int) (r : Bool) (w : World) (h : Tk w g P q l k f) (hn0 : -9223372036854775808 ≤ n) (hn1 : n ≤ 9223372036854775807) (hr : r = true → 0 ≤ n) :
    Calls Try.prog 77 #[.pointer (some ⟨g, 0, none⟩), .int .i64 n, .bool r] w (Took w g P q l (nextT l k f n r)) := by
  obtain ⟨hc, h0, h1, h2, hf⟩ := h.cells
  have H := Lib.hid h
  have hk : k ≤ l.length := by obtain ⟨_, _, _, _, hk, _⟩ := h; exact hk
  have hll : l.length ≤ 1099511627776 := by obtain ⟨_, _, _, _, _, hl⟩ := h; exact hl
  have hf1 := hf 1
  have hf2 := hf 2
  clear h hf
  by_cases hz : f = 0
  · subst hz
    cases r with
    | false =>
      have HN : Hid (nextT l k 0 n false = (k, 1, [])) := Lib.hid (by simp [nextT])
      have HT := Lib.hid (H.out.fail 1)
      go_enter Try.func77, Try.ntmps77
      go_wp2_with fail
      go_ret
      refine ⟨none, 0, 0, rfl, ?_⟩
      rw [HN.out]
      exact ⟨RB.nil _, HT.out, grown_set _ _ _ _, .inl rfl⟩
    | true =>
      have hn := hr rfl
      obtain ⟨m, rfl⟩ := Int.eq_ofNat_of_zero_le hn
      by_cases hlt : (l.length : Int) - k < m
      · have HN : Hid (nextT l k 0 m true = (k, 3, [])) := Lib.hid (by simp [nextT, hlt])
        go_enter Try.func77, Try.ntmps77
        go_wp2_with fail
        refine (left_any g P q l k 0 _ H.out).mono ?_
        rintro e w1 ⟨rfl, hb⟩
        have HT1 := Lib.hid (H.out.below hb)
        have HT := Lib.hid (HT1.out.fail 3)
        have HG := Lib.hid (grown_of_below hb (some g))
        have hf21 : w1.frozen? ⟨g, 2, none⟩ = false := by obtain ⟨_, _, _, _, hf⟩ := HT1.out.cells; exact hf 2
        have h21 : w1.cell? ⟨g, 2, none⟩ = some (.int .i64 0) := by obtain ⟨_, _, _, h2, _⟩ := HT1.out.cells; exact h2
        clear hb
        go_wp2_with fail
        go_ret
        refine ⟨none, 0, 0, rfl, ?_⟩
        rw [HN.out]
        exact ⟨RB.nil _, HT.out, World.grownBy.trans HG.out (grown_set _ _ _ _), .inl rfl⟩
      · have HN : Hid (nextT l k 0 m true = (k + m, 0, (l.drop k).take m)) := Lib.hid (by simp [nextT, hlt])
        go_enter Try.func77, Try.ntmps77
        go_wp2_with fail
        refine (left_any g P q l k 0 _ H.out).mono ?_
        rintro e w1 ⟨rfl, hb⟩
        have HT1 := Lib.hid (H.out.below hb)
        have HG := Lib.hid (grown_of_below hb (some g))
        clear h0 h1 h2 hf1 hf2 hc
        obtain ⟨hbk, hc, hrd, hs, _, _⟩ := HT1.out
        have h0 : w1.cell? ⟨g, 0, none⟩ = some (.slice P l.length q) := (blk_cell hbk 0).trans rfl
        have h1 : w1.cell? ⟨g, 1, none⟩ = some (.int .i64 k) := (blk_cell hbk 1).trans rfl
        have hf1 : w1.frozen? ⟨g, 1, none⟩ = false := blk_frozen hbk 1
        obtain ⟨A', hrun, hread, hown⟩ := mid3 P q l k m (by omega) hc
        have HRD := Lib.hid (hread w1 hrd)
        have HS : Hid ((l.drop k).take m = [] ∨ (Value.slice A' m m).ownBlock ≠ some g) := Lib.hid (by
          rcases hs with hs | hs
          · left; rw [hs]; simp
          · right; rw [hown m m l.length q]; exact hs)
        have HLN : Hid (((l.drop k).take m).length = m) := Lib.hid (by rw [List.length_take, List.length_drop]; omega)
        clear hb hbk hrd hs hread hown
        go_wp2_with fail
        repeat (go_quiet (fail); try go_wp2)
        go_ret
        have HT : Hid (∀ w2 : World, Below w1.heap.size w1 w2 → Tk (w2.setCell ⟨g, 1, none⟩ (.int .i64 ((k : Int) + m))) g P q l (k + m) 0) := Lib.hid (fun w2 hb => by
          have h := (HT1.out.below hb).at_ (k + m) (by omega)
          rwa [show ((k + m : Nat) : Int) = (k : Int) + m by omega] at h)
        refine ⟨A', m, m, rfl, ?_⟩
        rw [HN.out]
        refine ⟨RB.grown (g := g) ⟨A', m, by rw [HLN.out], by rw [HLN.out]; exact Nat.le_refl _, by rw [HLN.out]; exact HRD.out.below (pw_below_drewN (Below.refl _ _) _)⟩ (grown_set _ _ _ _) HS.out, ?_, ?_, HS.out⟩
        · exact HT.out _ (pw_below_drewN (Below.refl _ _) _)
        · exact World.grownBy.trans HG.out (World.grownBy.trans (grown_of_below (pw_below_drewN (Below.refl _ _) _) _) (grown_set _ _ _ _))
  · have HN : Hid (nextT l k f n r = (k, f, [])) := Lib.hid (by simp [nextT, hz])
    have hzb : (f != 0) = true := bne_iff_ne.2 hz
    clear hz
    go_enter Try.func77, Try.ntmps77
    go_wp2_with fail
    go_ret
    refine ⟨none, 0, 0, rfl, ?_⟩
    rw [HN.out]
    exact ⟨RB.nil _, H.out, World.grownBy.refl _ _, .inl rfl⟩

theorem sized_any (n : Int) (w : World) (h0 : -9223372036854775808 ≤ n) (h1 : n ≤ 9223372036854775807) :
    Calls Try.prog 79 #[.int .i64 n] w fun e w' => e = .returned (.bool (decide (1 ≤ n ∧ n ≤ 8))) ∧ w = w' := by
  by_cases h1 : 1 ≤ n
  · go_enter Try.func79, Try.ntmps79
    go_wp2
    go_ret
    exact ⟨ret_bool (by rw [decide_eq_decide]; omega), rfl⟩
  · go_enter Try.func79, Try.ntmps79
    go_wp2
    go_ret
    exact ⟨ret_bool (by simp [h1] <;> omega), rfl⟩

/-- What New hands back: a taker of the bytes, of which none are taken. -/
def Made (w : World) (l : List UInt8) (e : Ending) (w' : World) : Prop := ∃ g P q, e = .returned (.pointer (some ⟨g, 0, none⟩)) ∧ w.heap.size ≤ g ∧ Tk w' g P q l 0 0 ∧ Below w.heap.size w w'

set_option maxHeartbeats 1000000 in
theorem new_any (v : Value) (l : List UInt8) (w : World) (hr : RB w v l) (hl : l.length ≤ 1099511627776) :
    Calls Try.prog 59 #[v] w (Made w l) := by
  have HR := Lib.hid hr
  obtain ⟨A, c, rfl, hc, hr⟩ := hr
  clear hr
  have hmk := make_bytes l.length (by omega)
  have HE : Hid (over (List.replicate l.length 0) l = l) := Lib.hid (over_all _ _ (by rw [List.length_replicate]))
  go_enter Try.func59, Try.ntmps59
  go_wp2_with (first | ((with_reducible refine is_builtin (b := .copy) (xs := #[.tmp 7, .tmp 8]) rfl ?_); refine copy_bytes (w0 := w) w.heap.size rfl (.tmp 7) (.tmp 8) rfl (.slice (some ⟨w.heap.size, 0, none⟩) l.length l.length) (.slice A l.length c) (List.replicate l.length 0) l rfl rfl ?aO ?aR ?aB ?_; (case aO => exact OB.made w w.heap.size l.length (Nat.le_refl _) (by omega)); (case aR => exact HR.out.alloc _); (case aB => exact below_alloc (Below.refl _ _) _); intro w1 ho hb1; have HO1 := Lib.hid ho; have HB1 := Lib.hid hb1; clear ho hb1))
  go_ret
  have ho := HO1.out
  rw [HE.out] at ho
  refine ⟨w1.heap.size, some ⟨w.heap.size, 0, none⟩, l.length, rfl, HB1.out.size, ?_, below_alloc HB1.out _⟩
  obtain ⟨A2, c2, e, hc2, hr2⟩ := ho.rb
  injection e with e1 e2 e3
  subst e1
  exact ⟨blk_new _ _, Nat.le_refl _, hr2.below (below_alloc (Below.refl _ _) _), ho.rb.apart (Nat.le_refl _), Nat.zero_le _, hl⟩

theorem nextT_len (l : List UInt8) (k : Nat) (f n : Int) (r : Bool) (h : (nextT l k f n r).2.2 ≠ []) (hr : r = true → 0 ≤ n) : ((nextT l k f n r).2.2.length : Int) = n := by
  unfold nextT at h ⊢
  by_cases h1 : f ≠ 0
  · rw [if_pos h1] at h; exact absurd rfl h
  · rw [if_neg h1] at h ⊢
    by_cases h2 : r = false
    · rw [if_pos h2] at h; exact absurd rfl h
    · rw [if_neg h2] at h ⊢
      by_cases h3 : (l.length : Int) - k < n
      · rw [if_pos h3] at h; exact absurd rfl h
      · rw [if_neg h3] at h ⊢
        have hn := hr (by cases r <;> simp_all)
        simp only [List.length_take, List.length_drop]
        omega

/-- What a number's method hands back. -/
def TookN (w : World) (g : Nat) (P : Option Addr) (q : Nat) (l : List UInt8) (r : Nat × Int × List UInt8) (x : Nat) (e : Ending) (w' : World) : Prop :=
  e = .returned (.int .u64 x) ∧ Tk w' g P q l r.1 r.2.1 ∧ w.grownBy w' (some g)

set_option maxHeartbeats 1000000 in
theorem little_any (g : Nat) (P : Option Addr) (q : Nat) (l : List UInt8) (k : Nat) (f n : Int) (w : World) (h : Tk w g P q l k f) (hn0 : -9223372036854775808 ≤ n) (hn1 : n ≤ 9223372036854775807) :
    Calls Try.prog 62 #[.pointer (some ⟨g, 0, none⟩), .int .i64 n] w (TookN w g P q l (nextT l k f n (decide (1 ≤ n ∧ n ≤ 8))) (ofLe (nextT l k f n (decide (1 ≤ n ∧ n ≤ 8))).2.2)) := by
  have H := Lib.hid h
  clear h
  have hr : decide (1 ≤ n ∧ n ≤ 8) = true → 0 ≤ n := fun h => by have := of_decide_eq_true h; omega
  have HL := Lib.hid (nextT_len l k f n (decide (1 ≤ n ∧ n ≤ 8)) · hr)
  have HR := Lib.hid hr
  have HD : Hid (decide (1 ≤ n ∧ n ≤ 8) = true → 1 ≤ n ∧ n ≤ 8) := Lib.hid (fun h => of_decide_eq_true h)
  have HZ : Hid (decide (1 ≤ n ∧ n ≤ 8) = false → (nextT l k f n (decide (1 ≤ n ∧ n ≤ 8))).2.2 = []) := Lib.hid (fun h => by rw [h]; unfold nextT; split <;> rfl)
  clear hr
  generalize hd : decide (1 ≤ n ∧ n ≤ 8) = d at HL HR HD HZ
  have HDD := Lib.hid hd
  clear hd
  go_enter Try.func62, Try.ntmps62
  go_wp2_with fail
  refine (sized_any n _ hn0 hn1).mono ?_
  rintro e w' ⟨rfl, rfl⟩
  rw [HDD.out]
  go_wp2_with fail
  refine (next_any g P q l k f n d _ H.out hn0 hn1 HR.out).mono ?_
  rintro e w1 ⟨A, m, c, rfl, hrb, htk, hg, hs⟩
  generalize hre : nextT l k f n d = r at HL HZ hrb htk
  have HRE := Lib.hid hre
  clear hre
  have HT := Lib.hid htk
  have HG := Lib.hid hg
  have HB := Lib.hid hrb
  clear htk hg hrb hs
  by_cases he : r.2.2 = []
  · have HE : Hid (ofLe r.2.2 = 0) := Lib.hid (by rw [he]; rfl)
    go_wp2_with fail
    refine (En.ofLittle_bad _ r.2.2 _ HB.out (by rw [he]; simp)).mono ?_
    rintro e w' ⟨rfl, rfl⟩
    go_wp2_with fail
    go_ret
    obtain rfl := HRE.out
    exact ⟨ret_int (by rw [HE.out]; rfl), HT.out, HG.out⟩
  · have hlen := HL.out he
    have hd : d = true := by cases d with
      | true => rfl
      | false => exact absurd (HZ.out rfl) he
    have h18 := HD.out hd
    have HE := Lib.hid hlen
    clear hlen hd
    go_wp2_with fail
    refine (En.ofLittle_any _ r.2.2 _ HB.out (by have := HE.out; omega) (by have := HE.out; omega)).mono ?_
    rintro e w' ⟨rfl, rfl⟩
    go_wp2_with fail
    go_ret
    obtain rfl := HRE.out
    exact ⟨rfl, HT.out, HG.out⟩

set_option maxHeartbeats 1000000 in
theorem big_any (g : Nat) (P : Option Addr) (q : Nat) (l : List UInt8) (k : Nat) (f n : Int) (w : World) (h : Tk w g P q l k f) (hn0 : -9223372036854775808 ≤ n) (hn1 : n ≤ 9223372036854775807) :
    Calls Try.prog 83 #[.pointer (some ⟨g, 0, none⟩), .int .i64 n] w (TookN w g P q l (nextT l k f n (decide (1 ≤ n ∧ n ≤ 8))) (ofLe (nextT l k f n (decide (1 ≤ n ∧ n ≤ 8))).2.2.reverse)) := by
  have H := Lib.hid h
  clear h
  have hr : decide (1 ≤ n ∧ n ≤ 8) = true → 0 ≤ n := fun h => by have := of_decide_eq_true h; omega
  have HL := Lib.hid (nextT_len l k f n (decide (1 ≤ n ∧ n ≤ 8)) · hr)
  have HR := Lib.hid hr
  have HD : Hid (decide (1 ≤ n ∧ n ≤ 8) = true → 1 ≤ n ∧ n ≤ 8) := Lib.hid (fun h => of_decide_eq_true h)
  have HZ : Hid (decide (1 ≤ n ∧ n ≤ 8) = false → (nextT l k f n (decide (1 ≤ n ∧ n ≤ 8))).2.2 = []) := Lib.hid (fun h => by rw [h]; unfold nextT; split <;> rfl)
  clear hr
  generalize hd : decide (1 ≤ n ∧ n ≤ 8) = d at HL HR HD HZ
  have HDD := Lib.hid hd
  clear hd
  go_enter Try.func83, Try.ntmps83
  go_wp2_with fail
  refine (sized_any n _ hn0 hn1).mono ?_
  rintro e w' ⟨rfl, rfl⟩
  rw [HDD.out]
  go_wp2_with fail
  refine (next_any g P q l k f n d _ H.out hn0 hn1 HR.out).mono ?_
  rintro e w1 ⟨A, m, c, rfl, hrb, htk, hg, hs⟩
  generalize hre : nextT l k f n d = r at HL HZ hrb htk
  have HRE := Lib.hid hre
  clear hre
  have HT := Lib.hid htk
  have HG := Lib.hid hg
  have HB := Lib.hid hrb
  clear htk hg hrb hs
  by_cases he : r.2.2 = []
  · have HE : Hid (ofLe r.2.2.reverse = 0) := Lib.hid (by rw [he]; rfl)
    go_wp2_with fail
    refine (En.ofBig_bad _ r.2.2 _ HB.out (by rw [he]; simp)).mono ?_
    rintro e w' ⟨rfl, rfl⟩
    go_wp2_with fail
    go_ret
    obtain rfl := HRE.out
    exact ⟨ret_int (by rw [HE.out]; rfl), HT.out, HG.out⟩
  · have hlen := HL.out he
    have hd : d = true := by cases d with
      | true => rfl
      | false => exact absurd (HZ.out rfl) he
    have h18 := HD.out hd
    have HE := Lib.hid hlen
    clear hlen hd
    go_wp2_with fail
    refine (En.ofBig_any _ r.2.2 _ HB.out (by have := HE.out; omega) (by have := HE.out; omega)).mono ?_
    rintro e w' ⟨rfl, rfl⟩
    go_wp2_with fail
    go_ret
    obtain rfl := HRE.out
    exact ⟨rfl, HT.out, HG.out⟩

/-- What Bytes hands back: a row of its own. -/
def TookB (w : World) (g : Nat) (P : Option Addr) (q : Nat) (l : List UInt8) (r : Nat × Int × List UInt8) (e : Ending) (w' : World) : Prop :=
  ∃ v, e = .returned v ∧ OB w.heap.size w' v r.2.2 ∧ Tk w' g P q l r.1 r.2.1 ∧ w.grownBy w' (some g)

set_option maxHeartbeats 1000000 in
theorem bytes_any (g : Nat) (P : Option Addr) (q : Nat) (l : List UInt8) (k : Nat) (f n : Int) (w : World) (h : Tk w g P q l k f) (hn0 : -9223372036854775808 ≤ n) (hn1 : n ≤ 9223372036854775807) :
    Calls Try.prog 63 #[.pointer (some ⟨g, 0, none⟩), .int .i64 n] w (TookB w g P q l (nextT l k f n (decide (0 ≤ n)))) := by
  have H := Lib.hid h
  have hll : l.length ≤ 1099511627776 := by obtain ⟨_, _, _, _, _, hl⟩ := h; exact hl
  clear h
  have HR : Hid (decide (0 ≤ n) = true → 0 ≤ n) := Lib.hid (fun h => of_decide_eq_true h)
  have HLL : Hid ((nextT l k f n (decide (0 ≤ n))).2.2.length ≤ 1099511627776) := Lib.hid (by
    unfold nextT
    split
    · simp
    · split
      · simp
      · split
        · simp
        · simp only [List.length_take, List.length_drop]; omega)
  go_enter Try.func63, Try.ntmps63
  go_wp2_with fail
  refine (next_any g P q l k f n (decide (0 ≤ n)) _ H.out hn0 hn1 HR.out).mono ?_
  rintro e w1 ⟨A, m, c, rfl, hrb, htk, hg, hs⟩
  generalize hre : nextT l k f n (decide (0 ≤ n)) = r at HLL hrb htk
  have HRE := Lib.hid hre
  clear hre
  have hml : m = r.2.2.length := by obtain ⟨A', c', e, _⟩ := hrb; injection e
  generalize hL : r.2.2 = L at HLL hrb hml hs
  have HL := Lib.hid hL
  subst hml
  have HT := Lib.hid htk
  have HG := Lib.hid hg
  have HB := Lib.hid hrb
  have hlen := HLL.out
  have hmk := make_bytes L.length (by omega)
  have HE : Hid (over (List.replicate L.length 0) L = L) := Lib.hid (over_all _ _ (by rw [List.length_replicate]))
  clear htk hg hrb hL hs
  go_wp2_with (first | ((with_reducible refine is_builtin (b := .copy) (xs := #[.tmp 15, .tmp 16]) rfl ?_); refine copy_bytes (w0 := w1) w1.heap.size rfl (.tmp 15) (.tmp 16) rfl (.slice (some ⟨w1.heap.size, 0, none⟩) L.length L.length) (.slice A L.length c) (List.replicate L.length 0) L rfl rfl ?aO ?aR ?aB ?_; (case aO => exact OB.made w1 w1.heap.size L.length (Nat.le_refl _) (by omega)); (case aR => exact HB.out.alloc _); (case aB => exact below_alloc (Below.refl _ _) _); intro w2 ho hb1; have HO1 := Lib.hid ho; have HB1 := Lib.hid hb1; clear ho hb1))
  go_ret
  have ho := HO1.out
  rw [HE.out] at ho
  obtain rfl := HRE.out
  refine ⟨_, rfl, ?_, HT.out.below HB1.out, World.grownBy.trans HG.out (grown_of_below HB1.out _)⟩
  rw [HL.out]
  exact ho.weaken HG.out.size

/-- Whether the next bytes are 0: what failed, how many were taken, the answer. -/
def zerosT (l : List UInt8) (k : Nat) (f n : Int) : Nat × Int × Bool :=
  if (nextT l k f n (decide (0 ≤ n))).2.2.all (· == 0) then ((nextT l k f n (decide (0 ≤ n))).1, (nextT l k f n (decide (0 ≤ n))).2.1, (nextT l k f n (decide (0 ≤ n))).2.1 == 0) else (k, 10, false)
def TookZ (w : World) (g : Nat) (P : Option Addr) (q : Nat) (l : List UInt8) (r : Nat × Int × Bool) (e : Ending) (w' : World) : Prop := e = .returned (.bool r.2.2) ∧ Tk w' g P q l r.1 r.2.1 ∧ w.grownBy w' (some g)

theorem zeros_nil (n : Int) (w : World) :
    Calls Try.prog 60 #[.pointer none, .int .i64 n] w fun e w' => e = .returned (.bool false) ∧ w = w' := by
  go_enter Try.func60, Try.ntmps60
  go_wp2_with fail
  go_ret
  exact ⟨rfl, rfl⟩

theorem all_take (L : List UInt8) (j : Nat) (hj : j < L.length) (h : (L.take j).all (· == 0) = true) (hx : L.getD j 0 = 0) : (L.take (j + 1)).all (· == 0) = true := by
  rw [take_snoc L j hj, List.all_append, h, hx]; rfl
theorem all_not (L : List UInt8) (j : Nat) (hj : j < L.length) (hx : L.getD j 0 ≠ 0) : L.all (· == 0) = false := by
  rw [List.all_eq_false]
  refine ⟨L.getD j 0, ?_, by simpa using hx⟩
  simp [List.getD_eq_getElem?_getD, List.getElem?_eq_getElem hj]

set_option maxRecDepth 100000 in
set_option maxHeartbeats 2000000 in
theorem zeros_any (g : Nat) (P : Option Addr) (q : Nat) (l : List UInt8) (k : Nat) (f n : Int) (w : World) (h : Tk w g P q l k f) (hn0 : -9223372036854775808 ≤ n) (hn1 : n ≤ 9223372036854775807) :
    Calls Try.prog 60 #[.pointer (some ⟨g, 0, none⟩), .int .i64 n] w (TookZ w g P q l (zerosT l k f n)) := by
  obtain ⟨_, _, hat, _, _⟩ := h.cells
  have H := Lib.hid h
  have hk0 : k ≤ l.length := by obtain ⟨_, _, _, _, hk, _⟩ := h; exact hk
  have hll : l.length ≤ 1099511627776 := by obtain ⟨_, _, _, _, _, hl⟩ := h; exact hl
  clear h
  have HR : Hid (decide (0 ≤ n) = true → 0 ≤ n) := Lib.hid (fun h => of_decide_eq_true h)
  have HZ : Hid (zerosT l k f n = if (nextT l k f n (decide (0 ≤ n))).2.2.all (· == 0) then ((nextT l k f n (decide (0 ≤ n))).1, (nextT l k f n (decide (0 ≤ n))).2.1, (nextT l k f n (decide (0 ≤ n))).2.1 == 0) else (k, 10, false)) := Lib.hid rfl
  go_enter Try.func60, Try.ntmps60
  go_wp2_with fail
  refine (next_any g P q l k f n (decide (0 ≤ n)) _ H.out hn0 hn1 HR.out).mono ?_
  rintro e w1 ⟨A, m, c, rfl, hrb, htk, hg, hs⟩
  generalize nextT l k f n (decide (0 ≤ n)) = r at HZ hrb htk
  have hml : m = r.2.2.length := by obtain ⟨A', c', e, _⟩ := hrb; injection e
  generalize hL : r.2.2 = L at HZ hrb hml hs
  generalize hF : r.2.1 = F at HZ htk
  subst hml
  have HT := Lib.hid htk
  have HG := Lib.hid hg
  have hlen := hrb.len
  obtain ⟨A2, c2, e2, _, hrd⟩ := hrb
  injection e2 with e1 e2 e3
  subst e1
  have HRD := Lib.hid hrd
  clear htk hg hL hF hs hrd e2 e3 hat
  go_wp2_with fail
  go_loopw [22] (fun v22 wr => ∃ (j : Nat), j ≤ L.length ∧ v22 = .int .i64 j ∧ Hid ((L.take j).all (· == 0) = true) ∧ Hid (Below w1.heap.size w1 wr)) (fun v22 _ => L.length - (intOf v22).toNat)
  case atStart => exact ⟨0, Nat.zero_le _, rfl, Lib.hid rfl, Lib.hid (Below.refl _ _)⟩
  case round =>
    obtain ⟨j, hj, rfl, HA, HB⟩ := hrel
    have HT2 := Lib.hid (HT.out.below HB.out)
    by_cases hlt : j < L.length
    · obtain ⟨ad, rfl, hc1⟩ := reads_cell (HRD.out.below HB.out) j hlt
      have hby := byte_lt (L.getD j 0)
      by_cases hx : L.getD j 0 = 0
      · have HF := Lib.hid (all_take L j hlt HA.out hx)
        rw [hx] at hc1
        have hc2 : wr.cell? (ad.add j) = some (.int .u8 0) := hc1
        clear hc1 hx hby
        go_wp2
        go_roundw
        case rel => exact ⟨j + 1, by omega, by go_num, HF, HB⟩
        case measure => (simp [intOf]) <;> omega
      · have HF : Hid (zerosT l k f n = (k, 10, false)) := Lib.hid (by rw [HZ.out, all_not L j hlt hx]; rfl)
        have hxx : ¬ ((L.getD j 0).toNat : Int) = 0 := by
          intro h
          have h2 : (L.getD j 0).toNat = 0 := by omega
          exact hx (UInt8.toNat_inj.1 (by rw [h2]; rfl))
        generalize L.getD j 0 = x at hc1 hby hxx
        obtain ⟨_, _, hc3, hc4, hf3⟩ := HT2.out.cells
        have hf1 := hf3 1
        have hf2 := hf3 2
        have HS := Lib.hid ((HT2.out.at_ k hk0).fail 10)
        have HGS := Lib.hid (World.grownBy.trans (World.grownBy.trans HG.out (grown_of_below HB.out (some g))) (World.grownBy.trans (grown_set wr g 1 (.int .i64 k)) (grown_set _ g 2 (.int .i64 10))))
        clear hx hf3
        go_wp2
        go_ret
        rw [HF.out]
        exact ⟨rfl, HS.out, HGS.out⟩
    · have HF : Hid (zerosT l k f n = (r.1, F, F == 0)) := Lib.hid (by
        have h := HA.out
        rw [List.take_of_length_le (show L.length ≤ j by omega)] at h
        rw [HZ.out, if_pos h])
      obtain ⟨_, _, _, hc4, _⟩ := HT2.out.cells
      have HG2 := Lib.hid (World.grownBy.trans HG.out (grown_of_below HB.out (some g)))
      go_wp2
      go_ret
      rw [HF.out]
      exact ⟨rfl, HT2.out, HG2.out⟩

end Go.Proofs.Ytnehbhhjdjiieaa.Tk
