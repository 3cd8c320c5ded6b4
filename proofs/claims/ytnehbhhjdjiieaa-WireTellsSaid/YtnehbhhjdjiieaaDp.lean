/- Package data and its reference: the message of bytes. -/
import Derived.Test.YtnehbhhjdjiieaaDa
set_option linter.unusedSimpArgs false
set_option linter.unusedVariables false
set_option maxRecDepth 100000
namespace Go.Proofs.Ytnehbhhjdjiieaa.Da
open Go.RowKit Go.Proofs.YtnehbhhjdjiieaaW.PrintWords Go.Proofs.Ytnehbhhjdjiieaa.Bs Go.Proofs.Ytnehbhhjdjiieaa.Le Go.Proofs.Ytnehbhhjdjiieaa.Mv Go.Proofs.Ytnehbhhjdjiieaa.Co Go.Proofs.Ytnehbhhjdjiieaa.Tk

/-- Why bytes are no message that carries a packet, or 0. -/
def badD (b : List UInt8) : Int := if b.length < 32 then 3 else if 65567 < b.length then 4 else if b.getD 0 0 ≠ 4 then 9 else if ¬ zero3 b then 10 else 0
def msgD (b : List UInt8) : Nat × Nat × List UInt8 := if badD b = 0 then (ofLe ((b.drop 4).take 4), ofLe ((b.drop 8).take 8), b.drop 16) else (0, 0, [])
theorem badD_cases (b : List UInt8) : badD b = 3 ∧ b.length < 32 ∨ badD b = 4 ∧ 65567 < b.length ∨ badD b = 9 ∧ 32 ≤ b.length ∧ b.length ≤ 65567 ∧ b.getD 0 0 ≠ 4 ∨ badD b = 10 ∧ 32 ≤ b.length ∧ b.length ≤ 65567 ∧ b.getD 0 0 = 4 ∧ ¬ zero3 b ∨ badD b = 0 ∧ 32 ≤ b.length ∧ b.length ≤ 65567 ∧ b.getD 0 0 = 4 ∧ zero3 b := by
  unfold badD
  split
  · exact .inl ⟨rfl, by assumption⟩
  · split
    · exact .inr (.inl ⟨rfl, by assumption⟩)
    · split
      · exact .inr (.inr (.inl ⟨rfl, by omega, by omega, by assumption⟩))
      · split
        · exact .inr (.inr (.inr (.inl ⟨rfl, by omega, by omega, by simp_all, by assumption⟩)))
        · exact .inr (.inr (.inr (.inr ⟨rfl, by omega, by omega, by simp_all, by simp_all⟩)))
theorem newsD {w W : World} {ad : Addr} {n : Nat} {L : List UInt8} (hc : ∀ k, k < n - 16 → w.cell? (ad.add k) = some (B (L.getD k 0))) (hL : L.length = n - 16) (hb : Below w.heap.size w W) : ∀ j u, (encs B L)[j]? = some u → W.cell? (ad.add j) = some u := by
  intro j u h
  obtain ⟨hj, _⟩ := List.getElem?_eq_some_iff.1 h
  rw [encs_length] at hj
  rw [encs_get (d := 0) _ j hj] at h
  rw [← h]
  exact pw_cell_below hb (hc j (by omega))
theorem below_grown1 {w W w1 : World} {g : Nat} {n c : Nat} (h : Below w.heap.size w W) (hg : W.grownBy w1 (Value.slice (some ⟨w.heap.size + g, 0, none⟩) n c).ownBlock) : Below w.heap.size w w1 :=
  grown_below (g := w.heap.size + g) hg h h.size (by omega)
theorem RB.set3 {w : World} {v : Value} {l : List UInt8} {g : Nat} (h : RB w v l) (hv : v.ownBlock ≠ some g) (x y z : Value) : RB (((w.setCell ⟨g, 0, none⟩ x).setCell ⟨g, 1, none⟩ y).setCell ⟨g, 2, none⟩ z) v l :=
  RB.grown (RB.grown (RB.grown h (grown_set w g 0 x) (.inr hv)) (grown_set _ g 1 y) (.inr hv)) (grown_set _ g 2 z) (.inr hv)
theorem set3_below (w : World) (g : Nat) (x y z : Value) : Below g w (((w.setCell ⟨g, 0, none⟩ x).setCell ⟨g, 1, none⟩ y).setCell ⟨g, 2, none⟩ z) :=
  (((Below.refl _ _).setCell (p := ⟨g, 0, none⟩) (Nat.le_refl _) x).setCell (p := ⟨g, 1, none⟩) (Nat.le_refl _) y).setCell (p := ⟨g, 2, none⟩) (Nat.le_refl _) z
/-- What parsing hands back. -/
def GotD (w : World) (b : List UInt8) (e : Ending) (w' : World) : Prop := ∃ v, e = .returned (.tuple #[.agg #[.int .u32 ((msgD b).1 : Int), .int .u64 ((msgD b).2.1 : Int), v], .int .i64 (badD b)]) ∧ RB w' v (msgD b).2.2 ∧ Below w.heap.size w w' ∧ ∀ g, g < w.heap.size → v.ownBlock ≠ some g
theorem msgD_bad (b : List UInt8) (h : ¬ badD b = 0) : msgD b = (0, 0, []) := if_neg h
theorem msgD_good (b : List UInt8) (h : badD b = 0) : msgD b = (ofLe ((b.drop 4).take 4), ofLe ((b.drop 8).take 8), b.drop 16) := if_pos h

set_option maxHeartbeats 4000000 in
theorem refParse_any (A : Option Addr) (c : Nat) (b : List UInt8) (w : World) (hc : b.length ≤ c) (hr : ReadsOf B 0 w A b.length b) :
    Calls Try.prog 36 #[.slice A b.length c] w (GotD w b) := by
  have hl := hr.2.1
  rcases badD_cases b with ⟨hb, h⟩ | ⟨hb, h⟩ | ⟨hb, h, h2, h0⟩ | ⟨hb, h, h2, h0, h1⟩ | ⟨hb, h, h2, h0, h1⟩
  · have hm := msgD_bad b (by rw [hb]; decide)
    unfold GotD
    rw [hm, hb]
    clear hm hb
    go_enter Try.func36, Try.ntmps36
    go_wp2_with fail
    refine bodyPost_ret (by simp [results, Try.results36, go_sem]; try rfl) rfl ?_
    exact ⟨_, rfl, RB.nil _, below_alloc (Below.refl _ _) _, fun g _ => by simp [Value.ownBlock]⟩
  · have hm := msgD_bad b (by rw [hb]; decide)
    unfold GotD
    rw [hm, hb]
    clear hm hb
    go_enter Try.func36, Try.ntmps36
    go_wp2_with fail
    refine bodyPost_ret (by simp [results, Try.results36, go_sem]; try rfl) rfl ?_
    exact ⟨_, rfl, RB.nil _, below_alloc (Below.refl _ _) _, fun g _ => by simp [Value.ownBlock]⟩
  · have hm := msgD_bad b (by rw [hb]; decide)
    unfold GotD
    rw [hm, hb]
    clear hm hb
    obtain ⟨ad, rfl, hc0⟩ := reads_cell hr 0 (by omega)
    rw [show ad.add 0 = ad by simp [Addr.add]] at hc0
    have hd0 := fun o1 => pw_cell_below (below_alloc (Below.refl w.heap.size w) o1) hc0
    have hy0 := byte_lt (b.getD 0 0)
    have hx0 : ¬ ((b.getD 0 0).toNat : Int) = 4 := fun e => h0 (UInt8.toNat_inj.1 (by rw [show (b.getD 0 0).toNat = 4 by omega]; rfl))
    generalize (b.getD 0 0).toNat = x0 at hd0 hx0 hy0
    clear hc0 h0
    go_enter Try.func36, Try.ntmps36
    go_wp2_with fail
    refine bodyPost_ret (by simp [results, Try.results36, go_sem]; try rfl) rfl ?_
    exact ⟨_, rfl, RB.nil _, below_alloc (Below.refl _ _) _, fun g _ => by simp [Value.ownBlock]⟩
  · have hm := msgD_bad b (by rw [hb]; decide)
    unfold GotD
    rw [hm, hb]
    clear hm hb
    obtain ⟨ad, rfl, hc0⟩ := reads_cell hr 0 (by omega)
    rw [show ad.add 0 = ad by simp [Addr.add]] at hc0
    have hd0 := fun o1 => pw_cell_below (below_alloc (Below.refl w.heap.size w) o1) hc0
    have hy0 := byte_lt (b.getD 0 0)
    obtain ⟨ad1, e1, hc1⟩ := reads_cell hr 1 (by omega)
    injection e1 with e1
    subst e1
    rw [add_lit ad 1 (by decide)] at hc1
    have hd1 := fun o1 => pw_cell_below (below_alloc (Below.refl w.heap.size w) o1) hc1
    have hy1 := byte_lt (b.getD 1 0)
    obtain ⟨ad2, e2, hc2⟩ := reads_cell hr 2 (by omega)
    injection e2 with e2
    subst e2
    rw [add_lit ad 2 (by decide)] at hc2
    have hd2 := fun o1 => pw_cell_below (below_alloc (Below.refl w.heap.size w) o1) hc2
    have hy2 := byte_lt (b.getD 2 0)
    obtain ⟨ad3, e3, hc3⟩ := reads_cell hr 3 (by omega)
    injection e3 with e3
    subst e3
    rw [add_lit ad 3 (by decide)] at hc3
    have hd3 := fun o1 => pw_cell_below (below_alloc (Below.refl w.heap.size w) o1) hc3
    have hy3 := byte_lt (b.getD 3 0)
    have hx0 : ((b.getD 0 0).toNat : Int) = 4 := by rw [h0]; rfl
    have hx : ¬ (((b.getD 1 0).toNat : Int) = 0 ∧ ((b.getD 2 0).toNat : Int) = 0 ∧ ((b.getD 3 0).toNat : Int) = 0) := fun e => h1 ⟨UInt8.toNat_inj.1 (by show _ = 0; omega), UInt8.toNat_inj.1 (by show _ = 0; omega), UInt8.toNat_inj.1 (by show _ = 0; omega)⟩
    generalize (b.getD 0 0).toNat = x0 at hc0 hd0 hx0 hy0
    generalize (b.getD 1 0).toNat = x1 at hc1 hd1 hx hy1
    generalize (b.getD 2 0).toNat = x2 at hc2 hd2 hx hy2
    generalize (b.getD 3 0).toNat = x3 at hc3 hd3 hx hy3
    clear hc0 hc1 hc2 hc3 h0 h1
    have h3 : ¬ (x1 : Int) = 0 ∨ ((x1 : Int) = 0 ∧ ¬ (x2 : Int) = 0) ∨ ((x1 : Int) = 0 ∧ (x2 : Int) = 0 ∧ ¬ (x3 : Int) = 0) := by omega
    clear hx
    rcases h3 with h3 | ⟨h3, h4⟩ | ⟨h3, h4, h5⟩
    · go_enter Try.func36, Try.ntmps36
      go_wp2_with fail
      refine bodyPost_ret (by simp [results, Try.results36, go_sem]; try rfl) rfl ?_
      exact ⟨_, rfl, RB.nil _, below_alloc (Below.refl _ _) _, fun g _ => by simp [Value.ownBlock]⟩
    · go_enter Try.func36, Try.ntmps36
      go_wp2_with fail
      refine bodyPost_ret (by simp [results, Try.results36, go_sem]; try rfl) rfl ?_
      exact ⟨_, rfl, RB.nil _, below_alloc (Below.refl _ _) _, fun g _ => by simp [Value.ownBlock]⟩
    · go_enter Try.func36, Try.ntmps36
      go_wp2_with fail
      refine bodyPost_ret (by simp [results, Try.results36, go_sem]; try rfl) rfl ?_
      exact ⟨_, rfl, RB.nil _, below_alloc (Below.refl _ _) _, fun g _ => by simp [Value.ownBlock]⟩
  · have hm := msgD_good b hb
    unfold GotD
    rw [hm, hb]
    clear hm hb
    obtain ⟨ad, rfl, hc0⟩ := reads_cell hr 0 (by omega)
    rw [show ad.add 0 = ad by simp [Addr.add]] at hc0
    have hd0 := fun o1 => pw_cell_below (below_alloc (Below.refl w.heap.size w) o1) hc0
    have hy0 := byte_lt (b.getD 0 0)
    obtain ⟨ad1, e1, hc1⟩ := reads_cell hr 1 (by omega)
    injection e1 with e1
    subst e1
    rw [add_lit ad 1 (by decide)] at hc1
    have hd1 := fun o1 => pw_cell_below (below_alloc (Below.refl w.heap.size w) o1) hc1
    have hy1 := byte_lt (b.getD 1 0)
    obtain ⟨ad2, e2, hc2⟩ := reads_cell hr 2 (by omega)
    injection e2 with e2
    subst e2
    rw [add_lit ad 2 (by decide)] at hc2
    have hd2 := fun o1 => pw_cell_below (below_alloc (Below.refl w.heap.size w) o1) hc2
    have hy2 := byte_lt (b.getD 2 0)
    obtain ⟨ad3, e3, hc3⟩ := reads_cell hr 3 (by omega)
    injection e3 with e3
    subst e3
    rw [add_lit ad 3 (by decide)] at hc3
    have hd3 := fun o1 => pw_cell_below (below_alloc (Below.refl w.heap.size w) o1) hc3
    have hy3 := byte_lt (b.getD 3 0)
    obtain ⟨h1, h3, h4⟩ := h1
    have hx0 : ((b.getD 0 0).toNat : Int) = 4 := by rw [h0]; rfl
    have hx1 : ((b.getD 1 0).toNat : Int) = 0 := by rw [h1]; rfl
    have hx2 : ((b.getD 2 0).toNat : Int) = 0 := by rw [h3]; rfl
    have hx3 : ((b.getD 3 0).toNat : Int) = 0 := by rw [h4]; rfl
    generalize (b.getD 0 0).toNat = x0 at hc0 hd0 hx0 hy0
    generalize (b.getD 1 0).toNat = x1 at hc1 hd1 hx1 hy1
    generalize (b.getD 2 0).toNat = x2 at hc2 hd2 hx2 hy2
    generalize (b.getD 3 0).toNat = x3 at hc3 hd3 hx3 hy3
    clear hc0 hc1 hc2 hc3 h0 h1 h3 h4
    obtain ⟨A1, hsl1, hrd1, _⟩ := mid2 (some ad) c b 4 4 (by omega) hc
    have hl1 : ((b.drop 4).take 4).length = 4 := by rw [List.length_take, List.length_drop]; omega
    have hs1 : ∀ W : World, (Instr.slice 27 (.slice (some ad) b.length c) (some (.int .i64 4)) (some (.int .i64 8)) none).run Try.prog W = .ok (.slice A1 4 (c - 4)) W := hsl1
    have HD1 : ∀ W : World, Below w.heap.size w W → RB W (.slice A1 4 (c - 4)) ((b.drop 4).take 4) := fun W hb => by
      refine ⟨_, c - 4, by rw [hl1], by rw [hl1]; omega, ?_⟩
      rw [hl1]
      exact (hrd1 w hr).below hb
    have HG1 := Lib.hid (fun W (hb : Below w.heap.size w W) => En.get_any _ _ W (HD1 W hb) (by rw [hl1]; decide))
    obtain ⟨A2, hsl2, hrd2, _⟩ := mid2 (some ad) c b 8 8 (by omega) hc
    have hl2 : ((b.drop 8).take 8).length = 8 := by rw [List.length_take, List.length_drop]; omega
    have hs2 : ∀ W : World, (Instr.slice 27 (.slice (some ad) b.length c) (some (.int .i64 8)) (some (.int .i64 16)) none).run Try.prog W = .ok (.slice A2 8 (c - 8)) W := hsl2
    have HD2 : ∀ W : World, Below w.heap.size w W → RB W (.slice A2 8 (c - 8)) ((b.drop 8).take 8) := fun W hb => by
      refine ⟨_, c - 8, by rw [hl2], by rw [hl2]; omega, ?_⟩
      rw [hl2]
      exact (hrd2 w hr).below hb
    have HG2 := Lib.hid (fun W (hb : Below w.heap.size w W) => En.get_any _ _ W (HD2 W hb) (by rw [hl2]; decide))
    have hq1 : ofLe ((b.drop 4).take 4) < 4294967296 := by have := ofLe_lt ((b.drop 4).take 4); rw [hl1] at this; exact this
    obtain ⟨A3, hsl3, hrd3, _⟩ := from2 (some ad) c b 16 (by omega) hc
    have hs3 : ∀ W : World, (Instr.slice 27 (.slice (some ad) b.length c) (some (.int .i64 16)) none none).run Try.prog W = .ok (.slice A3 (b.length - 16) (c - 16)) W := hsl3
    have HD3 := Lib.hid (hrd3 w hr)
    have hl3 : (b.drop 16).length = b.length - 16 := List.length_drop
    have HL3 := Lib.hid hl3
    clear HD1 HD2 hrd1 hrd2 hrd3 hl1 hl2 hl3 hr hsl1 hsl2 hsl3
    generalize ofLe ((b.drop 4).take 4) = q1 at HG1 hq1 ⊢
    generalize ofLe ((b.drop 8).take 8) = q2 at HG2 ⊢
    obtain ⟨n, hn⟩ : ∃ n : Nat, b.length = n := ⟨_, rfl⟩
    rw [hn] at h h2 hc hl hs1 hs2 hs3 ⊢
    rw [hn] at HL3 HD3
    clear hn
    obtain ⟨i8, hi8, hz8⟩ := Option.map_eq_some_iff.1 info8
    simp only [Prod.mk.injEq] at hz8
    have HI := Lib.hid hi8
    have HZ8 := Lib.hid hz8
    clear hi8 hz8
    obtain ⟨L, hL⟩ : ∃ L, b.drop 16 = L := ⟨_, rfl⟩
    rw [hL] at HL3 HD3 ⊢
    clear hL
    obtain ⟨ad3, e3, hc3⟩ := HD3.out.2.2 (by omega)
    subst e3
    have HC3 := Lib.hid hc3
    clear hc3
    have HOL : Hid (OB (w.heap.size + 1) (((w.alloc (.cells #[.int .u32 0, .int .u64 0, .slice none 0 0] 59)).alloc (.cells #[] 5)).drew) (.slice (some ⟨w.heap.size + 1, 0, none⟩) 0 0) []) := Lib.hid (by
      have h := OB.lit (w.alloc (.cells #[.int .u32 0, .int .u64 0, .slice none 0 0] 59)) (w.alloc (.cells #[.int .u32 0, .int .u64 0, .slice none 0 0] 59)).heap.size [] (Nat.le_refl _) (by decide)
      rw [size_push] at h
      exact h.below (below_drew (Below.refl _ _)))
    have hwq : IntKind.u32.wrap (q1 : Int) = q1 := by rw [IntKind.wrap_u32]; omega
    go_enter Try.func36, Try.ntmps36
    go_wp2_with fail
    go_region_held3 (fun _ => True) (trivial) (first | (go_at_call 65; refine (HG1.out _ (by first | exact below_drew (below_alloc (Below.refl _ _) _) | exact below_alloc (below_drew (below_alloc (Below.refl _ _) _)) _)).mono ?_; rintro e w' ⟨rfl, rfl⟩; clear HG1) | (go_at_call 65; refine (HG2.out _ (by first | exact below_drew (below_alloc (Below.refl _ _) _) | exact below_alloc (below_drew (below_alloc (Below.refl _ _) _)) _)).mono ?_; rintro e w' ⟨rfl, rfl⟩) | (rw [if_pos (by rfl)]; refine wp_append_own _ (.tmp 41) (.tmp 43) 27 rfl (w.heap.size + 1) 5 i8 (.int .u8 0) 1 1 Try.underlying27 HI.out HZ8.out.1 HZ8.out.2.1 HZ8.out.2.2 rfl (by decide) (.slice (some ⟨w.heap.size + 1, 0, none⟩) 0 0) 0 [] rfl HOL.out ad3 (n - 16) (c - 16) (encs B L) rfl (by rw [encs_length, HL3.out, Nat.mul_one]) (newsD HC3.out HL3.out (below_drew (below_alloc (below_alloc (Below.refl _ _) _) _))) (fun u hu => by simp only [encs, List.mem_map] at hu; obtain ⟨q, _, rfl⟩ := hu; rfl) (by unfold maxLen; omega) (by omega) (by have h := size_push (w.alloc (.cells #[.int .u32 0, .int .u64 0, .slice none 0 0] 59)) (.cells #[] 5); have h2 := size_push w (.cells #[.int .u32 0, .int .u64 0, .slice none 0 0] 59); show w.heap.size + 1 ≤ ((w.alloc (.cells #[.int .u32 0, .int .u64 0, .slice none 0 0] 59)).alloc (.cells #[] 5)).heap.size; omega) ?_; intro v3 w3 ho hgr _; have ho2 : OB (w.heap.size + 1) w3 v3 L := (by unfold OB; rw [HL3.out]; simpa using ho); obtain ⟨g3, k3, e3, hg1, hg2, hg3⟩ := OB.form ho2 (by rw [HL3.out]; omega); subst e3; have HO := Lib.hid ho2; have HX := Lib.hid (blk_grown (show ((((w.alloc (.cells #[.int .u32 0, .int .u64 0, .slice none 0 0] 59)).alloc (.cells #[] 5)).drew)).heap[w.heap.size]? = _ from blk_old (blk_new w _) _) hgr (fun e => by simp [Value.ownBlock] at e)); have HB3 := Lib.hid (below_grown1 (below_drew (below_alloc (below_alloc (Below.refl _ _) _) _)) hgr); obtain ⟨d0, d1, d2, f0, f1, f2⟩ := three_at HX.out; clear ho ho2 hgr hg1 hg2 hg3))
    all_goals (go_wp2_with fail; refine bodyPost_ret (by simp [results, Try.results36, go_sem, d0, d1, d2]; try rfl) rfl ?_; exact ⟨_, rfl, RB.set3 (OB.rb HO.out) (OB.away HO.out (Nat.lt_succ_self _)) _ _ _, HB3.out.trans (set3_below w3 w.heap.size _ _ _), fun g hg => OB.away HO.out (by omega)⟩)
end Go.Proofs.Ytnehbhhjdjiieaa.Da
