/- Package data and its reference: the bytes of a message that carries a packet. -/
import Derived.Test.YtnehbhhjdjiieaaCo
import Derived.Test.YtnehbhhjdjiieaaTn
import Derived.Deep.RegionHeld3
set_option linter.unusedSimpArgs false
set_option linter.unusedVariables false
set_option maxRecDepth 100000
namespace Go.Proofs.Ytnehbhhjdjiieaa.Da
open Go.RowKit Go.Proofs.YtnehbhhjdjiieaaW.PrintWords Go.Proofs.Ytnehbhhjdjiieaa.Bs Go.Proofs.Ytnehbhhjdjiieaa.Le Go.Proofs.Ytnehbhhjdjiieaa.Mv Go.Proofs.Ytnehbhhjdjiieaa.Co

/-- The bytes of a message. -/
def rawD (r c : Nat) (body : List UInt8) : List UInt8 := [4, 0, 0, 0] ++ leB 4 r ++ leB 8 c ++ body
/-- Why a body may not be so long, or 0. -/
def sizeE (n : Int) : Int := if n < 16 then 3 else if 65551 < n then 4 else 0

theorem sized_any (n : Int) (w : World) (h0 : -9223372036854775808 ≤ n) (h1 : n ≤ 9223372036854775807) :
    Calls Try.prog 66 #[.int .i64 n] w fun e w' => e = .returned (.int .i64 (sizeE n)) ∧ w = w' := by
  unfold sizeE
  by_cases ha : n < 16
  · rw [if_pos ha]
    go_enter Try.func66, Try.ntmps66
    go_wp2
    go_ret
    exact ⟨rfl, rfl⟩
  · rw [if_neg ha]
    by_cases hb : 65551 < n
    · rw [if_pos hb]
      go_enter Try.func66, Try.ntmps66
      go_wp2
      go_ret
      exact ⟨rfl, rfl⟩
    · rw [if_neg hb]
      go_enter Try.func66, Try.ntmps66
      go_wp2
      go_ret
      exact ⟨rfl, rfl⟩

theorem three_at {w : World} {g : Nat} {T : TypeId} {x y z : Value} (h : w.heap[g]? = some (.cells #[x, y, z] T (0, 0))) :
    w.cell? ⟨g, 0, none⟩ = some x ∧ w.cell? ⟨g, 1, none⟩ = some y ∧ w.cell? ⟨g, 2, none⟩ = some z ∧ w.frozen? ⟨g, 0, none⟩ = false ∧ w.frozen? ⟨g, 1, none⟩ = false ∧ w.frozen? ⟨g, 2, none⟩ = false :=
  ⟨(blk_cell h 0).trans rfl, (blk_cell h 1).trans rfl, (blk_cell h 2).trans rfl, blk_frozen h 0, blk_frozen h 1, blk_frozen h 2⟩
theorem OB.away {base g : Nat} {w : World} {v : Value} {l : List UInt8} (h : OB base w v l) (hg : g < base) : v.ownBlock ≠ some g := by
  intro e
  have := own_base h g e
  omega

theorem flat4 (a b c d : List UInt8) : [a, b, c, d].flatten = a ++ b ++ c ++ d := by simp

set_option maxHeartbeats 2000000 in
theorem bytes_bad (r c : Nat) (A : Option Addr) (body : List UInt8) (k : Nat) (w : World) (hl : body.length ≤ 9223372036854775807) (hE : sizeE (body.length : Int) ≠ 0) :
    Calls Try.prog 38 #[.agg #[.int .u32 r, .int .u64 c, .slice A body.length k]] w fun e w' => e = .returned (.tuple #[.slice none 0 0, .int .i64 (sizeE (body.length : Int))]) ∧ Below w.heap.size w w' := by
  obtain ⟨E, hEE⟩ : ∃ E, sizeE (body.length : Int) = E := ⟨_, rfl⟩
  have HEE := Lib.hid hEE
  rw [hEE] at hE ⊢
  clear hEE
  have hE2 : (E != 0) = true := bne_iff_ne.2 hE
  go_enter Try.func38, Try.ntmps38
  go_wp2_with fail
  refine (sized_any _ _ (by omega) (by omega)).mono ?_
  rintro e w' ⟨rfl, rfl⟩
  rw [HEE.out]
  go_wp2_with fail
  go_ret2
  exact ⟨rfl, below_alloc (Below.refl _ _) _⟩

set_option maxHeartbeats 2000000 in
theorem bytes_any (r c : Nat) (A : Option Addr) (body : List UInt8) (k : Nat) (w : World) (hr : r < 4294967296) (hc : Hid (c < 18446744073709551616)) (hb : RB w (.slice A body.length k) body) (hE : sizeE (body.length : Int) = 0) :
    Calls Try.prog 38 #[.agg #[.int .u32 r, .int .u64 c, .slice A body.length k]] w (En.RowTup w (rawD r c body)) := by
  have hl : body.length ≤ 65551 := by unfold sizeE at hE; split at hE; (simp at hE); split at hE; (simp at hE); omega
  have HBD := Lib.hid hb
  have HE := Lib.hid hE
  clear hb hE
  go_enter Try.func38, Try.ntmps38
  go_wp2_with fail
  refine (sized_any _ _ (by omega) (by omega)).mono ?_
  rintro e w' ⟨rfl, rfl⟩
  rw [HE.out]
  go_wp2_with fail
  refine (En.little_any r 4 _ (by omega) (by omega) (by omega) (fun _ => by show r < 256 ^ 4; omega)).mono ?_
  rintro e w1 ⟨v1, rfl, ho, hbl⟩
  have HX := Lib.hid (blk_below (blk_new w (.cells #[.int .u32 (r : Int), .int .u64 (c : Int), .slice A body.length k] 59)) hbl)
  have HB1 := Lib.hid (below_comp (below_alloc (Below.refl _ _) _) hbl)
  have HV1 := Lib.hid ho.rb
  obtain ⟨d0, d1, d2, _, _, _⟩ := three_at HX.out
  clear ho hbl
  go_wp2_with fail
  refine (En.little_any c 8 _ hc.out (by omega) (by omega) (fun h => absurd h (by decide))).mono ?_
  rintro e w2 ⟨v2, rfl, ho, hbl⟩
  have HX2 := Lib.hid (blk_below HX.out hbl)
  have HB2 := Lib.hid (below_comp HB1.out hbl)
  have HV2 := Lib.hid ho.rb
  have HV1' := Lib.hid (HV1.out.below hbl)
  have hd2 : ∀ o, (w2.alloc o).cell? ⟨w.heap.size, 2, none⟩ = some (.slice A body.length k) := fun o => (blk_cell (blk_old HX2.out o) 2).trans rfl
  clear ho hbl d0 d1 d2 HX HB1 HV1
  obtain ⟨A1, k1, e1, _, _⟩ := HV1'.out
  obtain ⟨A2, k2, e2, _, _⟩ := HV2.out
  subst e1 e2
  go_wp2_with fail
  have HRB : Hid (RBS ((w2.alloc (.cells #[.int .u8 4, .int .u8 0, .int .u8 0, .int .u8 0] 5)).alloc (.cells #[.slice (some ⟨w2.heap.size, 0, none⟩) 4 4, .slice A1 (leB 4 r).length k1, .slice A2 (leB 8 c).length k2, .slice A body.length k] 27)) (some ⟨w2.heap.size + 1, 0, none⟩) [[4, 0, 0, 0], leB 4 r, leB 8 c, body]) := Lib.hid (by
    refine RBS.block (vs := [.slice (some ⟨w2.heap.size, 0, none⟩) 4 4, .slice A1 (leB 4 r).length k1, .slice A2 (leB 8 c).length k2, .slice A body.length k]) (blk_new1 w2 _ _) rfl (by show 4 ≤ 9223372036854775807; decide) (fun j hj => ?_)
    have hL := (OB.lit w2 0 [4, 0, 0, 0] (Nat.zero_le _) (by decide)).rb
    match j, hj with
    | 0, _ => exact hL.alloc _
    | 1, _ => exact (HV1'.out.alloc _).alloc _
    | 2, _ => exact (HV2.out.alloc _).alloc _
    | 3, _ => exact ((HBD.out.below HB2.out).alloc _).alloc _)
  have HB3 := Lib.hid (below_alloc (below_alloc HB2.out (.cells #[.int .u8 4, .int .u8 0, .int .u8 0, .int .u8 0] 5)) (.cells #[.slice (some ⟨w2.heap.size, 0, none⟩) 4 4, .slice A1 (leB 4 r).length k1, .slice A2 (leB 8 c).length k2, .slice A body.length k] 27))
  refine (concat_any _ 4 [[4, 0, 0, 0], leB 4 r, leB 8 c, body] _ HRB.out (by rw [flat4]; simp only [List.length_append, leB_length, List.length_cons, List.length_nil]; omega)).mono ?_
  rintro e w3 ⟨v, rfl, ho, hbl⟩
  rw [flat4] at ho
  have HO := Lib.hid ho
  have HB4 := Lib.hid (below_comp HB3.out hbl)
  clear ho hbl hd2
  go_wp2_with fail
  go_ret2
  exact ⟨v, rfl, HO.out.weaken HB3.out.size, HB4.out⟩

theorem sizeE_len (n : Nat) : sizeE (n : Int) = 3 ∧ n < 16 ∨ sizeE (n : Int) = 4 ∧ 65551 < n ∨ sizeE (n : Int) = 0 ∧ 16 ≤ n ∧ n ≤ 65551 := by
  unfold sizeE
  split
  · exact .inl ⟨rfl, by omega⟩
  · split
    · exact .inr (.inl ⟨rfl, by omega⟩)
    · exact .inr (.inr ⟨rfl, by omega, by omega⟩)
theorem refBytes_bad (r c : Nat) (A : Option Addr) (body : List UInt8) (k : Nat) (w : World) (hl : body.length ≤ 9223372036854775807) (hE : sizeE (body.length : Int) ≠ 0) :
    Calls Try.prog 39 #[.agg #[.int .u32 r, .int .u64 c, .slice A body.length k]] w fun e w' => e = .returned (.tuple #[.slice none 0 0, .int .i64 (sizeE (body.length : Int))]) ∧ Below w.heap.size w w' := by
  rcases sizeE_len body.length with ⟨e, h⟩ | ⟨e, h⟩ | ⟨e, h⟩
  · rw [e]
    clear hE e
    go_enter Try.func39, Try.ntmps39
    go_wp2_with fail
    go_ret2
    exact ⟨rfl, below_alloc (Below.refl _ _) _⟩
  · rw [e]
    clear hE e
    go_enter Try.func39, Try.ntmps39
    go_wp2_with fail
    go_ret2
    exact ⟨rfl, below_alloc (Below.refl _ _) _⟩
  · exact absurd e hE

set_option maxHeartbeats 2000000 in
theorem refBytes_any (r c : Nat) (A : Option Addr) (body : List UInt8) (k : Nat) (w : World) (hr : r < 4294967296) (hc : Hid (c < 18446744073709551616)) (hb : RB w (.slice A body.length k) body) (hE : sizeE (body.length : Int) = 0) :
    Calls Try.prog 39 #[.agg #[.int .u32 r, .int .u64 c, .slice A body.length k]] w (En.RowTup w (rawD r c body)) := by
  have hl : 16 ≤ body.length ∧ body.length ≤ 65551 := by rcases sizeE_len body.length with ⟨e, h⟩ | ⟨e, h⟩ | ⟨e, h⟩; (rw [hE] at e; cases e); (rw [hE] at e; cases e); exact h
  obtain ⟨hl1, hl2⟩ := hl
  have HBD := Lib.hid hb
  clear hb hE
  go_enter Try.func39, Try.ntmps39
  go_wp2_with fail
  refine (En.put_any r 4 _ (by omega) (by omega) (by omega) (fun _ => by show r < 256 ^ 4; omega)).mono ?_
  rintro e w1 ⟨v1, rfl, ho, hbl⟩
  have HX := Lib.hid (blk_below (blk_new w (.cells #[.int .u32 (r : Int), .int .u64 (c : Int), .slice A body.length k] 59)) hbl)
  have HB1 := Lib.hid (below_comp (below_alloc (Below.refl _ _) _) hbl)
  have HV1 := Lib.hid ho.rb
  obtain ⟨d0, d1, d2, _, _, _⟩ := three_at HX.out
  clear ho hbl
  go_wp2_with fail
  refine (En.put_any c 8 _ hc.out (by omega) (by omega) (fun h => absurd h (by decide))).mono ?_
  rintro e w2 ⟨v2, rfl, ho, hbl⟩
  have HX2 := Lib.hid (blk_below HX.out hbl)
  have HB2 := Lib.hid (below_comp HB1.out hbl)
  have HV2 := Lib.hid ho.rb
  have HV1' := Lib.hid (HV1.out.below hbl)
  have HL : Hid (OB w2.heap.size (w2.alloc (.cells #[.int .u8 4, .int .u8 0, .int .u8 0, .int .u8 0] 5)) (.slice (some ⟨w2.heap.size, 0, none⟩) 4 4) [4, 0, 0, 0]) := Lib.hid (OB.lit w2 w2.heap.size [4, 0, 0, 0] (Nat.le_refl _) (by decide))
  clear ho hbl d0 d1 d2 HX HB1 HV1
  go_wp2_with (first | ((with_reducible refine is_builtin (b := .append) (xs := #[.tmp 30, .tmp 31]) rfl ?_); refine append_bytes (w0 := w2) (w2).heap.size rfl (.tmp 30) (.tmp 31) rfl (.slice (some ⟨w2.heap.size, 0, none⟩) 4 4) v1 [4, 0, 0, 0] (leB 4 r) rfl rfl ?aO ?aR ?aB ?aS ?aL ?_; (case aO => exact HL.out); (case aR => exact (HV1'.out.alloc _)); (case aB => exact (below_alloc (Below.refl w2.heap.size w2) _)); (case aS => exact ((below_alloc (Below.refl w2.heap.size w2) _)).size); (case aL => simp [leB_length]); intro u1 w3 ho hb1 hgr hown; have HO3 := Lib.hid ho; have HB3 := Lib.hid hb1; have HV3 := Lib.hid (HV2.out.below HB3.out); have HC3 := Lib.hid (blk_below HX2.out HB3.out); clear ho hb1 hgr hown) | ((with_reducible refine is_builtin (b := .append) (xs := #[.tmp 33, .tmp 34]) rfl ?_); refine append_bytes (w0 := w2) (w2).heap.size rfl (.tmp 33) (.tmp 34) rfl u1 v2 ([4, 0, 0, 0] ++ leB 4 r) (leB 8 c) rfl rfl ?aO ?aR ?aB ?aS ?aL ?_; (case aO => exact HO3.out); (case aR => exact HV3.out); (case aB => exact HB3.out); (case aS => exact (HB3.out).size); (case aL => simp [leB_length]); intro u2 w4 ho hb1 hgr hown; have HO4 := Lib.hid ho; have HB4 := Lib.hid hb1; have d2 : w4.cell? ⟨w.heap.size, 2, none⟩ = some (.slice A body.length k) := (blk_cell (blk_below HX2.out HB4.out) 2).trans rfl; have HBD4 := Lib.hid (HBD.out.below (below_comp HB2.out HB4.out)); clear ho hb1 hgr hown) | ((with_reducible refine is_builtin (b := .append) (xs := #[.tmp 36, .tmp 38]) rfl ?_); refine append_bytes (w0 := w2) (w2).heap.size rfl (.tmp 36) (.tmp 38) rfl u2 (.slice A body.length k) ([4, 0, 0, 0] ++ leB 4 r ++ leB 8 c) body rfl rfl ?aO ?aR ?aB ?aS ?aL ?_; (case aO => exact HO4.out); (case aR => exact HBD4.out); (case aB => exact HB4.out); (case aS => exact (HB4.out).size); (case aL => (simp only [List.length_append, leB_length, List.length_cons, List.length_nil]; omega)); intro u3 w5 ho hb1 hgr hown; have HO5 := Lib.hid ho; have HB5 := Lib.hid hb1; clear ho hb1 hgr hown))
  go_ret2
  exact ⟨u3, rfl, HO5.out.weaken HB2.out.size, below_comp HB2.out HB5.out⟩
end Go.Proofs.Ytnehbhhjdjiieaa.Da
