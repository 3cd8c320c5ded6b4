/- Package wire and its reference: the bytes of a message of any kind. -/
import Derived.Test.YtnehbhhjdjiieaaWm
import Derived.Test.YtnehbhhjdjiieaaOc
import Derived.Test.YtnehbhhjdjiieaaOa
import Derived.Test.YtnehbhhjdjiieaaOi
import Derived.Test.YtnehbhhjdjiieaaDs
set_option linter.unusedSimpArgs false
set_option linter.unusedVariables false
set_option maxRecDepth 100000
namespace Go.Proofs.Ytnehbhhjdjiieaa.Wm
open Go.RowKit Go.Proofs.YtnehbhhjdjiieaaW.PrintWords Go.Proofs.Ytnehbhhjdjiieaa.Bs Go.Proofs.Ytnehbhhjdjiieaa.Mv Go.Proofs.Ytnehbhhjdjiieaa.Da

/-- The bytes of a message, or why there are none. -/
def outW (kd : Int) (n1 : Nat) (L1 : List UInt8) (n2 m2 : Nat) (L2 : List UInt8) (n3 : Nat) (L3 : List UInt8) (r c : Nat) (body : List UInt8) : List UInt8 × Int :=
  if kd = 1 then (raw1 1 n1 L1, 0) else if kd = 2 then (raw2 2 n2 m2 L2, 0) else if kd = 3 then (raw1 3 n3 L3, 0) else if kd = 4 then (if sizeE (body.length : Int) = 0 then (rawD r c body, 0) else ([], sizeE (body.length : Int))) else ([], 9)
def TellsW (w : World) (o : List UInt8 × Int) (e : Ending) (w' : World) : Prop := ∃ v, e = .returned (.tuple #[v, .int .i64 o.2]) ∧ OB w.heap.size w' v o.1 ∧ Below w.heap.size w w'
theorem MV1s (n : Nat) (l : List UInt8) : (MV [n] l).size = 1 + l.length := by rw [MV_size]; rfl
theorem MV2s (n m : Nat) (l : List UInt8) : (MV [n, m] l).size = 2 + l.length := by rw [MV_size]; rfl
theorem infoT : (Try.prog.info? 59).map (·.size) = some 3 := by kernel_rfl

set_option maxHeartbeats 4000000 in
theorem bytes_any (kd : Int) (n1 : Nat) (L1 : List UInt8) (n2 m2 : Nat) (L2 : List UInt8) (n3 : Nat) (L3 : List UInt8) (r c : Nat) (A : Option Addr) (body : List UInt8) (k : Nat) (w : World) (hn1 : n1 < 4294967296) (hL1 : L1.length = 140) (hn2 : n2 < 4294967296) (hm2 : m2 < 4294967296) (hL2 : L2.length = 80) (hn3 : n3 < 4294967296) (hL3 : L3.length = 56) (hr : r < 4294967296) (hc : Hid (c < 18446744073709551616)) (hb : RB w (.slice A body.length k) body) :
    Calls Try.prog 50 #[.agg (WV kd (MV [n1] L1) (MV [n2, m2] L2) (MV [n3] L3) #[.int .u32 (r : Int), .int .u64 (c : Int), .slice A body.length k])] w (TellsW w (outW kd n1 L1 n2 m2 L2 n3 L3 r c body)) := by
  have HL1 := Lib.hid hL1
  have HL2 := Lib.hid hL2
  have HL3 := Lib.hid hL3
  have hbl := hb.len
  have HBD := Lib.hid (hb.alloc (.cells (WV kd (MV [n1] L1) (MV [n2, m2] L2) (MV [n3] L3) #[.int .u32 (r : Int), .int .u64 (c : Int), .slice A body.length k]) 87))
  clear hL1 hL2 hL3 hb
  unfold outW
  by_cases h1 : kd = 1
  · subst h1
    rw [if_pos rfl]
    have hx := blk_new w (.cells (WV 1 (MV [n1] L1) (MV [n2, m2] L2) (MV [n3] L3) #[.int .u32 (r : Int), .int .u64 (c : Int), .slice A body.length k]) 87)
    have c0 : (w.alloc (.cells (WV 1 (MV [n1] L1) (MV [n2, m2] L2) (MV [n3] L3) #[.int .u32 (r : Int), .int .u64 (c : Int), .slice A body.length k]) 87)).cell? ⟨w.heap.size, 0, none⟩ = some (.int .i64 1) := (blk_cell hx 0).trans (WV_0 _ _ _ _ _)
    have HB0 := Lib.hid (below_alloc (Below.refl w.heap.size w) (.cells (WV 1 (MV [n1] L1) (MV [n2, m2] L2) (MV [n3] L3) #[.int .u32 (r : Int), .int .u64 (c : Int), .slice A body.length k]) 87))
    have HX : Hid ((w.alloc (.cells (WV 1 (MV [n1] L1) (MV [n2, m2] L2) (MV [n3] L3) #[.int .u32 (r : Int), .int .u64 (c : Int), .slice A body.length k]) 87)).heap[w.heap.size]? = some (.cells (#[.int .i64 1] ++ MV [n1] L1 ++ (MV [n2, m2] L2 ++ MV [n3] L3 ++ #[.int .u32 (r : Int), .int .u64 (c : Int), .slice A body.length k])) 87 (0, 0))) := Lib.hid (by rw [← WV_i]; exact hx)
    clear hx
    have LD : ∀ {ops : Array Oper} {rest : List Oper} {op : Oper} {a : Act} {Q : Exit → Act → World → Prop}, Region.wanted op (yielded ops a.tmps) = true → op.op = .load 50 (.tmp 8) → a.eval (.tmp 8) = .pointer (some ⟨w.heap.size, 1, none⟩) → wpList Try.prog ops Q rest (a.put op.dst (.agg (MV [n1] L1))) (w.alloc (.cells (WV 1 (MV [n1] L1) (MV [n2, m2] L2) (MV [n3] L3) #[.int .u32 (r : Int), .int .u64 (c : Int), .slice A body.length k]) 87)) → wpList Try.prog ops Q (op :: rest) a (w.alloc (.cells (WV 1 (MV [n1] L1) (MV [n2, m2] L2) (MV [n3] L3) #[.int .u32 (r : Int), .int .u64 (c : Int), .slice A body.length k]) 87)) := fun hw ho hx h => step_load_at hw 50 (.tmp 8) ho hx (rfl) HX.out _ Try.underlying50 rfl (Mi.info_MV _ _ (by show 1 + L1.length = _; rw [HL1.out])) h
    clear HX
    go_enter Try.func50, Try.ntmps50
    go_wp2_with (first | ((with_reducible refine LD ?qw rfl rfl ?_); (case qw => rfl)))
    refine (Mi.bytes_any n1 L1 _ hn1 HL1.out).mono ?_
    rintro e w1 ⟨v, rfl, ho, hb⟩
    have HO := Lib.hid ho
    have HB1 := Lib.hid (below_comp HB0.out hb)
    clear ho hb c0
    go_wp2_with fail
    go_ret2
    exact ⟨v, rfl, HO.out.weaken HB0.out.size, HB1.out⟩
  by_cases h2 : kd = 2
  · subst h2
    rw [if_neg (by decide), if_pos rfl]
    have hx := blk_new w (.cells (WV 2 (MV [n1] L1) (MV [n2, m2] L2) (MV [n3] L3) #[.int .u32 (r : Int), .int .u64 (c : Int), .slice A body.length k]) 87)
    have c0 : (w.alloc (.cells (WV 2 (MV [n1] L1) (MV [n2, m2] L2) (MV [n3] L3) #[.int .u32 (r : Int), .int .u64 (c : Int), .slice A body.length k]) 87)).cell? ⟨w.heap.size, 0, none⟩ = some (.int .i64 2) := (blk_cell hx 0).trans (WV_0 _ _ _ _ _)
    have HB0 := Lib.hid (below_alloc (Below.refl w.heap.size w) (.cells (WV 2 (MV [n1] L1) (MV [n2, m2] L2) (MV [n3] L3) #[.int .u32 (r : Int), .int .u64 (c : Int), .slice A body.length k]) 87))
    have HX : Hid ((w.alloc (.cells (WV 2 (MV [n1] L1) (MV [n2, m2] L2) (MV [n3] L3) #[.int .u32 (r : Int), .int .u64 (c : Int), .slice A body.length k]) 87)).heap[w.heap.size]? = some (.cells ((#[.int .i64 2] ++ MV [n1] L1) ++ MV [n2, m2] L2 ++ (MV [n3] L3 ++ #[.int .u32 (r : Int), .int .u64 (c : Int), .slice A body.length k])) 87 (0, 0))) := Lib.hid (by rw [← WV_r]; exact hx)
    clear hx
    have LD : ∀ {ops : Array Oper} {rest : List Oper} {op : Oper} {a : Act} {Q : Exit → Act → World → Prop}, Region.wanted op (yielded ops a.tmps) = true → op.op = .load 40 (.tmp 13) → a.eval (.tmp 13) = .pointer (some ⟨w.heap.size, 142, none⟩) → wpList Try.prog ops Q rest (a.put op.dst (.agg (MV [n2, m2] L2))) (w.alloc (.cells (WV 2 (MV [n1] L1) (MV [n2, m2] L2) (MV [n3] L3) #[.int .u32 (r : Int), .int .u64 (c : Int), .slice A body.length k]) 87)) → wpList Try.prog ops Q (op :: rest) a (w.alloc (.cells (WV 2 (MV [n1] L1) (MV [n2, m2] L2) (MV [n3] L3) #[.int .u32 (r : Int), .int .u64 (c : Int), .slice A body.length k]) 87)) := fun hw ho hx h => step_load_at hw 40 (.tmp 13) ho hx (by rw [Array.size_append, MV1s, HL1.out]; rfl) HX.out _ Try.underlying40 rfl (Ma.info_MV _ _ (by show 2 + L2.length = _; rw [HL2.out])) h
    clear HX
    go_enter Try.func50, Try.ntmps50
    go_wp2_with (first | ((with_reducible refine LD ?qw rfl rfl ?_); (case qw => rfl)))
    refine (Ma.bytes_any n2 m2 L2 _ hn2 hm2 HL2.out).mono ?_
    rintro e w1 ⟨v, rfl, ho, hb⟩
    have HO := Lib.hid ho
    have HB1 := Lib.hid (below_comp HB0.out hb)
    clear ho hb c0
    go_wp2_with fail
    go_ret2
    exact ⟨v, rfl, HO.out.weaken HB0.out.size, HB1.out⟩
  by_cases h3 : kd = 3
  · subst h3
    rw [if_neg (by decide), if_neg (by decide), if_pos rfl]
    have hx := blk_new w (.cells (WV 3 (MV [n1] L1) (MV [n2, m2] L2) (MV [n3] L3) #[.int .u32 (r : Int), .int .u64 (c : Int), .slice A body.length k]) 87)
    have c0 : (w.alloc (.cells (WV 3 (MV [n1] L1) (MV [n2, m2] L2) (MV [n3] L3) #[.int .u32 (r : Int), .int .u64 (c : Int), .slice A body.length k]) 87)).cell? ⟨w.heap.size, 0, none⟩ = some (.int .i64 3) := (blk_cell hx 0).trans (WV_0 _ _ _ _ _)
    have HB0 := Lib.hid (below_alloc (Below.refl w.heap.size w) (.cells (WV 3 (MV [n1] L1) (MV [n2, m2] L2) (MV [n3] L3) #[.int .u32 (r : Int), .int .u64 (c : Int), .slice A body.length k]) 87))
    have HX : Hid ((w.alloc (.cells (WV 3 (MV [n1] L1) (MV [n2, m2] L2) (MV [n3] L3) #[.int .u32 (r : Int), .int .u64 (c : Int), .slice A body.length k]) 87)).heap[w.heap.size]? = some (.cells ((#[.int .i64 3] ++ MV [n1] L1 ++ MV [n2, m2] L2) ++ MV [n3] L3 ++ #[.int .u32 (r : Int), .int .u64 (c : Int), .slice A body.length k]) 87 (0, 0))) := Lib.hid (by rw [← WV_c]; exact hx)
    clear hx
    have LD : ∀ {ops : Array Oper} {rest : List Oper} {op : Oper} {a : Act} {Q : Exit → Act → World → Prop}, Region.wanted op (yielded ops a.tmps) = true → op.op = .load 26 (.tmp 18) → a.eval (.tmp 18) = .pointer (some ⟨w.heap.size, 224, none⟩) → wpList Try.prog ops Q rest (a.put op.dst (.agg (MV [n3] L3))) (w.alloc (.cells (WV 3 (MV [n1] L1) (MV [n2, m2] L2) (MV [n3] L3) #[.int .u32 (r : Int), .int .u64 (c : Int), .slice A body.length k]) 87)) → wpList Try.prog ops Q (op :: rest) a (w.alloc (.cells (WV 3 (MV [n1] L1) (MV [n2, m2] L2) (MV [n3] L3) #[.int .u32 (r : Int), .int .u64 (c : Int), .slice A body.length k]) 87)) := fun hw ho hx h => step_load_at hw 26 (.tmp 18) ho hx (by rw [Array.size_append, Array.size_append, MV1s, MV2s, HL1.out, HL2.out]; rfl) HX.out _ Try.underlying26 rfl (Mc.info_MV _ _ (by show 1 + L3.length = _; rw [HL3.out])) h
    clear HX
    go_enter Try.func50, Try.ntmps50
    go_wp2_with (first | ((with_reducible refine LD ?qw rfl rfl ?_); (case qw => rfl)))
    refine (Mc.bytes_any n3 L3 _ hn3 HL3.out).mono ?_
    rintro e w1 ⟨v, rfl, ho, hb⟩
    have HO := Lib.hid ho
    have HB1 := Lib.hid (below_comp HB0.out hb)
    clear ho hb c0
    go_wp2_with fail
    go_ret2
    exact ⟨v, rfl, HO.out.weaken HB0.out.size, HB1.out⟩
  by_cases h4 : kd = 4
  · subst h4
    rw [if_neg (by decide), if_neg (by decide), if_neg (by decide), if_pos rfl]
    by_cases hE : sizeE (body.length : Int) = 0
    · rw [if_pos hE]
      have HE := Lib.hid hE
      clear hE
      have hx := blk_new w (.cells (WV 4 (MV [n1] L1) (MV [n2, m2] L2) (MV [n3] L3) #[.int .u32 (r : Int), .int .u64 (c : Int), .slice A body.length k]) 87)
      have c0 : (w.alloc (.cells (WV 4 (MV [n1] L1) (MV [n2, m2] L2) (MV [n3] L3) #[.int .u32 (r : Int), .int .u64 (c : Int), .slice A body.length k]) 87)).cell? ⟨w.heap.size, 0, none⟩ = some (.int .i64 4) := (blk_cell hx 0).trans (WV_0 _ _ _ _ _)
      have HB0 := Lib.hid (below_alloc (Below.refl w.heap.size w) (.cells (WV 4 (MV [n1] L1) (MV [n2, m2] L2) (MV [n3] L3) #[.int .u32 (r : Int), .int .u64 (c : Int), .slice A body.length k]) 87))
      have HX : Hid ((w.alloc (.cells (WV 4 (MV [n1] L1) (MV [n2, m2] L2) (MV [n3] L3) #[.int .u32 (r : Int), .int .u64 (c : Int), .slice A body.length k]) 87)).heap[w.heap.size]? = some (.cells ((#[.int .i64 4] ++ MV [n1] L1 ++ MV [n2, m2] L2 ++ MV [n3] L3) ++ #[.int .u32 (r : Int), .int .u64 (c : Int), .slice A body.length k] ++ #[]) 87 (0, 0))) := Lib.hid (by rw [← WV_t]; exact hx)
      clear hx
      have LD : ∀ {ops : Array Oper} {rest : List Oper} {op : Oper} {a : Act} {Q : Exit → Act → World → Prop}, Region.wanted op (yielded ops a.tmps) = true → op.op = .load 59 (.tmp 23) → a.eval (.tmp 23) = .pointer (some ⟨w.heap.size, 281, none⟩) → wpList Try.prog ops Q rest (a.put op.dst (.agg (#[.int .u32 (r : Int), .int .u64 (c : Int), .slice A body.length k]))) (w.alloc (.cells (WV 4 (MV [n1] L1) (MV [n2, m2] L2) (MV [n3] L3) #[.int .u32 (r : Int), .int .u64 (c : Int), .slice A body.length k]) 87)) → wpList Try.prog ops Q (op :: rest) a (w.alloc (.cells (WV 4 (MV [n1] L1) (MV [n2, m2] L2) (MV [n3] L3) #[.int .u32 (r : Int), .int .u64 (c : Int), .slice A body.length k]) 87)) := fun hw ho hx h => step_load_at hw 59 (.tmp 23) ho hx (by rw [Array.size_append, Array.size_append, Array.size_append, MV1s, MV2s, MV1s, HL1.out, HL2.out, HL3.out]; rfl) HX.out _ Try.underlying59 rfl (infoT) h
      clear HX
      go_enter Try.func50, Try.ntmps50
      go_wp2_with (first | ((with_reducible refine LD ?qw rfl rfl ?_); (case qw => rfl)))
      refine (Da.bytes_any r c A body k _ hr hc HBD.out HE.out).mono ?_
      rintro e w1 ⟨v, rfl, ho, hb⟩
      have HO := Lib.hid ho
      have HB1 := Lib.hid (below_comp HB0.out hb)
      clear ho hb c0
      go_wp2_with fail
      go_ret2
      exact ⟨v, rfl, HO.out.weaken HB0.out.size, HB1.out⟩
    · rw [if_neg hE]
      obtain ⟨E, hEE⟩ : ∃ E, sizeE (body.length : Int) = E := ⟨_, rfl⟩
      have HE := Lib.hid hEE
      have HEN := Lib.hid hE
      rw [hEE]
      clear hE hEE
      have hx := blk_new w (.cells (WV 4 (MV [n1] L1) (MV [n2, m2] L2) (MV [n3] L3) #[.int .u32 (r : Int), .int .u64 (c : Int), .slice A body.length k]) 87)
      have c0 : (w.alloc (.cells (WV 4 (MV [n1] L1) (MV [n2, m2] L2) (MV [n3] L3) #[.int .u32 (r : Int), .int .u64 (c : Int), .slice A body.length k]) 87)).cell? ⟨w.heap.size, 0, none⟩ = some (.int .i64 4) := (blk_cell hx 0).trans (WV_0 _ _ _ _ _)
      have HB0 := Lib.hid (below_alloc (Below.refl w.heap.size w) (.cells (WV 4 (MV [n1] L1) (MV [n2, m2] L2) (MV [n3] L3) #[.int .u32 (r : Int), .int .u64 (c : Int), .slice A body.length k]) 87))
      have HX : Hid ((w.alloc (.cells (WV 4 (MV [n1] L1) (MV [n2, m2] L2) (MV [n3] L3) #[.int .u32 (r : Int), .int .u64 (c : Int), .slice A body.length k]) 87)).heap[w.heap.size]? = some (.cells ((#[.int .i64 4] ++ MV [n1] L1 ++ MV [n2, m2] L2 ++ MV [n3] L3) ++ #[.int .u32 (r : Int), .int .u64 (c : Int), .slice A body.length k] ++ #[]) 87 (0, 0))) := Lib.hid (by rw [← WV_t]; exact hx)
      clear hx
      have LD : ∀ {ops : Array Oper} {rest : List Oper} {op : Oper} {a : Act} {Q : Exit → Act → World → Prop}, Region.wanted op (yielded ops a.tmps) = true → op.op = .load 59 (.tmp 23) → a.eval (.tmp 23) = .pointer (some ⟨w.heap.size, 281, none⟩) → wpList Try.prog ops Q rest (a.put op.dst (.agg (#[.int .u32 (r : Int), .int .u64 (c : Int), .slice A body.length k]))) (w.alloc (.cells (WV 4 (MV [n1] L1) (MV [n2, m2] L2) (MV [n3] L3) #[.int .u32 (r : Int), .int .u64 (c : Int), .slice A body.length k]) 87)) → wpList Try.prog ops Q (op :: rest) a (w.alloc (.cells (WV 4 (MV [n1] L1) (MV [n2, m2] L2) (MV [n3] L3) #[.int .u32 (r : Int), .int .u64 (c : Int), .slice A body.length k]) 87)) := fun hw ho hx h => step_load_at hw 59 (.tmp 23) ho hx (by rw [Array.size_append, Array.size_append, Array.size_append, MV1s, MV2s, MV1s, HL1.out, HL2.out, HL3.out]; rfl) HX.out _ Try.underlying59 rfl (infoT) h
      clear HX
      go_enter Try.func50, Try.ntmps50
      go_wp2_with (first | ((with_reducible refine LD ?qw rfl rfl ?_); (case qw => rfl)))
      refine (Da.bytes_bad r c A body k _ hbl HEN.out).mono ?_
      rintro e w1 ⟨rfl, hb⟩
      rw [HE.out]
      have HB1 := Lib.hid (below_comp HB0.out hb)
      clear hb c0
      go_wp2_with fail
      go_ret2
      exact ⟨_, rfl, OB.nil _ _, HB1.out⟩
  rw [if_neg h1, if_neg h2, if_neg h3, if_neg h4]
  have hx := blk_new w (.cells (WV kd (MV [n1] L1) (MV [n2, m2] L2) (MV [n3] L3) #[.int .u32 (r : Int), .int .u64 (c : Int), .slice A body.length k]) 87)
  have c0 : (w.alloc (.cells (WV kd (MV [n1] L1) (MV [n2, m2] L2) (MV [n3] L3) #[.int .u32 (r : Int), .int .u64 (c : Int), .slice A body.length k]) 87)).cell? ⟨w.heap.size, 0, none⟩ = some (.int .i64 kd) := (blk_cell hx 0).trans (WV_0 _ _ _ _ _)
  have HB0 := Lib.hid (below_alloc (Below.refl w.heap.size w) (.cells (WV kd (MV [n1] L1) (MV [n2, m2] L2) (MV [n3] L3) #[.int .u32 (r : Int), .int .u64 (c : Int), .slice A body.length k]) 87))
  clear hx
  go_enter Try.func50, Try.ntmps50
  go_wp2_with fail
  go_ret2
  exact ⟨_, rfl, OB.nil _ _, HB0.out⟩
set_option maxHeartbeats 4000000 in
theorem refBytes_any (kd : Int) (n1 : Nat) (L1 : List UInt8) (n2 m2 : Nat) (L2 : List UInt8) (n3 : Nat) (L3 : List UInt8) (r c : Nat) (A : Option Addr) (body : List UInt8) (k : Nat) (w : World) (hn1 : n1 < 4294967296) (hL1 : L1.length = 140) (hn2 : n2 < 4294967296) (hm2 : m2 < 4294967296) (hL2 : L2.length = 80) (hn3 : n3 < 4294967296) (hL3 : L3.length = 56) (hr : r < 4294967296) (hc : Hid (c < 18446744073709551616)) (hb : RB w (.slice A body.length k) body) :
    Calls Try.prog 51 #[.agg (WV kd (MV [n1] L1) (MV [n2, m2] L2) (MV [n3] L3) #[.int .u32 (r : Int), .int .u64 (c : Int), .slice A body.length k])] w (TellsW w (outW kd n1 L1 n2 m2 L2 n3 L3 r c body)) := by
  have HL1 := Lib.hid hL1
  have HL2 := Lib.hid hL2
  have HL3 := Lib.hid hL3
  have hbl := hb.len
  have HBD := Lib.hid (hb.alloc (.cells (WV kd (MV [n1] L1) (MV [n2, m2] L2) (MV [n3] L3) #[.int .u32 (r : Int), .int .u64 (c : Int), .slice A body.length k]) 87))
  clear hL1 hL2 hL3 hb
  unfold outW
  by_cases h1 : kd = 1
  · subst h1
    rw [if_pos rfl]
    have hx := blk_new w (.cells (WV 1 (MV [n1] L1) (MV [n2, m2] L2) (MV [n3] L3) #[.int .u32 (r : Int), .int .u64 (c : Int), .slice A body.length k]) 87)
    have c0 : (w.alloc (.cells (WV 1 (MV [n1] L1) (MV [n2, m2] L2) (MV [n3] L3) #[.int .u32 (r : Int), .int .u64 (c : Int), .slice A body.length k]) 87)).cell? ⟨w.heap.size, 0, none⟩ = some (.int .i64 1) := (blk_cell hx 0).trans (WV_0 _ _ _ _ _)
    have HB0 := Lib.hid (below_alloc (Below.refl w.heap.size w) (.cells (WV 1 (MV [n1] L1) (MV [n2, m2] L2) (MV [n3] L3) #[.int .u32 (r : Int), .int .u64 (c : Int), .slice A body.length k]) 87))
    have HX : Hid ((w.alloc (.cells (WV 1 (MV [n1] L1) (MV [n2, m2] L2) (MV [n3] L3) #[.int .u32 (r : Int), .int .u64 (c : Int), .slice A body.length k]) 87)).heap[w.heap.size]? = some (.cells (#[.int .i64 1] ++ MV [n1] L1 ++ (MV [n2, m2] L2 ++ MV [n3] L3 ++ #[.int .u32 (r : Int), .int .u64 (c : Int), .slice A body.length k])) 87 (0, 0))) := Lib.hid (by rw [← WV_i]; exact hx)
    clear hx
    have LD : ∀ {ops : Array Oper} {rest : List Oper} {op : Oper} {a : Act} {Q : Exit → Act → World → Prop}, Region.wanted op (yielded ops a.tmps) = true → op.op = .load 50 (.tmp 7) → a.eval (.tmp 7) = .pointer (some ⟨w.heap.size, 1, none⟩) → wpList Try.prog ops Q rest (a.put op.dst (.agg (MV [n1] L1))) (w.alloc (.cells (WV 1 (MV [n1] L1) (MV [n2, m2] L2) (MV [n3] L3) #[.int .u32 (r : Int), .int .u64 (c : Int), .slice A body.length k]) 87)) → wpList Try.prog ops Q (op :: rest) a (w.alloc (.cells (WV 1 (MV [n1] L1) (MV [n2, m2] L2) (MV [n3] L3) #[.int .u32 (r : Int), .int .u64 (c : Int), .slice A body.length k]) 87)) := fun hw ho hx h => step_load_at hw 50 (.tmp 7) ho hx (rfl) HX.out _ Try.underlying50 rfl (Mi.info_MV _ _ (by show 1 + L1.length = _; rw [HL1.out])) h
    clear HX
    go_enter Try.func51, Try.ntmps51
    go_wp2_with (first | ((with_reducible refine LD ?qw rfl rfl ?_); (case qw => rfl)))
    refine (Mi.refBytes_any n1 L1 _ hn1 HL1.out).mono ?_
    rintro e w1 ⟨v, rfl, ho, hb⟩
    have HO := Lib.hid ho
    have HB1 := Lib.hid (below_comp HB0.out hb)
    clear ho hb c0
    go_wp2_with fail
    go_ret2
    exact ⟨v, rfl, HO.out.weaken HB0.out.size, HB1.out⟩
  by_cases h2 : kd = 2
  · subst h2
    rw [if_neg (by decide), if_pos rfl]
    have hx := blk_new w (.cells (WV 2 (MV [n1] L1) (MV [n2, m2] L2) (MV [n3] L3) #[.int .u32 (r : Int), .int .u64 (c : Int), .slice A body.length k]) 87)
    have c0 : (w.alloc (.cells (WV 2 (MV [n1] L1) (MV [n2, m2] L2) (MV [n3] L3) #[.int .u32 (r : Int), .int .u64 (c : Int), .slice A body.length k]) 87)).cell? ⟨w.heap.size, 0, none⟩ = some (.int .i64 2) := (blk_cell hx 0).trans (WV_0 _ _ _ _ _)
    have HB0 := Lib.hid (below_alloc (Below.refl w.heap.size w) (.cells (WV 2 (MV [n1] L1) (MV [n2, m2] L2) (MV [n3] L3) #[.int .u32 (r : Int), .int .u64 (c : Int), .slice A body.length k]) 87))
    have HX : Hid ((w.alloc (.cells (WV 2 (MV [n1] L1) (MV [n2, m2] L2) (MV [n3] L3) #[.int .u32 (r : Int), .int .u64 (c : Int), .slice A body.length k]) 87)).heap[w.heap.size]? = some (.cells ((#[.int .i64 2] ++ MV [n1] L1) ++ MV [n2, m2] L2 ++ (MV [n3] L3 ++ #[.int .u32 (r : Int), .int .u64 (c : Int), .slice A body.length k])) 87 (0, 0))) := Lib.hid (by rw [← WV_r]; exact hx)
    clear hx
    have LD : ∀ {ops : Array Oper} {rest : List Oper} {op : Oper} {a : Act} {Q : Exit → Act → World → Prop}, Region.wanted op (yielded ops a.tmps) = true → op.op = .load 40 (.tmp 13) → a.eval (.tmp 13) = .pointer (some ⟨w.heap.size, 142, none⟩) → wpList Try.prog ops Q rest (a.put op.dst (.agg (MV [n2, m2] L2))) (w.alloc (.cells (WV 2 (MV [n1] L1) (MV [n2, m2] L2) (MV [n3] L3) #[.int .u32 (r : Int), .int .u64 (c : Int), .slice A body.length k]) 87)) → wpList Try.prog ops Q (op :: rest) a (w.alloc (.cells (WV 2 (MV [n1] L1) (MV [n2, m2] L2) (MV [n3] L3) #[.int .u32 (r : Int), .int .u64 (c : Int), .slice A body.length k]) 87)) := fun hw ho hx h => step_load_at hw 40 (.tmp 13) ho hx (by rw [Array.size_append, MV1s, HL1.out]; rfl) HX.out _ Try.underlying40 rfl (Ma.info_MV _ _ (by show 2 + L2.length = _; rw [HL2.out])) h
    clear HX
    go_enter Try.func51, Try.ntmps51
    go_wp2_with (first | ((with_reducible refine LD ?qw rfl rfl ?_); (case qw => rfl)))
    refine (Ma.refBytes_any n2 m2 L2 _ hn2 hm2 HL2.out).mono ?_
    rintro e w1 ⟨v, rfl, ho, hb⟩
    have HO := Lib.hid ho
    have HB1 := Lib.hid (below_comp HB0.out hb)
    clear ho hb c0
    go_wp2_with fail
    go_ret2
    exact ⟨v, rfl, HO.out.weaken HB0.out.size, HB1.out⟩
  by_cases h3 : kd = 3
  · subst h3
    rw [if_neg (by decide), if_neg (by decide), if_pos rfl]
    have hx := blk_new w (.cells (WV 3 (MV [n1] L1) (MV [n2, m2] L2) (MV [n3] L3) #[.int .u32 (r : Int), .int .u64 (c : Int), .slice A body.length k]) 87)
    have c0 : (w.alloc (.cells (WV 3 (MV [n1] L1) (MV [n2, m2] L2) (MV [n3] L3) #[.int .u32 (r : Int), .int .u64 (c : Int), .slice A body.length k]) 87)).cell? ⟨w.heap.size, 0, none⟩ = some (.int .i64 3) := (blk_cell hx 0).trans (WV_0 _ _ _ _ _)
    have HB0 := Lib.hid (below_alloc (Below.refl w.heap.size w) (.cells (WV 3 (MV [n1] L1) (MV [n2, m2] L2) (MV [n3] L3) #[.int .u32 (r : Int), .int .u64 (c : Int), .slice A body.length k]) 87))
    have HX : Hid ((w.alloc (.cells (WV 3 (MV [n1] L1) (MV [n2, m2] L2) (MV [n3] L3) #[.int .u32 (r : Int), .int .u64 (c : Int), .slice A body.length k]) 87)).heap[w.heap.size]? = some (.cells ((#[.int .i64 3] ++ MV [n1] L1 ++ MV [n2, m2] L2) ++ MV [n3] L3 ++ #[.int .u32 (r : Int), .int .u64 (c : Int), .slice A body.length k]) 87 (0, 0))) := Lib.hid (by rw [← WV_c]; exact hx)
    clear hx
    have LD : ∀ {ops : Array Oper} {rest : List Oper} {op : Oper} {a : Act} {Q : Exit → Act → World → Prop}, Region.wanted op (yielded ops a.tmps) = true → op.op = .load 26 (.tmp 19) → a.eval (.tmp 19) = .pointer (some ⟨w.heap.size, 224, none⟩) → wpList Try.prog ops Q rest (a.put op.dst (.agg (MV [n3] L3))) (w.alloc (.cells (WV 3 (MV [n1] L1) (MV [n2, m2] L2) (MV [n3] L3) #[.int .u32 (r : Int), .int .u64 (c : Int), .slice A body.length k]) 87)) → wpList Try.prog ops Q (op :: rest) a (w.alloc (.cells (WV 3 (MV [n1] L1) (MV [n2, m2] L2) (MV [n3] L3) #[.int .u32 (r : Int), .int .u64 (c : Int), .slice A body.length k]) 87)) := fun hw ho hx h => step_load_at hw 26 (.tmp 19) ho hx (by rw [Array.size_append, Array.size_append, MV1s, MV2s, HL1.out, HL2.out]; rfl) HX.out _ Try.underlying26 rfl (Mc.info_MV _ _ (by show 1 + L3.length = _; rw [HL3.out])) h
    clear HX
    go_enter Try.func51, Try.ntmps51
    go_wp2_with (first | ((with_reducible refine LD ?qw rfl rfl ?_); (case qw => rfl)))
    refine (Mc.refBytes_any n3 L3 _ hn3 HL3.out).mono ?_
    rintro e w1 ⟨v, rfl, ho, hb⟩
    have HO := Lib.hid ho
    have HB1 := Lib.hid (below_comp HB0.out hb)
    clear ho hb c0
    go_wp2_with fail
    go_ret2
    exact ⟨v, rfl, HO.out.weaken HB0.out.size, HB1.out⟩
  by_cases h4 : kd = 4
  · subst h4
    rw [if_neg (by decide), if_neg (by decide), if_neg (by decide), if_pos rfl]
    by_cases hE : sizeE (body.length : Int) = 0
    · rw [if_pos hE]
      have HE := Lib.hid hE
      clear hE
      have hx := blk_new w (.cells (WV 4 (MV [n1] L1) (MV [n2, m2] L2) (MV [n3] L3) #[.int .u32 (r : Int), .int .u64 (c : Int), .slice A body.length k]) 87)
      have c0 : (w.alloc (.cells (WV 4 (MV [n1] L1) (MV [n2, m2] L2) (MV [n3] L3) #[.int .u32 (r : Int), .int .u64 (c : Int), .slice A body.length k]) 87)).cell? ⟨w.heap.size, 0, none⟩ = some (.int .i64 4) := (blk_cell hx 0).trans (WV_0 _ _ _ _ _)
      have HB0 := Lib.hid (below_alloc (Below.refl w.heap.size w) (.cells (WV 4 (MV [n1] L1) (MV [n2, m2] L2) (MV [n3] L3) #[.int .u32 (r : Int), .int .u64 (c : Int), .slice A body.length k]) 87))
      have HX : Hid ((w.alloc (.cells (WV 4 (MV [n1] L1) (MV [n2, m2] L2) (MV [n3] L3) #[.int .u32 (r : Int), .int .u64 (c : Int), .slice A body.length k]) 87)).heap[w.heap.size]? = some (.cells ((#[.int .i64 4] ++ MV [n1] L1 ++ MV [n2, m2] L2 ++ MV [n3] L3) ++ #[.int .u32 (r : Int), .int .u64 (c : Int), .slice A body.length k] ++ #[]) 87 (0, 0))) := Lib.hid (by rw [← WV_t]; exact hx)
      clear hx
      have LD : ∀ {ops : Array Oper} {rest : List Oper} {op : Oper} {a : Act} {Q : Exit → Act → World → Prop}, Region.wanted op (yielded ops a.tmps) = true → op.op = .load 59 (.tmp 25) → a.eval (.tmp 25) = .pointer (some ⟨w.heap.size, 281, none⟩) → wpList Try.prog ops Q rest (a.put op.dst (.agg (#[.int .u32 (r : Int), .int .u64 (c : Int), .slice A body.length k]))) (w.alloc (.cells (WV 4 (MV [n1] L1) (MV [n2, m2] L2) (MV [n3] L3) #[.int .u32 (r : Int), .int .u64 (c : Int), .slice A body.length k]) 87)) → wpList Try.prog ops Q (op :: rest) a (w.alloc (.cells (WV 4 (MV [n1] L1) (MV [n2, m2] L2) (MV [n3] L3) #[.int .u32 (r : Int), .int .u64 (c : Int), .slice A body.length k]) 87)) := fun hw ho hx h => step_load_at hw 59 (.tmp 25) ho hx (by rw [Array.size_append, Array.size_append, Array.size_append, MV1s, MV2s, MV1s, HL1.out, HL2.out, HL3.out]; rfl) HX.out _ Try.underlying59 rfl (infoT) h
      clear HX
      go_enter Try.func51, Try.ntmps51
      go_wp2_with (first | ((with_reducible refine LD ?qw rfl rfl ?_); (case qw => rfl)))
      refine (Da.refBytes_any r c A body k _ hr hc HBD.out HE.out).mono ?_
      rintro e w1 ⟨v, rfl, ho, hb⟩
      have HO := Lib.hid ho
      have HB1 := Lib.hid (below_comp HB0.out hb)
      clear ho hb c0
      go_wp2_with fail
      go_ret2
      exact ⟨v, rfl, HO.out.weaken HB0.out.size, HB1.out⟩
    · rw [if_neg hE]
      obtain ⟨E, hEE⟩ : ∃ E, sizeE (body.length : Int) = E := ⟨_, rfl⟩
      have HE := Lib.hid hEE
      have HEN := Lib.hid hE
      rw [hEE]
      clear hE hEE
      have hx := blk_new w (.cells (WV 4 (MV [n1] L1) (MV [n2, m2] L2) (MV [n3] L3) #[.int .u32 (r : Int), .int .u64 (c : Int), .slice A body.length k]) 87)
      have c0 : (w.alloc (.cells (WV 4 (MV [n1] L1) (MV [n2, m2] L2) (MV [n3] L3) #[.int .u32 (r : Int), .int .u64 (c : Int), .slice A body.length k]) 87)).cell? ⟨w.heap.size, 0, none⟩ = some (.int .i64 4) := (blk_cell hx 0).trans (WV_0 _ _ _ _ _)
      have HB0 := Lib.hid (below_alloc (Below.refl w.heap.size w) (.cells (WV 4 (MV [n1] L1) (MV [n2, m2] L2) (MV [n3] L3) #[.int .u32 (r : Int), .int .u64 (c : Int), .slice A body.length k]) 87))
      have HX : Hid ((w.alloc (.cells (WV 4 (MV [n1] L1) (MV [n2, m2] L2) (MV [n3] L3) #[.int .u32 (r : Int), .int .u64 (c : Int), .slice A body.length k]) 87)).heap[w.heap.size]? = some (.cells ((#[.int .i64 4] ++ MV [n1] L1 ++ MV [n2, m2] L2 ++ MV [n3] L3) ++ #[.int .u32 (r : Int), .int .u64 (c : Int), .slice A body.length k] ++ #[]) 87 (0, 0))) := Lib.hid (by rw [← WV_t]; exact hx)
      clear hx
      have LD : ∀ {ops : Array Oper} {rest : List Oper} {op : Oper} {a : Act} {Q : Exit → Act → World → Prop}, Region.wanted op (yielded ops a.tmps) = true → op.op = .load 59 (.tmp 25) → a.eval (.tmp 25) = .pointer (some ⟨w.heap.size, 281, none⟩) → wpList Try.prog ops Q rest (a.put op.dst (.agg (#[.int .u32 (r : Int), .int .u64 (c : Int), .slice A body.length k]))) (w.alloc (.cells (WV 4 (MV [n1] L1) (MV [n2, m2] L2) (MV [n3] L3) #[.int .u32 (r : Int), .int .u64 (c : Int), .slice A body.length k]) 87)) → wpList Try.prog ops Q (op :: rest) a (w.alloc (.cells (WV 4 (MV [n1] L1) (MV [n2, m2] L2) (MV [n3] L3) #[.int .u32 (r : Int), .int .u64 (c : Int), .slice A body.length k]) 87)) := fun hw ho hx h => step_load_at hw 59 (.tmp 25) ho hx (by rw [Array.size_append, Array.size_append, Array.size_append, MV1s, MV2s, MV1s, HL1.out, HL2.out, HL3.out]; rfl) HX.out _ Try.underlying59 rfl (infoT) h
      clear HX
      go_enter Try.func51, Try.ntmps51
      go_wp2_with (first | ((with_reducible refine LD ?qw rfl rfl ?_); (case qw => rfl)))
      refine (Da.refBytes_bad r c A body k _ hbl HEN.out).mono ?_
      rintro e w1 ⟨rfl, hb⟩
      rw [HE.out]
      have HB1 := Lib.hid (below_comp HB0.out hb)
      clear hb c0
      go_wp2_with fail
      go_ret2
      exact ⟨_, rfl, OB.nil _ _, HB1.out⟩
  rw [if_neg h1, if_neg h2, if_neg h3, if_neg h4]
  have hx := blk_new w (.cells (WV kd (MV [n1] L1) (MV [n2, m2] L2) (MV [n3] L3) #[.int .u32 (r : Int), .int .u64 (c : Int), .slice A body.length k]) 87)
  have c0 : (w.alloc (.cells (WV kd (MV [n1] L1) (MV [n2, m2] L2) (MV [n3] L3) #[.int .u32 (r : Int), .int .u64 (c : Int), .slice A body.length k]) 87)).cell? ⟨w.heap.size, 0, none⟩ = some (.int .i64 kd) := (blk_cell hx 0).trans (WV_0 _ _ _ _ _)
  have HB0 := Lib.hid (below_alloc (Below.refl w.heap.size w) (.cells (WV kd (MV [n1] L1) (MV [n2, m2] L2) (MV [n3] L3) #[.int .u32 (r : Int), .int .u64 (c : Int), .slice A body.length k]) 87))
  clear hx
  go_enter Try.func51, Try.ntmps51
  go_wp2_with fail
  go_ret2
  exact ⟨_, rfl, OB.nil _ _, HB0.out⟩
end Go.Proofs.Ytnehbhhjdjiieaa.Wm
