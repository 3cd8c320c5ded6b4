/- Package session: a new session, and a copy. -/
import Derived.Test.YtapncdgeigbgmaaSf
import Derived.Test.YtapncdgeigbgmaaGp
set_option linter.unusedSimpArgs false
set_option linter.unusedVariables false
set_option maxRecDepth 100000
namespace Go.Proofs.Ytapncdgeigbgmaa.Gm
open Go.RowKit Go.Proofs.YtapncdgeigbgmaaW.PrintWords Go.Proofs.Ytapncdgeigbgmaa.Bs
end Go.Proofs.Ytapncdgeigbgmaa.Gm
namespace Go.Proofs.Ytapncdgeigbgmaa.Sf
open Go.RowKit Go.Proofs.YtapncdgeigbgmaaW.PrintWords Go.Proofs.Ytapncdgeigbgmaa.Bs Go.Proofs.Ytapncdgeigbgmaa.Rp Go.Proofs.Ytapncdgeigbgmaa.Gm

def W0 : List Value := winC 0 false (fun _ => 0)
def ZK : Array Value := Array.replicate 32 (.int .u8 0)
def ZS : Array Value := sesC ZK 0 0 0 W0
theorem zeroS : ZeroOf 40 ZS := ⟨fun W => zero_of (by kernel_rfl) W, by kernel_rfl, sesC_one _ _ _ _ _ _ _ (by kernel_rfl)⟩
theorem arr32 {K : Array Value} (h : K.size = 32) : ∃ k0 k1 k2 k3 k4 k5 k6 k7 k8 k9 k10 k11 k12 k13 k14 k15 k16 k17 k18 k19 k20 k21 k22 k23 k24 k25 k26 k27 k28 k29 k30 k31 : Value, K = #[k0, k1, k2, k3, k4, k5, k6, k7, k8, k9, k10, k11, k12, k13, k14, k15, k16, k17, k18, k19, k20, k21, k22, k23, k24, k25, k26, k27, k28, k29, k30, k31] := by
  obtain ⟨l⟩ := K
  have h' : l.length = 32 := by simpa using h
  match l, h' with
  | [k0, k1, k2, k3, k4, k5, k6, k7, k8, k9, k10, k11, k12, k13, k14, k15, k16, k17, k18, k19, k20, k21, k22, k23, k24, k25, k26, k27, k28, k29, k30, k31], _ => exact ⟨k0, k1, k2, k3, k4, k5, k6, k7, k8, k9, k10, k11, k12, k13, k14, k15, k16, k17, k18, k19, k20, k21, k22, k23, k24, k25, k26, k27, k28, k29, k30, k31, rfl⟩
theorem built_ses (K : Array Value) (lo re n : Int) (hK : K.size = 32) : Built 40 #[(0, .agg K), (1, .int .u32 lo), (2, .int .u32 re), (3, .agg #[.int .u64 n])] (.agg (sesC K lo re n W0)) := fun W => by
  obtain ⟨k0, k1, k2, k3, k4, k5, k6, k7, k8, k9, k10, k11, k12, k13, k14, k15, k16, k17, k18, k19, k20, k21, k22, k23, k24, k25, k26, k27, k28, k29, k30, k31, rfl⟩ := arr32 hK
  kernel_rfl
theorem built_sent (n : Int) : Built 33 #[(0, .agg #[.int .u64 n])] (.agg #[.int .u64 n]) := fun W => by kernel_rfl
theorem cells_key (K : Array Value) (hK : K.size = 32) (h1 : K.all (·.oneCell') = true) : Cells 29 K := ⟨by rw [hK]; kernel_rfl, h1⟩
theorem cells_ses (K : Array Value) (lo re n : Int) (t : Nat) (s : Bool) (R : Nat → Nat) (hK : K.size = 32) (h1 : K.all (·.oneCell') = true) : Cells 40 (sesC K lo re n (winC t s R)) :=
  ⟨by rw [sesC_size _ _ _ _ _ hK (winC_length _ _ _)]; exact infoSes, sesC_one _ _ _ _ _ _ _ h1⟩
theorem new_any (K : Array Value) (lo re n : Int) (w0 : World) (hK : K.size = 32) (h1 : K.all (·.oneCell') = true) :
    Calls Try.prog 13 #[.agg K, .int .u32 lo, .int .u32 re, .int .u64 n] w0 fun e w' => ∃ b, e = .returned (.pointer (some ⟨b, 0, none⟩)) ∧ w0.heap.size ≤ b ∧ SesP b K lo re n [] w' ∧ Below w0.heap.size w0 w' := by
  have HC := Lib.hid (cells_key K hK h1)
  have HC2 := Lib.hid (cells_ses K lo re n 0 false (fun _ => 0) hK h1)
  have HBS := Lib.hid (built_ses K lo re n hK)
  have HK := Lib.hid hK
  clear hK h1
  have HM := Lib.hid (Mem.start w0)
  have HB := HM.out.below
  go_enter Try.func13, Try.ntmps13
  go_wp2_with (first | refine m_rd ?_ | (refine m_wr ?_; clear HM HB; intro w b HM HB; try clear b) | fail)
  try simp only [Act.put, List.setIfInBounds_toArray, List.set_cons_zero, List.set_cons_succ]
  refine wp_region_held_drew (S := fun w' => Mem w0 w' _) (by kernel_rfl) (HM.out.drew.keep (show Ent.blk b _ _ ∈ _ by (first | ((repeat (first | with_reducible exact List.Mem.head _ | with_reducible apply List.Mem.tail)); done) | ((repeat (first | exact List.Mem.head _ | apply List.Mem.tail)); done)))) (fun hS => ?_)
  replace HM := Lib.hid HM.out.drew
  replace HB := HM.out.below
  refine tkv 0 9 (.agg K) rfl (yields_own rfl rfl (fun _ h => h) (by (first | ((repeat (first | with_reducible exact List.Mem.head _ | with_reducible apply List.Mem.tail)); done) | ((repeat (first | exact List.Mem.head _ | apply List.Mem.tail)); done))) Try.underlying29 rfl HC.out.1 (by kernel_rfl)) ?_
  refine tk 1 10 ?_
  refine tk 2 11 ?_
  refine tk 3 12 ?_
  refine rone 4 rfl fun K' hK => ?_
  go_simp
  refine (Ctr.new_any n _).mono ?_
  rintro e w' ⟨rfl, rfl⟩
  have HM2 := Lib.hid (HM.out.alloc #[.int .u64 n] 31 (by kernel_rfl))
  clear HM HB
  refine hK.out _ _ (HM2.out.keep (show Ent.blk b _ _ ∈ _ by (first | ((repeat (first | with_reducible exact List.Mem.head _ | with_reducible apply List.Mem.tail)); done) | ((repeat (first | exact List.Mem.head _ | apply List.Mem.tail)); done)))) (fun hS2 => ?_)
  clear hS hK
  have hS := hS2
  clear hS2
  try simp only [Act.put, List.setIfInBounds_toArray, List.set_cons_zero, List.set_cons_succ]
  revert HM2
  generalize w.drew.alloc (.cells #[.int .u64 n] 31) = w1 at hS ⊢
  generalize w.drew.heap.size = bc at ⊢
  intro HM
  have HB := HM.out.below
  refine tk 5 14 ?_
  refine rone 6 rfl fun K' hK => ?_
  refine s_rd ?_ HM (Rd.whole rfl (by kernel_rfl) rfl (by (first | ((repeat (first | with_reducible exact List.Mem.head _ | with_reducible apply List.Mem.tail)); done) | ((repeat (first | exact List.Mem.head _ | apply List.Mem.tail)); done)))) (by kernel_rfl)
  refine hK.out _ _ (HM.out.keep (show Ent.blk b _ _ ∈ _ by (first | ((repeat (first | with_reducible exact List.Mem.head _ | with_reducible apply List.Mem.tail)); done) | ((repeat (first | exact List.Mem.head _ | apply List.Mem.tail)); done)))) (fun hS2 => ?_)
  clear hS hK
  have hS := hS2
  clear hS2
  try simp only [Act.put, List.setIfInBounds_toArray, List.set_cons_zero, List.set_cons_succ]
  refine tkv 7 16 _ rfl (yields_build rfl #[(0, .agg #[.int .u64 n])] rfl (built_sent n) (by kernel_rfl)) ?_
  refine tkv 8 17 _ rfl (yields_build rfl #[(0, .agg K), (1, .int .u32 lo), (2, .int .u32 re), (3, .agg #[.int .u64 n])] rfl HBS.out (by kernel_rfl)) ?_
  refine rone 9 rfl fun K' hK => ?_
  refine s_wr ?_ HM (Wr.box rfl rfl HC2.out) (by kernel_rfl)
  clear HM HB
  intro w b2 HM HB
  refine hK.out _ _ (HM.out.keep (show Ent.blk b _ _ ∈ _ by (first | ((repeat (first | with_reducible exact List.Mem.head _ | with_reducible apply List.Mem.tail)); done) | ((repeat (first | exact List.Mem.head _ | apply List.Mem.tail)); done)))) (fun hS2 => ?_)
  clear hS hK
  have hS := hS2
  clear hS2
  try simp only [Act.put, List.setIfInBounds_toArray, List.set_cons_zero, List.set_cons_succ]
  refine tk 10 8 ?_
  refine wpAnyH_done (by kernel_rfl) ?_ _
  clear hS
  go_wp2_with (first | refine m_rd ?_ | (refine m_wr ?_; clear HM HB; intro w b HM HB; try clear b) | fail)
  go_ret
  have hm := HM.out.get (List.Mem.head _)
  exact ⟨_, rfl, (HM.out.all _ (List.Mem.head _)).1.1, SesP.of_block hm HK.out (by decide) (fun i _ => by decide) Inv.nil, HB⟩
theorem copy_any {w0 : World} {b0 : Nat} {K : Array Value} {lo re n : Int} {m : List Nat} (h : SesP b0 K lo re n m w0) (hK : K.size = 32) (h1 : K.all (·.oneCell') = true) :
    Calls Try.prog 15 #[.pointer (some ⟨b0, 0, none⟩)] w0 fun e w' => ∃ b, e = .returned (.pointer (some ⟨b, 0, none⟩)) ∧ w0.heap.size ≤ b ∧ SesP b K lo re n m w' ∧ Below w0.heap.size w0 w' := by
  obtain ⟨t, s, R, hw, hi, hr⟩ := h.range hK
  have hlt := h.lt
  have HI := Lib.hid hi
  have HT : Hid (t < 18446744073709551616 ∧ ∀ i, i < 32 → R i < 18446744073709551616) := Lib.hid hw.2.2.2.2
  have HC := Lib.hid (cells_ses K lo re n t s R hK h1)
  have HRG : Hid (∀ w, Below w0.heap.size w0 w → w.rangeAt b0 0 (sesC K lo re n (winC t s R)).toList) := Lib.hid (fun w hb j v hv => (World.cell?_of_block (a := ⟨b0, 0 + j, none⟩) (hb.block b0 hlt)).trans (hr j v hv))
  have AL1 := Lib.hid zeroS
  have HK := Lib.hid hK
  clear h hw hi hr hlt hK h1
  have HM := Lib.hid (Mem.start w0)
  have HB := HM.out.below
  go_enter Try.func15, Try.ntmps15
  go_wp2_with (first | (refine m_rd ?_ HM (Rd.range rfl rfl (fun w hm => HRG.out w hm.below) HC.out.1 (by kernel_rfl))) | refine m_rd ?_ | (refine m_wr ?_; clear HM HB; intro w b HM HB; try clear b) | fail)
  go_ret
  have hm := HM.out.get (List.Mem.head _)
  exact ⟨_, rfl, (HM.out.all _ (List.Mem.head _)).1.1, SesP.of_block hm HK.out HT.out.1 HT.out.2 HI.out, HB⟩
end Go.Proofs.Ytapncdgeigbgmaa.Sf
