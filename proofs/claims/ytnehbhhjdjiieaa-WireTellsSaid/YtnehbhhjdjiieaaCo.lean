/- slices.Concat of slices of bytes. -/
import Derived.Test.YtnehbhhjdjiieaaMp
import Derived.Test.YtnehbhhjdjiieaaEn
import Derived.Lib.AppendZeros
set_option linter.unusedSimpArgs false
set_option linter.unusedVariables false
set_option maxRecDepth 100000
namespace Go.Proofs.Ytnehbhhjdjiieaa.Co
open Go.RowKit Go.Proofs.YtnehbhhjdjiieaaW.PrintWords Go.Proofs.Ytnehbhhjdjiieaa.Bs Go.Proofs.Ytnehbhhjdjiieaa.Mv

set_option maxHeartbeats 1000000 in
theorem grow_nil (n : Nat) (w : World) (hn : n ≤ 1099511627776) :
    Calls Try.prog 81 #[.slice none 0 0, .int .i64 n] w (Row w []) := by
  by_cases h0 : n = 0
  · subst h0
    go_enter Try.func81, Try.ntmps81
    go_wp2
    go_ret
    exact ⟨_, rfl, OB.nil _ _, Below.refl _ _⟩
  · obtain ⟨i, hi, hz⟩ := Option.map_eq_some_iff.1 info8
    simp only [Prod.mk.injEq] at hz
    have hrun := Lib.run_append_nil_zeros (P := Try.prog) w 27 3 27 5 i (.int .u8 0) .i64 .i64 Try.underlying27 Try.underlying3 hi hz.1 n (by omega) (by rw [hz.2.1]; decide) (by omega) (by rw [hz.2.2]; omega)
    have hg := grownCap_ge w n 0 5
    have hm := grownCap_le_maxLen w n 0 5 (by unfold maxLen; omega)
    generalize grownCap w n 0 5 = cap at hrun hg hm
    have HR := Lib.hid hrun
    clear hrun hi
    go_enter Try.func81, Try.ntmps81
    go_wp2_with (first | ((with_reducible refine is_builtin (b := .append) (xs := #[.tmp 20, .tmp 21]) rfl ?_); refine Lib.wpList_append_run _ rfl (.tmp 20) (.tmp 21) 27 3 rfl (.slice none 0 0) (.int .i64 n) rfl rfl _ _ HR.out ?_))
    go_ret
    refine ⟨_, rfl, ⟨rfl, .inr ⟨w.heap.size, cap, _, rfl, Nat.le_refl _, blk_new w.drew _, Nat.zero_le _, hm, ?_, rfl⟩⟩, below_alloc (below_drew (Below.refl _ _)) _⟩
    rw [Array.size_append, size_zeroCells, size_zeroCells]
    show n * 1 + (cap - n) * 1 = cap * 1
    omega

set_option maxHeartbeats 2000000 in
theorem concat_any (A : Option Addr) (c : Nat) (ls : List (List UInt8)) (w : World) (hr : RBS w A ls) (hs : ls.flatten.length ≤ 1099511627776) :
    Calls Try.prog 68 #[.slice A ls.length c] w (Row w ls.flatten) := by
  have hl := hr.1
  have HR := Lib.hid hr
  have HL := Lib.hid hs
  clear hr hs
  go_enter Try.func68, Try.ntmps68
  go_wp2_with fail
  go_loop [3, 11] (fun v3 v11 => ∃ j : Nat, j ≤ ls.length ∧ v3 = .int .i64 (((ls.take j).flatten.length : Nat) : Int) ∧ v11 = .int .i64 j) (fun _ v11 => ls.length - (intOf v11).toNat)
  case atStart => exact ⟨0, Nat.zero_le _, by simp, rfl⟩
  case round =>
    obtain ⟨j, hj, rfl, rfl⟩ := hrel
    by_cases hlt : j < ls.length
    · obtain ⟨ad, u, rfl, hcu, hru⟩ := HR.out.2 j hlt
      obtain ⟨A', c', rfl, _, _⟩ := hru
      have hF : (ls.take (j + 1)).flatten.length = (ls.take j).flatten.length + (ls.getD j []).length := by rw [flatten_snoc ls j hlt, List.length_append]
      have hle := flatten_le ls (j + 1)
      have hle2 := HL.out
      have HF := Lib.hid hF
      generalize (ls.getD j []).length = m at hcu hF HF
      generalize hx : (ls.take j).flatten.length = x at hF HF ⊢
      have hwr : IntKind.i64.wrap ((x : Int) + (m : Int)) = (x : Int) + m := by rw [IntKind.wrap_i64]; omega
      have hneg : ¬ (x : Int) + (m : Int) < 0 := by omega
      clear hle hle2 hx hF
      go_wp2_with fail
      go_round
      case rel => exact ⟨j + 1, by omega, int_eq (by rw [HF.out]; omega), by go_num⟩
      case measure => (simp [intOf]) <;> omega
    · have hE : (ls.take j).flatten = ls.flatten := by rw [List.take_of_length_le (show ls.length ≤ j by omega)]
      have HE := Lib.hid (show (ls.take j).flatten.length = ls.flatten.length by rw [hE])
      clear hE
      generalize (ls.take j).flatten.length = x at HE ⊢
      go_wp2_with fail
      refine (grow_nil _ _ (by rw [HE.out]; exact HL.out)).mono ?_
      rintro e w1 ⟨v, rfl, ho, hb⟩
      have HO := Lib.hid ho
      have HB := Lib.hid hb
      clear ho hb HE
      go_wp2_with fail
      go_loopw [6, 27] (fun v6 v27 wr => ∃ (k : Nat), k ≤ ls.length ∧ v27 = .int .i64 k ∧ Hid (OB w.heap.size wr v6 (ls.take k).flatten) ∧ Hid (Below w.heap.size w wr)) (fun _ v27 _ => ls.length - (intOf v27).toNat)
      case atStart => exact ⟨0, Nat.zero_le _, rfl, HO, HB⟩
      case round =>
        obtain ⟨k, hk, rfl, HO, HB⟩ := hrel
        by_cases hlt : k < ls.length
        · obtain ⟨ad, u, rfl, hcu, hru⟩ := (HR.out.below HB.out).2 k hlt
          have HU := Lib.hid hru
          have HF := Lib.hid (flatten_snoc ls k hlt)
          have HLE := Lib.hid (flatten_le ls (k + 1))
          have HLN : Hid ((ls.take k).flatten.length + (ls.getD k []).length = (ls.take (k + 1)).flatten.length) := Lib.hid (by rw [HF.out, List.length_append])
          clear hru
          go_wp2_with (first | ((with_reducible refine is_builtin (b := .append) (xs := #[.tmp 31, .tmp 32]) rfl ?_); refine append_bytes (w0 := w) (w).heap.size rfl (.tmp 31) (.tmp 32) rfl u6 u (ls.take k).flatten (ls.getD k []) rfl rfl ?aO ?aR ?aB ?aS ?aL ?_; (case aO => exact HO.out); (case aR => exact HU.out); (case aB => exact HB.out); (case aS => exact (HB.out).size); (case aL => (have h1 := HLN.out; have h2 := HLE.out; have h3 := HL.out; omega)); intro v1 w1 ho hb1 _ _; have HO1 := Lib.hid ho; have HB1 := Lib.hid hb1; clear ho hb1))
          go_roundw
          case rel => exact ⟨k + 1, by omega, by go_num, Lib.hid (by rw [HF.out]; exact HO1.out), HB1⟩
          case measure => simp [intOf]; omega
        · go_wp2
          go_ret
          exact ⟨_, rfl, by have h := HO.out; rwa [List.take_of_length_le (show ls.length ≤ k by omega)] at h, HB.out⟩

/-- A block of slices of bytes. -/
theorem RBS.block {w : World} {g : Nat} {vs : List Value} {T : TypeId} {ls : List (List UInt8)} (h : w.heap[g]? = some (.cells vs.toArray T (0, 0))) (hl : ls.length = vs.length) (h63 : ls.length ≤ 9223372036854775807)
    (hr : ∀ j, j < ls.length → RB w (vs.getD j undef) (ls.getD j [])) : RBS w (some ⟨g, 0, none⟩) ls := by
  refine ⟨h63, fun j hj => ⟨_, vs.getD j undef, rfl, ?_, hr j hj⟩⟩
  rw [add_plain]
  refine (blk_cell h j).trans ?_
  simp [List.getD_eq_getElem?_getD, show j < vs.length by omega]
end Go.Proofs.Ytnehbhhjdjiieaa.Co
