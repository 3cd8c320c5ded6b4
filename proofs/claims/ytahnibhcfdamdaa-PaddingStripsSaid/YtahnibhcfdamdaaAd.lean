/- Package addr and its reference: whether an address is right, how wide it is, its bytes, and of what bytes it is. -/
import Derived.Test.YtahnibhcfdamdaaAv
import Derived.Test.YtahnibhcfdamdaaEn
import Derived.Test.YtahnibhcfdamdaaBu
import Derived.Deep.RegionHeld3
set_option linter.unusedSimpArgs false
set_option linter.unusedVariables false
set_option maxRecDepth 100000
namespace Go.Proofs.Ytahnibhcfdamdaa.Ad
open Go.RowKit Go.Proofs.YtahnibhcfdamdaaW.PrintWords Go.Proofs.Ytahnibhcfdamdaa.Bs Go.Proofs.Ytahnibhcfdamdaa.Av Go.Proofs.Ytahnibhcfdamdaa.Le

/-- Is an address right? -/
def rightA (v : Int) (l : List UInt8) : Bool := v == 6 || (v == 4 && (l.drop 4).all (· == 0))
def widthA (v : Int) (l : List UInt8) : Nat := if rightA v l = true then (if v = 4 then 32 else 128) else 0
def bytesA (v : Int) (l : List UInt8) : List UInt8 := l.take (widthA v l / 8)
theorem infoA : (Try.prog.info? 25).map (·.size) = some 17 := by kernel_rfl
theorem info_AV (v : Int) (l : List UInt8) (h : l.length = 16) : (Try.prog.info? 25).map (·.size) = some (AV [v] l).size := by rw [AV_size, h]; exact infoA
theorem widthA_cases (v : Int) (l : List UInt8) : widthA v l = 0 ∧ rightA v l = false ∨ widthA v l = 32 ∧ rightA v l = true ∧ v = 4 ∨ widthA v l = 128 ∧ rightA v l = true ∧ v = 6 := by
  unfold widthA
  by_cases h : rightA v l = true
  · rw [if_pos h]
    by_cases h4 : v = 4
    · rw [if_pos h4]; exact .inr (.inl ⟨rfl, h, h4⟩)
    · rw [if_neg h4]
      refine .inr (.inr ⟨rfl, h, ?_⟩)
      unfold rightA at h
      simp [h4] at h
      exact h
  · rw [if_neg h]; exact .inl ⟨rfl, by simpa using h⟩
/-- Whether what stands from a place on is zero. -/
theorem all_from (l : List UInt8) (i : Nat) (h : i < l.length) : (l.drop i).all (· == 0) = (l.getD i 0 == 0 && (l.drop (i + 1)).all (· == 0)) := by
  rw [List.drop_eq_getElem_cons h, List.all_cons]
  simp [List.getD_eq_getElem?_getD, List.getElem?_eq_getElem h]

set_option maxHeartbeats 1000000 in
theorem refRight_any (v : Int) (l : List UInt8) (w : World) (hl : l.length = 16) :
    Calls Try.prog 73 #[.agg (AV [v] l)] w fun e w' => e = .returned (.bool (rightA v l)) ∧ Below w.heap.size w w' := by
  have hb := blk_new w (.cells (AV [v] l) 25)
  have c0 := (blk_cell hb 0).trans (AV_num v [] l)
  have HB := Lib.hid (below_alloc (Below.refl w.heap.size w) (.cells (AV [v] l) 25))
  have HX := Lib.hid hb
  have HL := Lib.hid hl
  clear hb
  by_cases h6 : v = 6
  · subst h6
    have HE : Hid (rightA 6 l = true) := Lib.hid (by unfold rightA; rfl)
    rw [HE.out]
    go_enter Try.func73, Try.ntmps73
    go_wp2_with fail
    go_ret
    exact ⟨rfl, HB.out⟩
  · have h6' : (v == 6) = false := beq_false_of_ne h6
    have HE : Hid (rightA v l = (v == 4 && (l.drop 4).all (· == 0))) := Lib.hid (by unfold rightA; rw [h6']; simp)
    rw [HE.out]
    clear h6 hl
    go_enter Try.func73, Try.ntmps73
    go_wp2_with fail
    generalize w.alloc (.cells (AV [v] l) 25) = W at c0 HB HX ⊢
    go_loop [3] (fun v3 => ∃ i : Nat, 4 ≤ i ∧ i ≤ 16 ∧ v3 = .int .i64 i ∧ Hid ((l.drop 4).all (· == 0) = (l.drop i).all (· == 0))) (fun v3 => 16 - (intOf v3).toNat)
    case atStart => exact ⟨4, by omega, by omega, rfl, Lib.hid rfl⟩
    case round =>
      obtain ⟨i, hi4, hi, rfl, HA⟩ := hrel
      by_cases hlt : i < 16
      · have hc : W.cell? ⟨w.heap.size, 1 + i, none⟩ = some (.int .u8 ((l.getD i 0).toNat : Int)) := (blk_cell HX.out _).trans (AV_at [v] l _ i rfl (by rw [HL.out]; exact hlt))
        have hby := byte_lt (l.getD i 0)
        have HS := Lib.hid (all_from l i (by rw [HL.out]; exact hlt))
        by_cases hz : l.getD i 0 = 0
        · have HS2 : Hid ((l.drop 4).all (· == 0) = (l.drop (i + 1)).all (· == 0)) := Lib.hid (by rw [HA.out, HS.out, hz]; rfl)
          rw [hz] at hc
          have hc' : W.cell? ⟨w.heap.size, 1 + i, none⟩ = some (.int .u8 0) := hc
          clear hc hby hz
          go_wp2
          go_round
          case rel => exact ⟨i + 1, by omega, by omega, by go_num, HS2⟩
          case measure => (simp [intOf]) <;> omega
        · have HS2 : Hid ((v == 4 && (l.drop 4).all (· == 0)) = false) := Lib.hid (by rw [HA.out, HS.out, beq_false_of_ne hz]; simp)
          have hx : ¬ ((l.getD i 0).toNat : Int) = 0 := fun e => hz (UInt8.toNat_inj.1 (by show _ = 0; omega))
          generalize (l.getD i 0).toNat = x at hc hby hx
          clear hz
          go_wp2
          go_ret
          rw [HS2.out]
          exact ⟨rfl, HB.out⟩
      · have HS2 : Hid ((v == 4 && (l.drop 4).all (· == 0)) = (v == 4)) := Lib.hid (by rw [HA.out, List.drop_of_length_le (by rw [HL.out]; omega)]; simp)
        go_wp2
        go_ret
        rw [HS2.out]
        exact ⟨rfl, HB.out⟩

set_option maxHeartbeats 1000000 in
theorem refWidth_any (v : Int) (l : List UInt8) (w : World) (hl : l.length = 16) :
    Calls Try.prog 134 #[.agg (AV [v] l)] w fun e w' => e = .returned (.int .i64 (widthA v l)) ∧ Below w.heap.size w w' := by
  have HX := Lib.hid (blk_new w (.cells (AV [v] l) 25))
  have HB := Lib.hid (below_alloc (Below.refl w.heap.size w) (.cells (AV [v] l) 25))
  have LD : ∀ {ops : Array Oper} {rest : List Oper} {op : Oper} {a : Act} {Q : Exit → Act → World → Prop}, op.guard = none → op.op = .load 25 (.tmp 1) → a.eval (.tmp 1) = .pointer (some ⟨w.heap.size, 0, none⟩) → wpList Try.prog ops Q rest (a.put op.dst (.agg (AV [v] l))) (w.alloc (.cells (AV [v] l) 25)) → wpList Try.prog ops Q (op :: rest) a (w.alloc (.cells (AV [v] l) 25)) := fun hg ho hx h => step_load hg 25 (.tmp 1) ho hx HX.out _ Try.underlying25 rfl (info_AV v l hl) h
  have HL := Lib.hid hl
  have hw := widthA_cases v l
  clear hl
  rcases hw with ⟨h1, h2⟩ | ⟨h1, h2, h3⟩ | ⟨h1, h2, h3⟩
  · rw [h1]
    have H2 := Lib.hid h2
    clear h1 h2
    go_enter Try.func134, Try.ntmps134
    go_wp2_with (first | ((with_reducible refine LD rfl rfl rfl ?_)))
    refine (refRight_any v l _ HL.out).mono ?_
    rintro e w1 ⟨rfl, hb⟩
    rw [H2.out]
    have hx1 := blk_below HX.out hb
    have c0 := (blk_cell hx1 0).trans (AV_num _ [] l)
    have HB1 := Lib.hid (below_comp HB.out hb)
    clear hb hx1 LD
    go_wp2_with fail
    go_ret
    exact ⟨rfl, HB1.out⟩
  · rw [h1]
    have H2 := Lib.hid h2
    clear h1 h2
    subst h3
    go_enter Try.func134, Try.ntmps134
    go_wp2_with (first | ((with_reducible refine LD rfl rfl rfl ?_)))
    refine (refRight_any 4 l _ HL.out).mono ?_
    rintro e w1 ⟨rfl, hb⟩
    rw [H2.out]
    have hx1 := blk_below HX.out hb
    have c0 := (blk_cell hx1 0).trans (AV_num _ [] l)
    have HB1 := Lib.hid (below_comp HB.out hb)
    clear hb hx1 LD
    go_wp2_with fail
    go_ret
    exact ⟨rfl, HB1.out⟩
  · rw [h1]
    have H2 := Lib.hid h2
    clear h1 h2
    subst h3
    go_enter Try.func134, Try.ntmps134
    go_wp2_with (first | ((with_reducible refine LD rfl rfl rfl ?_)))
    refine (refRight_any 6 l _ HL.out).mono ?_
    rintro e w1 ⟨rfl, hb⟩
    rw [H2.out]
    have hx1 := blk_below HX.out hb
    have c0 := (blk_cell hx1 0).trans (AV_num _ [] l)
    have HB1 := Lib.hid (below_comp HB.out hb)
    clear hb hx1 LD
    go_wp2_with fail
    go_ret
    exact ⟨rfl, HB1.out⟩
end Go.Proofs.Ytahnibhcfdamdaa.Ad
