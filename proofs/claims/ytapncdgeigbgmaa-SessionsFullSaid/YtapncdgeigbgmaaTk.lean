/- Layer 31, SessionsFull: there is room for 32. -/
import Derived.Test.YtapncdgeigbgmaaTj
set_option linter.unusedSimpArgs false
set_option linter.unusedVariables false
set_option linter.unusedSectionVars false
set_option maxRecDepth 100000
namespace Go.Proofs.Ytapncdgeigbgmaa.Tb
open Go.RowKit Go.Proofs.YtapncdgeigbgmaaW.PrintWords Go.Proofs.Ytapncdgeigbgmaa.Bs Go.Proofs.Ytapncdgeigbgmaa.Gm Go.Proofs.Ytapncdgeigbgmaa.Sf

/-- The key of the pair i. -/
def kN (x : UInt8) : Key := ⟨#[x, 1, 0, 0, 0, 0, 0, 0, 0, 0, 0, 0, 0, 0, 0, 0, 0, 0, 0, 0, 0, 0, 0, 0, 0, 0, 0, 0, 0, 0, 0, 0], rfl⟩
theorem builtN (x : UInt8) : Built 29 #[(0, .int .u8 (x.toNat : Int)), (1, .int .u8 1)] (.agg (keyC (kN x))) := fun W => by kernel_rfl
theorem kN_inj {x y : UInt8} (h : kN x = kN y) : x = y := by
  have := congrArg (fun v : Key => v[0]) h
  simpa [kN] using this
theorem u8_nat {x : Nat} (h : x < 256) : (((UInt8.ofNat x).toNat : Nat) : Int) = (x : Int) := by
  rw [UInt8.toNat_ofNat']
  omega
theorem u32_nat {x : Nat} (h : x < 4294967296) : (((UInt32.ofNat x).toNat : Nat) : Int) = (x : Int) := by
  rw [UInt32.toNat_ofNat']
  omega
/-- The sessions after so many: numbers and keys. -/
def Shape (L : List Ses) (i : Nat) : Prop := L.map (fun s => (s.lo, s.k)) = (List.range i).map fun j => (UInt32.ofNat j, kN (UInt8.ofNat (j / 2)))
theorem shape_lo {L : List Ses} {i : Nat} (h : Shape L i) : L.map (·.lo) = (List.range i).map UInt32.ofNat := by
  have := congrArg (List.map (·.1)) h
  rw [List.map_map, List.map_map] at this
  exact this
theorem shape_own {L : List Ses} {i : Nat} (h : Shape L i) (k : Key) : ownL L k = ((List.range i).filter fun j => decide (kN (UInt8.ofNat (j / 2)) = k)).map UInt32.ofNat := by
  have e1 : ownL L k = ((L.map (fun s => (s.lo, s.k))).filter fun p => decide (p.2 = k)).map (·.1) := by
    unfold ownL
    rw [List.filter_map, List.map_map]
    rfl
  rw [e1, h, List.filter_map, List.map_map]
  rfl
theorem shape_len {L : List Ses} {i : Nat} (h : Shape L i) : L.length = i := by
  have := congrArg List.length h
  simpa using this
theorem own_count (i c : Nat) (hi : i ≤ 40) (hc : c < 20) : ((List.range i).filter fun j => decide (kN (UInt8.ofNat (j / 2)) = kN (UInt8.ofNat c))).length = min (i - 2 * c) 2 := by
  have e : ∀ j, j ∈ List.range i → decide (kN (UInt8.ofNat (j / 2)) = kN (UInt8.ofNat c)) = decide (j / 2 = c) := fun j hj => by
    have hj : j < i := by simpa using hj
    by_cases h : j / 2 = c
    · rw [h]; simp
    · rw [decide_eq_false h]
      refine decide_eq_false fun e => h ?_
      have := congrArg UInt8.toNat (kN_inj e)
      rw [UInt8.toNat_ofNat', UInt8.toNat_ofNat'] at this
      omega
  rw [List.filter_congr e]
  have : ∀ i ≤ 40, ∀ c < 20, ((List.range i).filter fun j => decide (j / 2 = c)).length = min (i - 2 * c) 2 := by decide +kernel
  exact this i hi c hc
theorem shape_step {L : List Ses} {i : Nat} (h : Shape L (min i 32)) (hi : i < 40) (b : Nat) : instE L (kN (UInt8.ofNat (i / 2))) (UInt32.ofNat i) = (if i < 32 then 0 else 7) ∧ Shape (instR L ⟨b, kN (UInt8.ofNat (i / 2)), UInt32.ofNat i, 0, 0, [], none, 0⟩) (min (i + 1) 32) := by
  have hlo : UInt32.ofNat i ∉ L.map (·.lo) := by
    rw [shape_lo h]
    intro hm
    obtain ⟨j, hj, e⟩ := List.mem_map.1 hm
    have hj : j < min i 32 := by simpa using hj
    have := congrArg UInt32.toNat e
    rw [UInt32.toNat_ofNat', UInt32.toNat_ofNat'] at this
    omega
  have hown : (ownL L (kN (UInt8.ofNat (i / 2)))).length ≠ 2 := by
    rw [shape_own h, List.length_map, own_count _ _ (by omega) (by omega)]
    omega
  have hlen := shape_len h
  unfold instE instR
  simp only
  simp only [if_neg hlo, if_neg hown, hlen]
  by_cases h32 : i < 32
  · have h1 : ¬ 32 ≤ min i 32 := by omega
    simp only [if_neg h1, if_pos h32]
    refine ⟨trivial, ?_⟩
    unfold Shape at h ⊢
    rw [show min i 32 = i by omega] at h
    rw [List.map_append, h, show min (i + 1) 32 = i + 1 by omega, List.range_succ, List.map_append]
    rfl
  · have h1 : 32 ≤ min i 32 := by omega
    simp only [if_pos h1, if_neg h32]
    refine ⟨trivial, ?_⟩
    rw [show min (i + 1) 32 = min i 32 by omega]
    exact h
/-- How many there are behind all of them and one more of the first key. -/
def fullN (n : Nat) : Nat := if n = 0 then 1 else if n = 1 then 2 else min n 32
theorem shape_last {L : List Ses} {n : Nat} (h : Shape L (min n 32)) (hn : n ≤ 40) (hd : (L.map (·.lo)).Nodup) (b : Nat) : instE L (kN 0) 1000 = 0 ∧ (instR L ⟨b, kN 0, 1000, 0, 0, [], none, 0⟩).length = fullN n := by
  have hlo : (1000 : UInt32) ∉ L.map (·.lo) := by
    rw [shape_lo h]
    intro hm
    obtain ⟨j, hj, e⟩ := List.mem_map.1 hm
    have hj : j < min n 32 := by simpa using hj
    have := congrArg UInt32.toNat e
    rw [UInt32.toNat_ofNat'] at this
    have h2 : (1000 : UInt32).toNat = 1000 := rfl
    omega
  have hc := own_count (min n 32) 0 (by omega) (by omega)
  rw [show UInt8.ofNat 0 = 0 from rfl] at hc
  have hown : (ownL L (kN 0)).length = min (min n 32) 2 := by
    rw [shape_own h, List.length_map, hc]
    omega
  have hlen := shape_len h
  unfold instE instR fullN
  simp only
  simp only [if_neg hlo]
  by_cases h2 : 2 ≤ n
  · have h3 : (ownL L (kN 0)).length = 2 := by omega
    simp only [if_pos h3]
    refine ⟨trivial, ?_⟩
    have hne : ownL L (kN 0) ≠ [] := fun e => by rw [e] at hown; simp at hown; omega
    obtain ⟨x, hx⟩ := List.exists_mem_of_ne_nil _ (by exact hne)
    have hhd : (ownL L (kN 0)).headD 0 ∈ ownL L (kN 0) := by
      cases hh : ownL L (kN 0) with
      | nil => exact absurd hh hne
      | cons a r => simp
    obtain ⟨t, ht, _, e⟩ := ownL_mem.1 hhd
    have := out_len hd ht
    rw [e] at this
    rw [List.length_append, List.length_singleton, this, hlen, if_neg (by omega), if_neg (by omega)]
  · have h3 : ¬ (ownL L (kN 0)).length = 2 := by omega
    have h4 : ¬ 32 ≤ min n 32 := by omega
    simp only [if_neg h3, hlen, if_neg h4]
    refine ⟨trivial, ?_⟩
    rw [List.length_append, List.length_singleton, hlen]
    split
    · omega
    · rw [if_pos (by omega)]; omega
theorem fullN_eq (n : Nat) (h : n ≤ 40) : min (max ((n : Int) + 1 - max (min (n : Int) 2 - 1) 0) 1) 32 = (fullN n : Int) := by
  unfold fullN
  split
  · subst_vars; rfl
  · split
    · subst_vars; rfl
    · omega
set_option maxHeartbeats 4000000 in
theorem sessionsFull_walk (n : Int) (w0 : World) : Calls Try.prog 6 #[.int .i64 n] w0 fun e w' => e = .returned (.bool true) ∧ Below w0.heap.size w0 w' := by
  by_cases hn : n < 0 ∨ 40 < n
  · have hb : (decide (n < 0) || decide (40 < n)) = true := by simpa using hn
    rcases hn with hn | hn
    · go_enter Try.func6, Try.ntmps6
      go_wp2_with fail
      refine (alive31 w0).mono ?_
      rintro e w' ⟨rfl, hb⟩
      go_wp2_with fail
      go_ret
      exact ⟨rfl, hb⟩
    · have h0 : ¬ n < 0 := by omega
      go_enter Try.func6, Try.ntmps6
      go_wp2_with fail
      refine (alive31 w0).mono ?_
      rintro e w' ⟨rfl, hb⟩
      go_wp2_with fail
      go_ret
      exact ⟨rfl, hb⟩
  · obtain ⟨m, rfl⟩ : ∃ m : Nat, n = (m : Int) := ⟨n.toNat, by omega⟩
    have hm : m ≤ 40 := by omega
    have h0 : ¬ (m : Int) < 0 := by omega
    have h1 : ¬ (40 : Int) < (m : Int) := by omega
    clear hn
    go_enter Try.func6, Try.ntmps6
    go_wp2_with fail
    refine (new_tab w0).mono ?_
    rintro e w ⟨bt, bb, bo, rfl, HM⟩
    have HB := HM.out.below
    replace HM : HMem w0 w (tabE ⟨bt, bb, bo, [], []⟩ []) := HM
    have hok := ok_nil bt bb bo
    go_wp2_with fail
    go_loopw [4] (fun v4 wr => ∃ i : Nat, i ≤ m ∧ v4 = .int .i64 i ∧ ∃ T : Tab, T.bt = bt ∧ Hid (T.Ok) ∧ Hid (Shape T.L (min i 32)) ∧ HMem w0 wr (tabE T [])) (fun v4 _ => m - (intOf v4).toNat)
    case atStart => exact ⟨0, Nat.zero_le _, rfl, _, rfl, Lib.hid hok, Lib.hid rfl, HM⟩
    case round =>
      clear HM HB hok
      obtain ⟨i, hi, rfl, T, rfl, HOK, HSH, HM⟩ := hrel
      have HB := HM.out.below
      by_cases hlt : (i : Int) < (m : Int)
      · have BH1 : Hid (Built 29 #[(0, .int .u8 ((i / 2 : Nat) : Int)), (1, .int .u8 1)] (.agg (keyC (kN (UInt8.ofNat (i / 2)))))) := Lib.hid (by
          have := builtN (UInt8.ofNat (i / 2))
          rwa [u8_nat (by omega)] at this)
        go_wp2_with (first | refine m_rd ?_ | (refine m_wr ?_; clear HM HB; intro w b HM HB; try clear b) | fail)
        have HI := install_tab HOK.out (kN (UInt8.ofNat (i / 2))) (UInt32.ofNat i) 0 0 HM
        rw [u32_nat (by omega)] at HI
        change Calls _ _ #[_, _, _, .int .u32 0, _] _ _ at HI
        refine HI.mono ?_
        clear HI
        rintro e w ⟨rfl, T2, ⟨hok2, hbt, b, hL⟩, HM2⟩
        obtain ⟨hE, hS⟩ := shape_step HSH.out (by omega) b
        rw [hE]
        rw [← hL] at hS
        have HOK2 := Lib.hid hok2
        have HS2 := Lib.hid hS
        clear hok2 hE hS hL HM BH1
        have HM := HM2
        have HB := HM.out.below
        clear HM2
        by_cases h32 : i < 32
        · rw [if_pos h32]
          have hd : decide ((i : Int) < 32) = true := decide_eq_true (by omega)
          clear h32
          go_wp2_with (first | refine m_rd ?_ | (refine m_wr ?_; clear HM HB; intro w b HM HB; try clear b) | fail)
          go_roundw
          case rel => exact ⟨i + 1, by omega, by go_num, T2, hbt, HOK2, HS2, HM⟩
          case measure => (simp [intOf]) <;> omega
        · rw [if_neg h32]
          have hd : decide ((i : Int) < 32) = false := decide_eq_false (by omega)
          clear h32
          go_wp2_with (first | refine m_rd ?_ | (refine m_wr ?_; clear HM HB; intro w b HM HB; try clear b) | fail)
          go_roundw
          case rel => exact ⟨i + 1, by omega, by go_num, T2, hbt, HOK2, HS2, HM⟩
          case measure => (simp [intOf]) <;> omega
      · obtain rfl : i = m := by omega
        have BH1 : Hid (Built 29 #[(0, .int .u8 0), (1, .int .u8 1)] (.agg (keyC (kN 0)))) := Lib.hid (builtN 0)
        go_wp2_with (first | refine m_rd ?_ | (refine m_wr ?_; clear HM HB; intro w b HM HB; try clear b) | fail)
        have HI := install_tab HOK.out (kN 0) 1000 0 0 HM
        change Calls _ _ #[_, _, .int .u32 1000, .int .u32 0, _] _ _ at HI
        refine HI.mono ?_
        clear HI
        rintro e w ⟨rfl, T2, ⟨hok2, hbt, b, hL⟩, HM2⟩
        obtain ⟨hE, hS⟩ := shape_last HSH.out hm HOK.out.nlo b
        rw [hE]
        rw [← hL] at hS
        have HS2 := Lib.hid hS
        have hf := fullN_eq i hm
        clear hok2 hE hS hL HM BH1
        have HM := HM2
        have HB := HM.out.below
        clear HM2
        go_wp2_with (first | refine m_rd ?_ | (refine m_wr ?_; clear HM HB; intro w b HM HB; try clear b) | fail)
        refine (len_tab hbt HM).mono ?_
        rintro e w' ⟨rfl, rfl⟩
        rw [HS2.out]
        go_wp2_with (first | refine m_rd ?_ | (refine m_wr ?_; clear HM HB; intro w b HM HB; try clear b) | fail)
        refine (alive31 _).mono ?_
        rintro e w ⟨rfl, hb⟩
        replace HM := Lib.hid (HM.out.call hb)
        replace HB := HM.out.below
        clear hb
        go_wp2_with (first | refine m_rd ?_ | (refine m_wr ?_; clear HM HB; intro w b HM HB; try clear b) | fail)
        go_ret
        exact ⟨rfl, HB⟩
end Go.Proofs.Ytapncdgeigbgmaa.Tb
