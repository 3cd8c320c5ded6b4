/- Package capture's statements: records that are alike; the chapter's example. -/
import Derived.Test.YtnehbhhjdjiieaaCx
set_option linter.unusedSimpArgs false
set_option linter.unusedVariables false
set_option maxRecDepth 100000
namespace Go.Proofs.Ytnehbhhjdjiieaa.Cp
open Go.RowKit Go.Proofs.YtnehbhhjdjiieaaW.PrintWords Go.Proofs.Ytnehbhhjdjiieaa.Bs Go.Proofs.Ytnehbhhjdjiieaa.Gm Go.Proofs.Ytnehbhhjdjiieaa.Le Go.Proofs.Ytnehbhhjdjiieaa.En

theorem head_first (big : Bool) (l : List UInt8) : (headB false ++ l).getD 0 0 = 212 := rfl
theorem rb_first {w : World} {A : Option Addr} {n c : Nat} {l : List UInt8} (h : RB w (.slice A n c) l) (hl : 0 < l.length) : ∃ ad, A = some ad ∧ w.cell? ad = some (B (l.getD 0 0)) := by
  obtain ⟨A', c', e, _, hr⟩ := h
  injection e with e1 e2 e3
  subst e1
  obtain ⟨ad, e, hc⟩ := hr.2.2 hl
  have := hc 0 hl
  rw [show ad.add 0 = ad by cases ad; simp [Addr.add]] at this
  exact ⟨ad, e, this⟩
theorem alive55_any (w0 : World) : Calls Try.prog 41 #[] w0 fun e w' => e = .returned (.bool true) ∧ Below w0.heap.size w0 w' := by
  have HO : Hid (∀ w : World, Calls Try.prog 44 #[.slice none 0 0] w fun e w' => ∃ ad c, e = .returned (.tuple #[.slice (some ad) 24 c, .int .i64 0]) ∧ w'.cell? ad = some (.int .u8 212) ∧ Below w.heap.size w w') := Lib.hid (fun w => (bytes_any none 0 [] w (RW.nil RC w) (fun p hp => absurd hp List.not_mem_nil) (by decide)).mono fun e w' hh => by
    unfold Out at hh
    rw [if_pos (show allRight [] = true from rfl)] at hh
    obtain ⟨⟨v, rfl, ho⟩, hb⟩ := hh
    have hr := ho.rb
    obtain ⟨A, c, rfl, hc⟩ := ho.rb
    have hl : (headB false ++ recsB false (([] : List RV).map (·.r))).length = 24 := by rw [List.length_append, headB_length]; rfl
    rw [hl] at hr ⊢
    obtain ⟨ad, rfl, hcell⟩ := rb_first hr (by rw [hl]; decide)
    exact ⟨ad, c, rfl, hcell, hb⟩)
  have HM := Lib.hid (Mem.start w0)
  have HB := HM.out.below
  go_enter Try.func41, Try.ntmps41
  go_wp2_with fail
  refine (HO.out _).mono ?_
  rintro e w ⟨ad, c, rfl, hcell, hb⟩
  replace HB := HB.trans hb
  go_wp2_with fail
  go_ret
  exact ⟨rfl, HB⟩
set_option maxHeartbeats 2000000 in
theorem alike_any (A A' : Option Addr) (c c' : Nat) (l m : List RV) (w0 : World) (hl : RW RC w0 (.slice A l.length c) l) (hm : RW RD w0 (.slice A' m.length c') m) (he : l.map (·.r) = m.map (·.r)) (hd : ∀ p ∈ l, RB w0 (.slice p.A p.r.d.length p.c) p.r.d) (hd' : ∀ p ∈ m, RB w0 (.slice p.A p.r.d.length p.c) p.r.d) (hn : l.length ≤ 1000000) :
    Calls Try.prog 47 #[.slice A l.length c, .slice A' m.length c'] w0 fun e w' => e = .returned (.bool true) ∧ Below w0.heap.size w0 w' := by
  have hlm : l.length = m.length := by have := congrArg List.length he; simpa using this
  obtain ⟨n, hln⟩ : ∃ n, l.length = n := ⟨_, rfl⟩
  have hmn : m.length = n := by omega
  have HP : Hid (∀ i, i < n → ∃ p q ad ad', A = some ad ∧ A' = some ad' ∧ p.r = q.r ∧ RangeA w0 (ad.add (i * 4)) (encV p) ∧ RangeA w0 (ad'.add (i * 4)) (encV q) ∧ RB w0 (.slice p.A p.r.d.length p.c) p.r.d ∧ RB w0 (.slice q.A q.r.d.length q.c) q.r.d) := Lib.hid (fun i hi => by
    have h1 : l[i]? = some l[i] := by simp [hln, hi]
    have h2 : m[i]? = some m[i] := by simp [hmn, hi]
    obtain ⟨ad, rfl, r1⟩ := hl.elem lawC h1
    obtain ⟨ad', rfl, r2⟩ := hm.elem lawD h2
    have e : (l.map (·.r))[i]? = (m.map (·.r))[i]? := by rw [he]
    rw [List.getElem?_map, List.getElem?_map, h1, h2] at e
    simp only [Option.map_some, Option.some.injEq] at e
    exact ⟨l[i], m[i], ad, ad', rfl, rfl, e, r1, r2, hd _ (List.mem_of_getElem? h1), hd' _ (List.mem_of_getElem? h2)⟩)
  rw [hln, hmn]
  have hn1 : n ≤ 1000000 := by omega
  clear hl hm he hd hd' hn hlm hln hmn
  have HM := Lib.hid (Mem.start w0)
  have HB := HM.out.below
  go_enter Try.func47, Try.ntmps47
  go_wp2_with fail
  go_loopw [5] (fun v5 wr => ∃ i, i ≤ n ∧ v5 = .int .i64 (i : Nat) ∧ HMem w0 wr []) (fun v5 _ => n - (intOf v5).toNat)
  case atStart => exact ⟨0, Nat.zero_le _, rfl, HM⟩
  case round =>
    clear HM HB
    obtain ⟨i, hi, rfl, HM⟩ := hrel
    have HB := HM.out.below
    by_cases hlt : i < n
    · obtain ⟨p, q, ad, ad', rfl, rfl, hpq, r1, r2, d1, d2⟩ := HP.out i hlt
      have HE0 : Hid (∀ W, Below w0.heap.size w0 W → W.cell? (ad.add (i * 4)) = some (.int .u32 (q.r.s : Int))) := Lib.hid (fun W hb => r1.below hb 0 _ (by rw [← hpq]; rfl))
      have HE1 : Hid (∀ W, Below w0.heap.size w0 W → W.cell? ((ad.add (i * 4)).add 1) = some (.int .u32 (q.r.u : Int))) := Lib.hid (fun W hb => r1.below hb 1 _ (by rw [← hpq]; rfl))
      have HE2 : Hid (∀ W, Below w0.heap.size w0 W → W.cell? ((ad.add (i * 4)).add 2) = some (.int .u32 (q.r.z : Int))) := Lib.hid (fun W hb => r1.below hb 2 _ (by rw [← hpq]; rfl))
      have HE3 : Hid (∀ W, Below w0.heap.size w0 W → W.cell? ((ad.add (i * 4)).add 3) = some (.slice p.A p.r.d.length p.c)) := Lib.hid (fun W hb => r1.below hb 3 _ rfl)
      have HF0 : Hid (∀ W, Below w0.heap.size w0 W → W.cell? (ad'.add (i * 4)) = some (.int .u32 (q.r.s : Int))) := Lib.hid (fun W hb => r2.below hb 0 _ rfl)
      have HF1 : Hid (∀ W, Below w0.heap.size w0 W → W.cell? ((ad'.add (i * 4)).add 1) = some (.int .u32 (q.r.u : Int))) := Lib.hid (fun W hb => r2.below hb 1 _ rfl)
      have HF2 : Hid (∀ W, Below w0.heap.size w0 W → W.cell? ((ad'.add (i * 4)).add 2) = some (.int .u32 (q.r.z : Int))) := Lib.hid (fun W hb => r2.below hb 2 _ rfl)
      have HF3 : Hid (∀ W, Below w0.heap.size w0 W → W.cell? ((ad'.add (i * 4)).add 3) = some (.slice q.A q.r.d.length q.c)) := Lib.hid (fun W hb => r2.below hb 3 _ rfl)
      have HSM : Hid (∀ W, Below w0.heap.size w0 W → Calls Try.prog 20 #[.slice p.A p.r.d.length p.c, .slice q.A q.r.d.length q.c] W fun e w' => e = .returned (.bool true) ∧ Below W.heap.size W w') := Lib.hid (fun W hb => by
        have := same_any _ _ _ _ W (d1.below hb) (d2.below hb)
        rwa [show decide (p.r.d = q.r.d) = true from by rw [hpq]; exact decide_eq_true rfl] at this)
      clear r1 r2 d1 d2 hpq HP
      generalize (q.r.s : Int) = is at HE0 HF0
      generalize (q.r.u : Int) = iu at HE1 HF1
      generalize (q.r.z : Int) = iz at HE2 HF2
      generalize p.r.d.length = n1 at HE3 HSM
      generalize q.r.d.length = n2 at HF3 HSM
      go_wp2_with fail
      try simp only [Act.put, List.setIfInBounds_toArray, List.set_cons_zero, List.set_cons_succ]
      refine wp_region_held_drew (S := fun w' => Below w0.heap.size w0 w') (by kernel_rfl) (below_drew HB) (fun hS => ?_)
      replace HM := Lib.hid HM.out.drew
      replace HB := HM.out.below
      refine tk 0 17 ?_
      refine tk 1 18 ?_
      refine tk 2 19 ?_
      refine tk 3 20 ?_
      refine tkv 4 21 _ rfl (yields_fact rfl (by kernel_rfl) rfl (fun w hw => HE0.out w hw) (by kernel_rfl)) ?_
      refine tk 5 22 ?_
      refine tk 6 23 ?_
      refine tk 7 24 ?_
      refine tk 8 25 ?_
      refine tkv 9 26 _ rfl (yields_fact rfl (by kernel_rfl) rfl (fun w hw => HF0.out w hw) (by kernel_rfl)) ?_
      refine tk 10 27 ?_
      refine tk 11 28 ?_
      refine tk 12 29 ?_
      refine tk 13 30 ?_
      refine tk 14 31 ?_
      refine tk 15 32 ?_
      refine tkv 16 33 _ rfl (yields_fact rfl (by kernel_rfl) rfl (fun w hw => HE1.out w hw) (by kernel_rfl)) ?_
      refine tk 17 34 ?_
      refine tk 18 35 ?_
      refine tk 19 36 ?_
      refine tk 20 37 ?_
      refine tkv 21 38 _ rfl (yields_fact rfl (by kernel_rfl) rfl (fun w hw => HF1.out w hw) (by kernel_rfl)) ?_
      refine tk 22 39 ?_
      refine tk 23 40 ?_
      refine tk 24 41 ?_
      refine tk 25 42 ?_
      refine tk 26 43 ?_
      refine tk 27 44 ?_
      refine tk 28 45 ?_
      refine tkv 29 46 _ rfl (yields_fact rfl (by kernel_rfl) rfl (fun w hw => HE2.out w hw) (by kernel_rfl)) ?_
      refine tk 30 47 ?_
      refine tk 31 48 ?_
      refine tk 32 49 ?_
      refine tk 33 50 ?_
      refine tkv 34 51 _ rfl (yields_fact rfl (by kernel_rfl) rfl (fun w hw => HF2.out w hw) (by kernel_rfl)) ?_
      refine tk 35 52 ?_
      refine tk 36 53 ?_
      refine tk 37 54 ?_
      refine tk 38 55 ?_
      refine tk 39 56 ?_
      refine tk 40 57 ?_
      refine tk 41 58 ?_
      refine tkv 42 59 _ rfl (yields_fact rfl (by kernel_rfl) rfl (fun w hw => HE3.out w hw) (by kernel_rfl)) ?_
      refine tk 43 60 ?_
      refine tk 44 61 ?_
      refine tk 45 62 ?_
      refine tk 46 63 ?_
      refine tkv 47 64 _ rfl (yields_fact rfl (by kernel_rfl) rfl (fun w hw => HF3.out w hw) (by kernel_rfl)) ?_
      refine rone 48 rfl fun K' hK => ?_
      go_simp
      refine (HSM.out _ HB).mono ?_
      rintro e w ⟨rfl, hb⟩
      replace HM := Lib.hid (HM.out.call hb)
      replace HB := HM.out.below
      clear hb
      refine hK.out _ _ (HB) (fun hS2 => ?_)
      clear hS hK
      have hS := hS2
      clear hS2
      try simp only [Act.put, List.setIfInBounds_toArray, List.set_cons_zero, List.set_cons_succ]
      refine tk 49 66 ?_
      refine tk 50 67 ?_
      refine wpAnyH_done (by kernel_rfl) ?_ _
      clear hS
      go_wp2_with fail
      go_roundw
      case rel => exact ⟨i + 1, by omega, by go_num, HM⟩
      case measure => (simp [intOf]) <;> omega
    · obtain rfl : i = n := by omega
      go_wp2_with fail
      go_ret
      exact ⟨rfl, HB⟩
end Go.Proofs.Ytnehbhhjdjiieaa.Cp
