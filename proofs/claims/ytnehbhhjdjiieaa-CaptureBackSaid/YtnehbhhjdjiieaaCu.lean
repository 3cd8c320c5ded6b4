/- Package capture: the next record; all records. -/
import Derived.Test.YtnehbhhjdjiieaaCt
set_option linter.unusedSimpArgs false
set_option linter.unusedVariables false
set_option maxRecDepth 100000
namespace Go.Proofs.Ytnehbhhjdjiieaa.Cp
open Go.RowKit Go.Proofs.YtnehbhhjdjiieaaW.PrintWords Go.Proofs.Ytnehbhhjdjiieaa.Bs Go.Proofs.Ytnehbhhjdjiieaa.Gm Go.Proofs.Ytnehbhhjdjiieaa.Le Go.Proofs.Ytnehbhhjdjiieaa.Tk

theorem build2 (s u : Nat) : Built 74 #[(0, .int .u32 (s : Int)), (1, .int .u32 (u : Int))] (.agg #[.int .u32 (s : Int), .int .u32 (u : Int), .int .u32 0, .slice none 0 0]) := fun W => by kernel_rfl
theorem build0 : Built 74 #[] (.agg #[.int .u32 0, .int .u32 0, .int .u32 0, .slice none 0 0]) := fun W => by kernel_rfl
def ZC : Array Value := #[.int .u32 0, .int .u32 0, .int .u32 0, .slice none 0 0]
theorem cellsZC : Cells 74 ZC := ⟨by kernel_rfl, by simp [ZC, Value.oneCell']⟩
/-- What record hands back. -/
def RecOut (big : Bool) (w0 : World) (g : Nat) (P : Option Addr) (q : Nat) (l : List UInt8) (k : Nat) (es : List Ent) (e : Ending) (w' : World) : Prop :=
  (if badN big (l.drop k) = 0 then ∃ A c, e = .returned (.tuple #[.agg (encV ⟨recN big (l.drop k), A, c⟩), .int .i64 0]) ∧ HMem w0 w' (tkB g P q l (k + 16 + sizeN big (l.drop k)) :: rowE R8 (.slice P l.length q) l :: rowE R8 (.slice A (recN big (l.drop k)).d.length c) (recN big (l.drop k)).d :: es) else e = .returned (.tuple #[.agg ZC, .int .i64 ((badN big (l.drop k) : Nat) : Int)])) ∧ Below w0.heap.size w0 w'
set_option maxHeartbeats 1000000 in
theorem record_short_false {w0 w : World} {es : List Ent} {g : Nat} {P : Option Addr} {q : Nat} {l : List UInt8} {k : Nat} (h : HMem w0 w (tkB g P q l k :: rowE R8 (.slice P l.length q) l :: es)) (hk : k ≤ l.length) (hl : l.length ≤ 1099511627776) (hb : (l.drop k).length < 16) :
    Calls Try.prog 72 #[.pointer (some ⟨g, 0, none⟩), .func (.func 62) #[.pointer (some ⟨g, 0, none⟩)] #[]] w fun e w' => e = .returned (.tuple #[.agg ZC, .int .i64 3]) ∧ Below w0.heap.size w0 w' := by
  have HM := h
  have HB := HM.out.below
  have AL1 := Lib.hid zeroC
  have BH1 := Lib.hid build0
  have HC := Lib.hid cellsZC
  have HL := Lib.hid hl
  have HK := Lib.hid hk
  obtain ⟨n, hn⟩ : ∃ n, (l.drop k).length = n := ⟨_, rfl⟩
  rw [hn] at hb
  have HN := Lib.hid hn
  have hb1 : decide ((n : Int) < 16) = true := decide_eq_true (by omega)
  clear h hl hk hb hn
  go_enter Try.func72, Try.ntmps72
  go_wp2_with (first | refine m_rd ?_ | (refine m_wr ?_; clear HM HB; intro w b HM HB; try clear b) | fail)
  refine (mleft n HN.out (Lib.hid ((HM.out.pull (show Del (rowE R8 (.slice P l.length q) l) _ _ by (first | ((repeat (first | with_reducible exact Del.head _ | with_reducible apply Del.tail)); done) | ((repeat (first | exact Del.head _ | apply Del.tail)); done)))).pull (show Del (tkB g P q l _) _ _ by (first | ((repeat (first | with_reducible exact Del.head _ | with_reducible apply Del.tail)); done) | ((repeat (first | exact Del.head _ | apply Del.tail)); done))))) HK.out HL.out).mono ?_
  rintro e w ⟨rfl, HM'⟩
  replace HM := HM'
  replace HB := HM.out.below
  clear HM'
  go_wp2_with (first | refine m_rd ?_ | (refine m_wr ?_; clear HM HB; intro w b HM HB; try clear b) | fail)
  apply m_ret_c1
  next => exact rfl
  next => exact rfl
  next => exact rfl
  next => exact HM
  next => (first | ((repeat (first | with_reducible exact List.Mem.head _ | with_reducible apply List.Mem.tail)); done) | ((repeat (first | exact List.Mem.head _ | apply List.Mem.tail)); done))
  next => exact Try.underlying74
  next => rfl
  exact ⟨rfl, HB⟩
set_option maxHeartbeats 4000000 in
theorem record_more_false {w0 w : World} {es : List Ent} {g : Nat} {P : Option Addr} {q : Nat} {l : List UInt8} {k : Nat} (h : HMem w0 w (tkB g P q l k :: rowE R8 (.slice P l.length q) l :: es)) (hk : k ≤ l.length) (hl : l.length ≤ 1099511627776) (hb : 16 ≤ (l.drop k).length) :
    Calls Try.prog 72 #[.pointer (some ⟨g, 0, none⟩), .func (.func 62) #[.pointer (some ⟨g, 0, none⟩)] #[]] w (RecOut false w0 g P q l k es) := by
  have HM := h
  have HB := HM.out.below
  have AL1 := Lib.hid zeroC
  have BH1 := Lib.hid build0
  have HC := Lib.hid cellsZC
  have HL := Lib.hid hl
  have HK := Lib.hid hk
  obtain ⟨n, hn⟩ : ∃ n, (l.drop k).length = n := ⟨_, rfl⟩
  rw [hn] at hb
  have hlk : k + 16 ≤ l.length := by rw [List.length_drop] at hn; omega
  have hlk2 : l.length = k + n := by rw [List.length_drop] at hn; omega
  have HN := Lib.hid hn
  have hb1 : decide ((n : Int) < 16) = false := decide_eq_false (by omega)
  have HT : Hid (∀ (j : Nat) (w : World) (es : List Ent), j + 4 ≤ 16 → HMem w0 w (tkB g P q l (k + j) :: rowE R8 (.slice P l.length q) l :: es) → Calls Try.prog 62 #[.pointer (some ⟨g, 0, none⟩), .int .i64 4] w fun e w' => e = .returned (.int .u64 ((val false (((l.drop k).drop j).take 4) : Nat) : Int)) ∧ HMem w0 w' (tkB g P q l (k + (j + 4)) :: rowE R8 (.slice P l.length q) l :: es)) := Lib.hid (fun j w es hj hm => by
    have := mlittle 4 4 hm rfl (by decide) (by decide) (by omega) hl
    rw [List.drop_drop, ← Nat.add_assoc]
    exact this)
  have HS : Hid (∀ (w : World) (es : List Ent), HMem w0 w (tkB g P q l k :: rowE R8 (.slice P l.length q) l :: es) → Calls Try.prog 62 #[.pointer (some ⟨g, 0, none⟩), .int .i64 4] w fun e w' => e = .returned (.int .u64 (((recN false (l.drop k)).s : Nat) : Int)) ∧ HMem w0 w' (tkB g P q l (k + 4) :: rowE R8 (.slice P l.length q) l :: es)) := Lib.hid (fun w es hm => HT.out 0 w es (by decide) hm)
  have HU : Hid (∀ (w : World) (es : List Ent), HMem w0 w (tkB g P q l (k + 4) :: rowE R8 (.slice P l.length q) l :: es) → Calls Try.prog 62 #[.pointer (some ⟨g, 0, none⟩), .int .i64 4] w fun e w' => e = .returned (.int .u64 (((recN false (l.drop k)).u : Nat) : Int)) ∧ HMem w0 w' (tkB g P q l (k + 8) :: rowE R8 (.slice P l.length q) l :: es)) := Lib.hid (fun w es hm => HT.out 4 w es (by decide) hm)
  have HV : Hid (∀ (w : World) (es : List Ent), HMem w0 w (tkB g P q l (k + 8) :: rowE R8 (.slice P l.length q) l :: es) → Calls Try.prog 62 #[.pointer (some ⟨g, 0, none⟩), .int .i64 4] w fun e w' => e = .returned (.int .u64 ((sizeN false (l.drop k) : Nat) : Int)) ∧ HMem w0 w' (tkB g P q l (k + 12) :: rowE R8 (.slice P l.length q) l :: es)) := Lib.hid (fun w es hm => HT.out 8 w es (by decide) hm)
  have HZ : Hid (∀ (w : World) (es : List Ent), HMem w0 w (tkB g P q l (k + 12) :: rowE R8 (.slice P l.length q) l :: es) → Calls Try.prog 62 #[.pointer (some ⟨g, 0, none⟩), .int .i64 4] w fun e w' => e = .returned (.int .u64 (((recN false (l.drop k)).z : Nat) : Int)) ∧ HMem w0 w' (tkB g P q l (k + 16) :: rowE R8 (.slice P l.length q) l :: es)) := Lib.hid (fun w es hm => HT.out 12 w es (by decide) hm)
  have HBD := Lib.hid (badN_cases false (l.drop k))
  have HDT : Hid ((l.drop (k + 16)).take (sizeN false (l.drop k)) = (recN false (l.drop k)).d) := Lib.hid (by rw [← List.drop_drop]; rfl)
  have HF := Lib.hid (recN_fits false (l.drop k))
  have HSZ := Lib.hid (sizeN_lt false (l.drop k))
  have HLL : Hid (sizeN false (l.drop k) ≤ n - 16 → (recN false (l.drop k)).d.length = sizeN false (l.drop k)) := Lib.hid (fun h => by
    show (((l.drop k).drop 16).take _).length = _
    rw [List.length_take, List.length_drop, hn]; omega)
  rw [hn] at HBD
  unfold RecOut
  clear h hl hk hb hn HT
  generalize recN false (l.drop k) = r at HS HU HZ HF HBD HDT HLL ⊢
  generalize sizeN false (l.drop k) = sz at HV HSZ HBD HDT HLL ⊢
  generalize badN false (l.drop k) = bad at HBD ⊢
  obtain ⟨f1, f2, f3⟩ := HF.out
  have f4 := HSZ.out
  have HLF : Hid (∀ (w : World) (es : List Ent), HMem w0 w (tkB g P q l k :: rowE R8 (.slice P l.length q) l :: es) → Calls Try.prog 67 #[.pointer (some ⟨g, 0, none⟩)] w fun e w' => e = .returned (.int .i64 (n : Int)) ∧ HMem w0 w' (tkB g P q l k :: rowE R8 (.slice P l.length q) l :: es)) := Lib.hid (fun w es hm => mleft n HN.out hm HK.out HL.out)
  have HLG : Hid (∀ (w : World) (es : List Ent), HMem w0 w (tkB g P q l (k + 16) :: rowE R8 (.slice P l.length q) l :: es) → Calls Try.prog 67 #[.pointer (some ⟨g, 0, none⟩)] w fun e w' => e = .returned (.int .i64 ((n : Int) - 16)) ∧ HMem w0 w' (tkB g P q l (k + 16) :: rowE R8 (.slice P l.length q) l :: es)) := Lib.hid (fun w es hm => by
    have h := mleft (n - 16) (by rw [List.length_drop]; omega) hm hlk HL.out
    rw [show ((n - 16 : Nat) : Int) = (n : Int) - 16 by omega] at h
    exact h)
  have HBY : Hid (∀ (w : World) (es : List Ent), sz ≤ n - 16 → HMem w0 w (tkB g P q l (k + 16) :: rowE R8 (.slice P l.length q) l :: es) → Calls Try.prog 63 #[.pointer (some ⟨g, 0, none⟩), .int .i64 (sz : Int)] w fun e w' => ∃ A c, e = .returned (.slice A r.d.length c) ∧ HMem w0 w' (rowE R8 (.slice A r.d.length c) r.d :: tkB g P q l (k + 16 + sz) :: rowE R8 (.slice P l.length q) l :: es)) := Lib.hid (fun w es hs hm => (mbytes sz _ hm rfl (by omega) HL.out).mono fun e w' hh => by
    obtain ⟨v, rfl, hm'⟩ := hh
    rw [HDT.out] at hm'
    obtain ⟨A1, c1, rfl, _⟩ := hm'.out.rb (List.Mem.head _)
    exact ⟨A1, c1, rfl, hm'⟩)
  have HRT : Hid (sz ≤ n - 16 → sz ≤ 65535 → ∀ A c W, Calls Try.prog 42 #[.agg #[.int .u32 (r.s : Int), .int .u32 (r.u : Int), .int .u32 (r.z : Int), .slice A r.d.length c]] W fun e w' => e = .returned (.bool (rightR r)) ∧ Below W.heap.size W w') := Lib.hid (fun h1 h2 A c W => right_any ⟨r, A, c⟩ W HF.out (by have := HLL.out h1; show r.d.length ≤ _; omega))
  have BH2 := Lib.hid (build2 r.s r.u)
  have HEV : Hid (∀ A c, #[Value.int .u32 (r.s : Int), .int .u32 (r.u : Int), .int .u32 (r.z : Int), .slice A r.d.length c] = encV ⟨r, A, c⟩) := Lib.hid (fun A c => rfl)
  have HBD2 : Hid (bad = 4 ∧ (65535 : Int) < (sz : Int) ∨ bad = 3 ∧ (sz : Int) ≤ 65535 ∧ (n : Int) - 16 < (sz : Int) ∨ bad = 6 ∧ (sz : Int) ≤ 65535 ∧ (sz : Int) ≤ (n : Int) - 16 ∧ rightR r = false ∨ bad = 0 ∧ (sz : Int) ≤ 65535 ∧ (sz : Int) ≤ (n : Int) - 16 ∧ rightR r = true) := Lib.hid (by
    rcases HBD.out with ⟨_, h⟩ | ⟨h0, _, h⟩ | ⟨h0, _, h1, h⟩ | ⟨h0, _, h1, h2, h⟩ | ⟨h0, _, h1, h2, h⟩
    · exact absurd h (by omega)
    · exact .inl ⟨h0, by omega⟩
    · exact .inr (.inl ⟨h0, by omega, by omega⟩)
    · exact .inr (.inr (.inl ⟨h0, by omega, by omega, h⟩))
    · exact .inr (.inr (.inr ⟨h0, by omega, by omega, h⟩)))
  have g0 : ∀ x : Nat, (0 : Int) ≤ (x : Int) := fun x => Int.natCast_nonneg x
  have g1 : (r.s : Int) < 4294967296 := by omega
  have g2 : (r.u : Int) < 4294967296 := by omega
  have g3 : (r.z : Int) < 4294967296 := by omega
  have g4 : (sz : Int) < 4294967296 := by omega
  have g5 := g0 r.s
  have g6 := g0 r.u
  have g7 := g0 r.z
  have g8 := g0 sz
  have HSN : Hid ((sz : Int) ≤ (n : Int) - 16 → sz ≤ n - 16) := Lib.hid (by omega)
  have HSM : Hid ((sz : Int) ≤ 65535 → sz ≤ 65535) := Lib.hid (by omega)
  clear f1 f2 f3 f4 HSZ HF HBD HLL HDT HN g0 hlk hlk2
  generalize (r.s : Int) = is at *
  generalize (r.u : Int) = iu at *
  generalize (r.z : Int) = iz at *
  generalize (sz : Int) = isz at *
  generalize (n : Int) = inn at *
  have HC2 : Hid (Cells 74 #[.int .u32 is, .int .u32 iu, .int .u32 0, .slice none 0 0]) := Lib.hid ⟨by kernel_rfl, by simp [Value.oneCell']⟩
  have HC3 : Hid (∀ A c, Cells 74 #[.int .u32 is, .int .u32 iu, .int .u32 iz, .slice A r.d.length c]) := Lib.hid (fun A c => ⟨by kernel_rfl, by simp [Value.oneCell']⟩)
  go_enter Try.func72, Try.ntmps72
  go_wp2_with (first | refine m_rd ?_ | (refine m_wr ?_; clear HM HB; intro w b HM HB; try clear b) | fail)
  refine (HLF.out _ _ (Lib.hid ((HM.out.pull (show Del (rowE R8 (.slice P l.length q) l) _ _ by (first | ((repeat (first | with_reducible exact Del.head _ | with_reducible apply Del.tail)); done) | ((repeat (first | exact Del.head _ | apply Del.tail)); done)))).pull (show Del (tkB g P q l _) _ _ by (first | ((repeat (first | with_reducible exact Del.head _ | with_reducible apply Del.tail)); done) | ((repeat (first | exact Del.head _ | apply Del.tail)); done)))))).mono ?_
  rintro e w ⟨rfl, HM'⟩
  replace HM := HM'
  replace HB := HM.out.below
  clear HM'
  go_wp2_with (first | refine m_rd ?_ | (refine m_wr ?_; clear HM HB; intro w b HM HB; try clear b) | fail)
  refine (HS.out _ _ (Lib.hid ((HM.out.pull (show Del (rowE R8 (.slice P l.length q) l) _ _ by (first | ((repeat (first | with_reducible exact Del.head _ | with_reducible apply Del.tail)); done) | ((repeat (first | exact Del.head _ | apply Del.tail)); done)))).pull (show Del (tkB g P q l _) _ _ by (first | ((repeat (first | with_reducible exact Del.head _ | with_reducible apply Del.tail)); done) | ((repeat (first | exact Del.head _ | apply Del.tail)); done)))))).mono ?_
  rintro e w ⟨rfl, HM'⟩
  replace HM := HM'
  replace HB := HM.out.below
  clear HM'
  go_wp2_with (first | refine m_rd ?_ | (refine m_wr ?_; clear HM HB; intro w b HM HB; try clear b) | fail)
  refine (HU.out _ _ (Lib.hid ((HM.out.pull (show Del (rowE R8 (.slice P l.length q) l) _ _ by (first | ((repeat (first | with_reducible exact Del.head _ | with_reducible apply Del.tail)); done) | ((repeat (first | exact Del.head _ | apply Del.tail)); done)))).pull (show Del (tkB g P q l _) _ _ by (first | ((repeat (first | with_reducible exact Del.head _ | with_reducible apply Del.tail)); done) | ((repeat (first | exact Del.head _ | apply Del.tail)); done)))))).mono ?_
  rintro e w ⟨rfl, HM'⟩
  replace HM := HM'
  replace HB := HM.out.below
  clear HM'
  go_wp2_with (first | refine m_rd ?_ | (refine m_wr ?_; clear HM HB; intro w b HM HB; try clear b) | fail)
  refine (HV.out _ _ (Lib.hid ((HM.out.pull (show Del (rowE R8 (.slice P l.length q) l) _ _ by (first | ((repeat (first | with_reducible exact Del.head _ | with_reducible apply Del.tail)); done) | ((repeat (first | exact Del.head _ | apply Del.tail)); done)))).pull (show Del (tkB g P q l _) _ _ by (first | ((repeat (first | with_reducible exact Del.head _ | with_reducible apply Del.tail)); done) | ((repeat (first | exact Del.head _ | apply Del.tail)); done)))))).mono ?_
  rintro e w ⟨rfl, HM'⟩
  replace HM := HM'
  replace HB := HM.out.below
  clear HM'
  go_wp2_with (first | refine m_rd ?_ | (refine m_wr ?_; clear HM HB; intro w b HM HB; try clear b) | fail)
  refine (HZ.out _ _ (Lib.hid ((HM.out.pull (show Del (rowE R8 (.slice P l.length q) l) _ _ by (first | ((repeat (first | with_reducible exact Del.head _ | with_reducible apply Del.tail)); done) | ((repeat (first | exact Del.head _ | apply Del.tail)); done)))).pull (show Del (tkB g P q l _) _ _ by (first | ((repeat (first | with_reducible exact Del.head _ | with_reducible apply Del.tail)); done) | ((repeat (first | exact Del.head _ | apply Del.tail)); done)))))).mono ?_
  rintro e w ⟨rfl, HM'⟩
  replace HM := HM'
  replace HB := HM.out.below
  clear HM'
  rcases HBD2.out with ⟨rfl, h⟩ | ⟨rfl, h1, h⟩ | ⟨rfl, h1, h2, h⟩ | ⟨rfl, h1, h2, h⟩
  · have t1 : decide ((65535 : Int) < isz) = true := decide_eq_true h
    clear h
    go_wp2_with (first | ((with_reducible apply m_wrh); (next => exact HM); (next => exact wanted_none rfl); ((with_reducible apply Wr.put); (next => with_reducible exact rfl); (next => kernel_rfl); (next => exact rfl); (next => exact rfl); (next => exact rfl); (next => (first | ((repeat (first | with_reducible exact Upd.head _ | with_reducible apply Upd.tail)); done) | ((repeat (first | exact Upd.head _ | apply Upd.tail)); done))); (next => exact rfl); (next => simp only [List.setIfInBounds_toArray, List.set_cons_zero, List.set_cons_succ]; exact rfl)); clear HM HB; intro w b HM HB; try clear b) | refine m_rd ?_ | (refine m_wr ?_; clear HM HB; intro w b HM HB; try clear b) | fail)
    apply m_ret_c1
    next => exact rfl
    next => exact rfl
    next => exact rfl
    next => exact HM
    next => (first | ((repeat (first | with_reducible exact List.Mem.head _ | with_reducible apply List.Mem.tail)); done) | ((repeat (first | exact List.Mem.head _ | apply List.Mem.tail)); done))
    next => exact Try.underlying74
    next => rfl
    exact ⟨rfl, HB⟩
  · have t1 : decide ((65535 : Int) < isz) = false := decide_eq_false (by omega)
    have t2 : decide (inn - 16 < isz) = true := decide_eq_true h
    clear h h1
    go_wp2_with (first | ((with_reducible apply m_wrh); (next => exact HM); (next => exact wanted_none rfl); ((with_reducible apply Wr.put); (next => with_reducible exact rfl); (next => kernel_rfl); (next => exact rfl); (next => exact rfl); (next => exact rfl); (next => (first | ((repeat (first | with_reducible exact Upd.head _ | with_reducible apply Upd.tail)); done) | ((repeat (first | exact Upd.head _ | apply Upd.tail)); done))); (next => exact rfl); (next => simp only [List.setIfInBounds_toArray, List.set_cons_zero, List.set_cons_succ]; exact rfl)); clear HM HB; intro w b HM HB; try clear b) | refine m_rd ?_ | (refine m_wr ?_; clear HM HB; intro w b HM HB; try clear b) | fail)
    refine (HLG.out _ _ (Lib.hid ((HM.out.pull (show Del (rowE R8 (.slice P l.length q) l) _ _ by (first | ((repeat (first | with_reducible exact Del.head _ | with_reducible apply Del.tail)); done) | ((repeat (first | exact Del.head _ | apply Del.tail)); done)))).pull (show Del (tkB g P q l _) _ _ by (first | ((repeat (first | with_reducible exact Del.head _ | with_reducible apply Del.tail)); done) | ((repeat (first | exact Del.head _ | apply Del.tail)); done)))))).mono ?_
    rintro e w ⟨rfl, HM'⟩
    replace HM := HM'
    replace HB := HM.out.below
    clear HM'
    go_wp2_with (first | refine m_rd ?_ | (refine m_wr ?_; clear HM HB; intro w b HM HB; try clear b) | fail)
    apply m_ret_c1
    next => exact rfl
    next => exact rfl
    next => exact rfl
    next => exact HM
    next => (first | ((repeat (first | with_reducible exact List.Mem.head _ | with_reducible apply List.Mem.tail)); done) | ((repeat (first | exact List.Mem.head _ | apply List.Mem.tail)); done))
    next => exact Try.underlying74
    next => rfl
    exact ⟨rfl, HB⟩
  · have t1 : decide ((65535 : Int) < isz) = false := decide_eq_false (by omega)
    have t2 : decide (inn - 16 < isz) = false := decide_eq_false (by omega)
    have HQ := Lib.hid (HSN.out h2)
    replace HRT := Lib.hid (HRT.out HQ.out (HSM.out h1))
    rw [h] at HRT
    clear h h1 h2
    go_wp2_with (first | ((with_reducible apply m_wrh); (next => exact HM); (next => exact wanted_none rfl); ((with_reducible apply Wr.put); (next => with_reducible exact rfl); (next => kernel_rfl); (next => exact rfl); (next => exact rfl); (next => exact rfl); (next => (first | ((repeat (first | with_reducible exact Upd.head _ | with_reducible apply Upd.tail)); done) | ((repeat (first | exact Upd.head _ | apply Upd.tail)); done))); (next => exact rfl); (next => simp only [List.setIfInBounds_toArray, List.set_cons_zero, List.set_cons_succ]; exact rfl)); clear HM HB; intro w b HM HB; try clear b) | refine m_rd ?_ | (refine m_wr ?_; clear HM HB; intro w b HM HB; try clear b) | fail)
    refine (HLG.out _ _ (Lib.hid ((HM.out.pull (show Del (rowE R8 (.slice P l.length q) l) _ _ by (first | ((repeat (first | with_reducible exact Del.head _ | with_reducible apply Del.tail)); done) | ((repeat (first | exact Del.head _ | apply Del.tail)); done)))).pull (show Del (tkB g P q l _) _ _ by (first | ((repeat (first | with_reducible exact Del.head _ | with_reducible apply Del.tail)); done) | ((repeat (first | exact Del.head _ | apply Del.tail)); done)))))).mono ?_
    rintro e w ⟨rfl, HM'⟩
    replace HM := HM'
    replace HB := HM.out.below
    clear HM'
    go_wp2_with (first | refine m_rd ?_ | (refine m_wr ?_; clear HM HB; intro w b HM HB; try clear b) | fail)
    refine (HBY.out _ _ HQ.out (Lib.hid ((HM.out.pull (show Del (rowE R8 (.slice P l.length q) l) _ _ by (first | ((repeat (first | with_reducible exact Del.head _ | with_reducible apply Del.tail)); done) | ((repeat (first | exact Del.head _ | apply Del.tail)); done)))).pull (show Del (tkB g P q l _) _ _ by (first | ((repeat (first | with_reducible exact Del.head _ | with_reducible apply Del.tail)); done) | ((repeat (first | exact Del.head _ | apply Del.tail)); done)))))).mono ?_
    rintro e w ⟨A1, c1, rfl, HM'⟩
    replace HM := HM'
    replace HB := HM.out.below
    clear HM'
    have HC := Lib.hid (HC3.out A1 c1)
    go_wp2_with (first | ((with_reducible apply m_wrh); (next => exact HM); (next => exact wanted_none rfl); ((with_reducible apply Wr.put); (next => with_reducible exact rfl); (next => kernel_rfl); (next => exact rfl); (next => exact rfl); (next => exact rfl); (next => (first | ((repeat (first | with_reducible exact Upd.head _ | with_reducible apply Upd.tail)); done) | ((repeat (first | exact Upd.head _ | apply Upd.tail)); done))); (next => exact rfl); (next => simp only [List.setIfInBounds_toArray, List.set_cons_zero, List.set_cons_succ]; exact rfl)); clear HM HB; intro w b HM HB; try clear b) | refine m_rd ?_ | (refine m_wr ?_; clear HM HB; intro w b HM HB; try clear b) | fail)
    refine (HRT.out _ _ _).mono ?_
    rintro e w ⟨rfl, hb⟩
    replace HM := Lib.hid (HM.out.call hb)
    replace HB := HM.out.below
    clear hb
    replace HC := Lib.hid cellsZC
    go_wp2_with (first | refine m_rd ?_ | (refine m_wr ?_; clear HM HB; intro w b HM HB; try clear b) | fail)
    apply m_ret_c1
    next => exact rfl
    next => exact rfl
    next => exact rfl
    next => exact HM
    next => (first | ((repeat (first | with_reducible exact List.Mem.head _ | with_reducible apply List.Mem.tail)); done) | ((repeat (first | exact List.Mem.head _ | apply List.Mem.tail)); done))
    next => exact Try.underlying74
    next => rfl
    exact ⟨rfl, HB⟩
  · have t1 : decide ((65535 : Int) < isz) = false := decide_eq_false (by omega)
    have t2 : decide (inn - 16 < isz) = false := decide_eq_false (by omega)
    have HQ := Lib.hid (HSN.out h2)
    replace HRT := Lib.hid (HRT.out HQ.out (HSM.out h1))
    rw [h] at HRT
    clear h h1 h2
    go_wp2_with (first | ((with_reducible apply m_wrh); (next => exact HM); (next => exact wanted_none rfl); ((with_reducible apply Wr.put); (next => with_reducible exact rfl); (next => kernel_rfl); (next => exact rfl); (next => exact rfl); (next => exact rfl); (next => (first | ((repeat (first | with_reducible exact Upd.head _ | with_reducible apply Upd.tail)); done) | ((repeat (first | exact Upd.head _ | apply Upd.tail)); done))); (next => exact rfl); (next => simp only [List.setIfInBounds_toArray, List.set_cons_zero, List.set_cons_succ]; exact rfl)); clear HM HB; intro w b HM HB; try clear b) | refine m_rd ?_ | (refine m_wr ?_; clear HM HB; intro w b HM HB; try clear b) | fail)
    refine (HLG.out _ _ (Lib.hid ((HM.out.pull (show Del (rowE R8 (.slice P l.length q) l) _ _ by (first | ((repeat (first | with_reducible exact Del.head _ | with_reducible apply Del.tail)); done) | ((repeat (first | exact Del.head _ | apply Del.tail)); done)))).pull (show Del (tkB g P q l _) _ _ by (first | ((repeat (first | with_reducible exact Del.head _ | with_reducible apply Del.tail)); done) | ((repeat (first | exact Del.head _ | apply Del.tail)); done)))))).mono ?_
    rintro e w ⟨rfl, HM'⟩
    replace HM := HM'
    replace HB := HM.out.below
    clear HM'
    go_wp2_with (first | refine m_rd ?_ | (refine m_wr ?_; clear HM HB; intro w b HM HB; try clear b) | fail)
    refine (HBY.out _ _ HQ.out (Lib.hid ((HM.out.pull (show Del (rowE R8 (.slice P l.length q) l) _ _ by (first | ((repeat (first | with_reducible exact Del.head _ | with_reducible apply Del.tail)); done) | ((repeat (first | exact Del.head _ | apply Del.tail)); done)))).pull (show Del (tkB g P q l _) _ _ by (first | ((repeat (first | with_reducible exact Del.head _ | with_reducible apply Del.tail)); done) | ((repeat (first | exact Del.head _ | apply Del.tail)); done)))))).mono ?_
    rintro e w ⟨A1, c1, rfl, HM'⟩
    replace HM := HM'
    replace HB := HM.out.below
    clear HM'
    replace HC := Lib.hid (HC3.out A1 c1)
    go_wp2_with (first | ((with_reducible apply m_wrh); (next => exact HM); (next => exact wanted_none rfl); ((with_reducible apply Wr.put); (next => with_reducible exact rfl); (next => kernel_rfl); (next => exact rfl); (next => exact rfl); (next => exact rfl); (next => (first | ((repeat (first | with_reducible exact Upd.head _ | with_reducible apply Upd.tail)); done) | ((repeat (first | exact Upd.head _ | apply Upd.tail)); done))); (next => exact rfl); (next => simp only [List.setIfInBounds_toArray, List.set_cons_zero, List.set_cons_succ]; exact rfl)); clear HM HB; intro w b HM HB; try clear b) | refine m_rd ?_ | (refine m_wr ?_; clear HM HB; intro w b HM HB; try clear b) | fail)
    refine (HRT.out _ _ _).mono ?_
    rintro e w ⟨rfl, hb⟩
    replace HM := Lib.hid (HM.out.call hb)
    replace HB := HM.out.below
    clear hb
    go_wp2_with (first | refine m_rd ?_ | (refine m_wr ?_; clear HM HB; intro w b HM HB; try clear b) | fail)
    apply m_ret_c1
    next => exact rfl
    next => exact rfl
    next => exact rfl
    next => exact HM
    next => (first | ((repeat (first | with_reducible exact List.Mem.head _ | with_reducible apply List.Mem.tail)); done) | ((repeat (first | exact List.Mem.head _ | apply List.Mem.tail)); done))
    next => exact Try.underlying74
    next => rfl
    refine ⟨?_, HB⟩
    refine ⟨A1, c1, ?_, Lib.hid (((Lib.hid ((HM.out.pull (show Del (rowE R8 (.slice P l.length q) l) _ _ by (first | ((repeat (first | with_reducible exact Del.head _ | with_reducible apply Del.tail)); done) | ((repeat (first | exact Del.head _ | apply Del.tail)); done)))).pull (show Del (tkB g P q l _) _ _ by (first | ((repeat (first | with_reducible exact Del.head _ | with_reducible apply Del.tail)); done) | ((repeat (first | exact Del.head _ | apply Del.tail)); done)))))).out.sub (by ((repeat (first | exact List.Sublist.refl _ | apply List.Sublist.cons_cons | apply List.Sublist.cons)); done)))⟩
    rw [← HEV.out]
    rfl
set_option maxHeartbeats 1000000 in
theorem record_short_true {w0 w : World} {es : List Ent} {g : Nat} {P : Option Addr} {q : Nat} {l : List UInt8} {k : Nat} (h : HMem w0 w (tkB g P q l k :: rowE R8 (.slice P l.length q) l :: es)) (hk : k ≤ l.length) (hl : l.length ≤ 1099511627776) (hb : (l.drop k).length < 16) :
    Calls Try.prog 72 #[.pointer (some ⟨g, 0, none⟩), .func (.func 83) #[.pointer (some ⟨g, 0, none⟩)] #[]] w fun e w' => e = .returned (.tuple #[.agg ZC, .int .i64 3]) ∧ Below w0.heap.size w0 w' := by
  have HM := h
  have HB := HM.out.below
  have AL1 := Lib.hid zeroC
  have BH1 := Lib.hid build0
  have HC := Lib.hid cellsZC
  have HL := Lib.hid hl
  have HK := Lib.hid hk
  obtain ⟨n, hn⟩ : ∃ n, (l.drop k).length = n := ⟨_, rfl⟩
  rw [hn] at hb
  have HN := Lib.hid hn
  have hb1 : decide ((n : Int) < 16) = true := decide_eq_true (by omega)
  clear h hl hk hb hn
  go_enter Try.func72, Try.ntmps72
  go_wp2_with (first | refine m_rd ?_ | (refine m_wr ?_; clear HM HB; intro w b HM HB; try clear b) | fail)
  refine (mleft n HN.out (Lib.hid ((HM.out.pull (show Del (rowE R8 (.slice P l.length q) l) _ _ by (first | ((repeat (first | with_reducible exact Del.head _ | with_reducible apply Del.tail)); done) | ((repeat (first | exact Del.head _ | apply Del.tail)); done)))).pull (show Del (tkB g P q l _) _ _ by (first | ((repeat (first | with_reducible exact Del.head _ | with_reducible apply Del.tail)); done) | ((repeat (first | exact Del.head _ | apply Del.tail)); done))))) HK.out HL.out).mono ?_
  rintro e w ⟨rfl, HM'⟩
  replace HM := HM'
  replace HB := HM.out.below
  clear HM'
  go_wp2_with (first | refine m_rd ?_ | (refine m_wr ?_; clear HM HB; intro w b HM HB; try clear b) | fail)
  apply m_ret_c1
  next => exact rfl
  next => exact rfl
  next => exact rfl
  next => exact HM
  next => (first | ((repeat (first | with_reducible exact List.Mem.head _ | with_reducible apply List.Mem.tail)); done) | ((repeat (first | exact List.Mem.head _ | apply List.Mem.tail)); done))
  next => exact Try.underlying74
  next => rfl
  exact ⟨rfl, HB⟩
set_option maxHeartbeats 4000000 in
theorem record_more_true {w0 w : World} {es : List Ent} {g : Nat} {P : Option Addr} {q : Nat} {l : List UInt8} {k : Nat} (h : HMem w0 w (tkB g P q l k :: rowE R8 (.slice P l.length q) l :: es)) (hk : k ≤ l.length) (hl : l.length ≤ 1099511627776) (hb : 16 ≤ (l.drop k).length) :
    Calls Try.prog 72 #[.pointer (some ⟨g, 0, none⟩), .func (.func 83) #[.pointer (some ⟨g, 0, none⟩)] #[]] w (RecOut true w0 g P q l k es) := by
  have HM := h
  have HB := HM.out.below
  have AL1 := Lib.hid zeroC
  have BH1 := Lib.hid build0
  have HC := Lib.hid cellsZC
  have HL := Lib.hid hl
  have HK := Lib.hid hk
  obtain ⟨n, hn⟩ : ∃ n, (l.drop k).length = n := ⟨_, rfl⟩
  rw [hn] at hb
  have hlk : k + 16 ≤ l.length := by rw [List.length_drop] at hn; omega
  have hlk2 : l.length = k + n := by rw [List.length_drop] at hn; omega
  have HN := Lib.hid hn
  have hb1 : decide ((n : Int) < 16) = false := decide_eq_false (by omega)
  have HT : Hid (∀ (j : Nat) (w : World) (es : List Ent), j + 4 ≤ 16 → HMem w0 w (tkB g P q l (k + j) :: rowE R8 (.slice P l.length q) l :: es) → Calls Try.prog 83 #[.pointer (some ⟨g, 0, none⟩), .int .i64 4] w fun e w' => e = .returned (.int .u64 ((val true (((l.drop k).drop j).take 4) : Nat) : Int)) ∧ HMem w0 w' (tkB g P q l (k + (j + 4)) :: rowE R8 (.slice P l.length q) l :: es)) := Lib.hid (fun j w es hj hm => by
    have := mbig 4 4 hm rfl (by decide) (by decide) (by omega) hl
    rw [List.drop_drop, ← Nat.add_assoc]
    exact this)
  have HS : Hid (∀ (w : World) (es : List Ent), HMem w0 w (tkB g P q l k :: rowE R8 (.slice P l.length q) l :: es) → Calls Try.prog 83 #[.pointer (some ⟨g, 0, none⟩), .int .i64 4] w fun e w' => e = .returned (.int .u64 (((recN true (l.drop k)).s : Nat) : Int)) ∧ HMem w0 w' (tkB g P q l (k + 4) :: rowE R8 (.slice P l.length q) l :: es)) := Lib.hid (fun w es hm => HT.out 0 w es (by decide) hm)
  have HU : Hid (∀ (w : World) (es : List Ent), HMem w0 w (tkB g P q l (k + 4) :: rowE R8 (.slice P l.length q) l :: es) → Calls Try.prog 83 #[.pointer (some ⟨g, 0, none⟩), .int .i64 4] w fun e w' => e = .returned (.int .u64 (((recN true (l.drop k)).u : Nat) : Int)) ∧ HMem w0 w' (tkB g P q l (k + 8) :: rowE R8 (.slice P l.length q) l :: es)) := Lib.hid (fun w es hm => HT.out 4 w es (by decide) hm)
  have HV : Hid (∀ (w : World) (es : List Ent), HMem w0 w (tkB g P q l (k + 8) :: rowE R8 (.slice P l.length q) l :: es) → Calls Try.prog 83 #[.pointer (some ⟨g, 0, none⟩), .int .i64 4] w fun e w' => e = .returned (.int .u64 ((sizeN true (l.drop k) : Nat) : Int)) ∧ HMem w0 w' (tkB g P q l (k + 12) :: rowE R8 (.slice P l.length q) l :: es)) := Lib.hid (fun w es hm => HT.out 8 w es (by decide) hm)
  have HZ : Hid (∀ (w : World) (es : List Ent), HMem w0 w (tkB g P q l (k + 12) :: rowE R8 (.slice P l.length q) l :: es) → Calls Try.prog 83 #[.pointer (some ⟨g, 0, none⟩), .int .i64 4] w fun e w' => e = .returned (.int .u64 (((recN true (l.drop k)).z : Nat) : Int)) ∧ HMem w0 w' (tkB g P q l (k + 16) :: rowE R8 (.slice P l.length q) l :: es)) := Lib.hid (fun w es hm => HT.out 12 w es (by decide) hm)
  have HBD := Lib.hid (badN_cases true (l.drop k))
  have HDT : Hid ((l.drop (k + 16)).take (sizeN true (l.drop k)) = (recN true (l.drop k)).d) := Lib.hid (by rw [← List.drop_drop]; rfl)
  have HF := Lib.hid (recN_fits true (l.drop k))
  have HSZ := Lib.hid (sizeN_lt true (l.drop k))
  have HLL : Hid (sizeN true (l.drop k) ≤ n - 16 → (recN true (l.drop k)).d.length = sizeN true (l.drop k)) := Lib.hid (fun h => by
    show (((l.drop k).drop 16).take _).length = _
    rw [List.length_take, List.length_drop, hn]; omega)
  rw [hn] at HBD
  unfold RecOut
  clear h hl hk hb hn HT
  generalize recN true (l.drop k) = r at HS HU HZ HF HBD HDT HLL ⊢
  generalize sizeN true (l.drop k) = sz at HV HSZ HBD HDT HLL ⊢
  generalize badN true (l.drop k) = bad at HBD ⊢
  obtain ⟨f1, f2, f3⟩ := HF.out
  have f4 := HSZ.out
  have HLF : Hid (∀ (w : World) (es : List Ent), HMem w0 w (tkB g P q l k :: rowE R8 (.slice P l.length q) l :: es) → Calls Try.prog 67 #[.pointer (some ⟨g, 0, none⟩)] w fun e w' => e = .returned (.int .i64 (n : Int)) ∧ HMem w0 w' (tkB g P q l k :: rowE R8 (.slice P l.length q) l :: es)) := Lib.hid (fun w es hm => mleft n HN.out hm HK.out HL.out)
  have HLG : Hid (∀ (w : World) (es : List Ent), HMem w0 w (tkB g P q l (k + 16) :: rowE R8 (.slice P l.length q) l :: es) → Calls Try.prog 67 #[.pointer (some ⟨g, 0, none⟩)] w fun e w' => e = .returned (.int .i64 ((n : Int) - 16)) ∧ HMem w0 w' (tkB g P q l (k + 16) :: rowE R8 (.slice P l.length q) l :: es)) := Lib.hid (fun w es hm => by
    have h := mleft (n - 16) (by rw [List.length_drop]; omega) hm hlk HL.out
    rw [show ((n - 16 : Nat) : Int) = (n : Int) - 16 by omega] at h
    exact h)
  have HBY : Hid (∀ (w : World) (es : List Ent), sz ≤ n - 16 → HMem w0 w (tkB g P q l (k + 16) :: rowE R8 (.slice P l.length q) l :: es) → Calls Try.prog 63 #[.pointer (some ⟨g, 0, none⟩), .int .i64 (sz : Int)] w fun e w' => ∃ A c, e = .returned (.slice A r.d.length c) ∧ HMem w0 w' (rowE R8 (.slice A r.d.length c) r.d :: tkB g P q l (k + 16 + sz) :: rowE R8 (.slice P l.length q) l :: es)) := Lib.hid (fun w es hs hm => (mbytes sz _ hm rfl (by omega) HL.out).mono fun e w' hh => by
    obtain ⟨v, rfl, hm'⟩ := hh
    rw [HDT.out] at hm'
    obtain ⟨A1, c1, rfl, _⟩ := hm'.out.rb (List.Mem.head _)
    exact ⟨A1, c1, rfl, hm'⟩)
  have HRT : Hid (sz ≤ n - 16 → sz ≤ 65535 → ∀ A c W, Calls Try.prog 42 #[.agg #[.int .u32 (r.s : Int), .int .u32 (r.u : Int), .int .u32 (r.z : Int), .slice A r.d.length c]] W fun e w' => e = .returned (.bool (rightR r)) ∧ Below W.heap.size W w') := Lib.hid (fun h1 h2 A c W => right_any ⟨r, A, c⟩ W HF.out (by have := HLL.out h1; show r.d.length ≤ _; omega))
  have BH2 := Lib.hid (build2 r.s r.u)
  have HEV : Hid (∀ A c, #[Value.int .u32 (r.s : Int), .int .u32 (r.u : Int), .int .u32 (r.z : Int), .slice A r.d.length c] = encV ⟨r, A, c⟩) := Lib.hid (fun A c => rfl)
  have HBD2 : Hid (bad = 4 ∧ (65535 : Int) < (sz : Int) ∨ bad = 3 ∧ (sz : Int) ≤ 65535 ∧ (n : Int) - 16 < (sz : Int) ∨ bad = 6 ∧ (sz : Int) ≤ 65535 ∧ (sz : Int) ≤ (n : Int) - 16 ∧ rightR r = false ∨ bad = 0 ∧ (sz : Int) ≤ 65535 ∧ (sz : Int) ≤ (n : Int) - 16 ∧ rightR r = true) := Lib.hid (by
    rcases HBD.out with ⟨_, h⟩ | ⟨h0, _, h⟩ | ⟨h0, _, h1, h⟩ | ⟨h0, _, h1, h2, h⟩ | ⟨h0, _, h1, h2, h⟩
    · exact absurd h (by omega)
    · exact .inl ⟨h0, by omega⟩
    · exact .inr (.inl ⟨h0, by omega, by omega⟩)
    · exact .inr (.inr (.inl ⟨h0, by omega, by omega, h⟩))
    · exact .inr (.inr (.inr ⟨h0, by omega, by omega, h⟩)))
  have g0 : ∀ x : Nat, (0 : Int) ≤ (x : Int) := fun x => Int.natCast_nonneg x
  have g1 : (r.s : Int) < 4294967296 := by omega
  have g2 : (r.u : Int) < 4294967296 := by omega
  have g3 : (r.z : Int) < 4294967296 := by omega
  have g4 : (sz : Int) < 4294967296 := by omega
  have g5 := g0 r.s
  have g6 := g0 r.u
  have g7 := g0 r.z
  have g8 := g0 sz
  have HSN : Hid ((sz : Int) ≤ (n : Int) - 16 → sz ≤ n - 16) := Lib.hid (by omega)
  have HSM : Hid ((sz : Int) ≤ 65535 → sz ≤ 65535) := Lib.hid (by omega)
  clear f1 f2 f3 f4 HSZ HF HBD HLL HDT HN g0 hlk hlk2
  generalize (r.s : Int) = is at *
  generalize (r.u : Int) = iu at *
  generalize (r.z : Int) = iz at *
  generalize (sz : Int) = isz at *
  generalize (n : Int) = inn at *
  have HC2 : Hid (Cells 74 #[.int .u32 is, .int .u32 iu, .int .u32 0, .slice none 0 0]) := Lib.hid ⟨by kernel_rfl, by simp [Value.oneCell']⟩
  have HC3 : Hid (∀ A c, Cells 74 #[.int .u32 is, .int .u32 iu, .int .u32 iz, .slice A r.d.length c]) := Lib.hid (fun A c => ⟨by kernel_rfl, by simp [Value.oneCell']⟩)
  go_enter Try.func72, Try.ntmps72
  go_wp2_with (first | refine m_rd ?_ | (refine m_wr ?_; clear HM HB; intro w b HM HB; try clear b) | fail)
  refine (HLF.out _ _ (Lib.hid ((HM.out.pull (show Del (rowE R8 (.slice P l.length q) l) _ _ by (first | ((repeat (first | with_reducible exact Del.head _ | with_reducible apply Del.tail)); done) | ((repeat (first | exact Del.head _ | apply Del.tail)); done)))).pull (show Del (tkB g P q l _) _ _ by (first | ((repeat (first | with_reducible exact Del.head _ | with_reducible apply Del.tail)); done) | ((repeat (first | exact Del.head _ | apply Del.tail)); done)))))).mono ?_
  rintro e w ⟨rfl, HM'⟩
  replace HM := HM'
  replace HB := HM.out.below
  clear HM'
  go_wp2_with (first | refine m_rd ?_ | (refine m_wr ?_; clear HM HB; intro w b HM HB; try clear b) | fail)
  refine (HS.out _ _ (Lib.hid ((HM.out.pull (show Del (rowE R8 (.slice P l.length q) l) _ _ by (first | ((repeat (first | with_reducible exact Del.head _ | with_reducible apply Del.tail)); done) | ((repeat (first | exact Del.head _ | apply Del.tail)); done)))).pull (show Del (tkB g P q l _) _ _ by (first | ((repeat (first | with_reducible exact Del.head _ | with_reducible apply Del.tail)); done) | ((repeat (first | exact Del.head _ | apply Del.tail)); done)))))).mono ?_
  rintro e w ⟨rfl, HM'⟩
  replace HM := HM'
  replace HB := HM.out.below
  clear HM'
  go_wp2_with (first | refine m_rd ?_ | (refine m_wr ?_; clear HM HB; intro w b HM HB; try clear b) | fail)
  refine (HU.out _ _ (Lib.hid ((HM.out.pull (show Del (rowE R8 (.slice P l.length q) l) _ _ by (first | ((repeat (first | with_reducible exact Del.head _ | with_reducible apply Del.tail)); done) | ((repeat (first | exact Del.head _ | apply Del.tail)); done)))).pull (show Del (tkB g P q l _) _ _ by (first | ((repeat (first | with_reducible exact Del.head _ | with_reducible apply Del.tail)); done) | ((repeat (first | exact Del.head _ | apply Del.tail)); done)))))).mono ?_
  rintro e w ⟨rfl, HM'⟩
  replace HM := HM'
  replace HB := HM.out.below
  clear HM'
  go_wp2_with (first | refine m_rd ?_ | (refine m_wr ?_; clear HM HB; intro w b HM HB; try clear b) | fail)
  refine (HV.out _ _ (Lib.hid ((HM.out.pull (show Del (rowE R8 (.slice P l.length q) l) _ _ by (first | ((repeat (first | with_reducible exact Del.head _ | with_reducible apply Del.tail)); done) | ((repeat (first | exact Del.head _ | apply Del.tail)); done)))).pull (show Del (tkB g P q l _) _ _ by (first | ((repeat (first | with_reducible exact Del.head _ | with_reducible apply Del.tail)); done) | ((repeat (first | exact Del.head _ | apply Del.tail)); done)))))).mono ?_
  rintro e w ⟨rfl, HM'⟩
  replace HM := HM'
  replace HB := HM.out.below
  clear HM'
  go_wp2_with (first | refine m_rd ?_ | (refine m_wr ?_; clear HM HB; intro w b HM HB; try clear b) | fail)
  refine (HZ.out _ _ (Lib.hid ((HM.out.pull (show Del (rowE R8 (.slice P l.length q) l) _ _ by (first | ((repeat (first | with_reducible exact Del.head _ | with_reducible apply Del.tail)); done) | ((repeat (first | exact Del.head _ | apply Del.tail)); done)))).pull (show Del (tkB g P q l _) _ _ by (first | ((repeat (first | with_reducible exact Del.head _ | with_reducible apply Del.tail)); done) | ((repeat (first | exact Del.head _ | apply Del.tail)); done)))))).mono ?_
  rintro e w ⟨rfl, HM'⟩
  replace HM := HM'
  replace HB := HM.out.below
  clear HM'
  rcases HBD2.out with ⟨rfl, h⟩ | ⟨rfl, h1, h⟩ | ⟨rfl, h1, h2, h⟩ | ⟨rfl, h1, h2, h⟩
  · have t1 : decide ((65535 : Int) < isz) = true := decide_eq_true h
    clear h
    go_wp2_with (first | ((with_reducible apply m_wrh); (next => exact HM); (next => exact wanted_none rfl); ((with_reducible apply Wr.put); (next => with_reducible exact rfl); (next => kernel_rfl); (next => exact rfl); (next => exact rfl); (next => exact rfl); (next => (first | ((repeat (first | with_reducible exact Upd.head _ | with_reducible apply Upd.tail)); done) | ((repeat (first | exact Upd.head _ | apply Upd.tail)); done))); (next => exact rfl); (next => simp only [List.setIfInBounds_toArray, List.set_cons_zero, List.set_cons_succ]; exact rfl)); clear HM HB; intro w b HM HB; try clear b) | refine m_rd ?_ | (refine m_wr ?_; clear HM HB; intro w b HM HB; try clear b) | fail)
    apply m_ret_c1
    next => exact rfl
    next => exact rfl
    next => exact rfl
    next => exact HM
    next => (first | ((repeat (first | with_reducible exact List.Mem.head _ | with_reducible apply List.Mem.tail)); done) | ((repeat (first | exact List.Mem.head _ | apply List.Mem.tail)); done))
    next => exact Try.underlying74
    next => rfl
    exact ⟨rfl, HB⟩
  · have t1 : decide ((65535 : Int) < isz) = false := decide_eq_false (by omega)
    have t2 : decide (inn - 16 < isz) = true := decide_eq_true h
    clear h h1
    go_wp2_with (first | ((with_reducible apply m_wrh); (next => exact HM); (next => exact wanted_none rfl); ((with_reducible apply Wr.put); (next => with_reducible exact rfl); (next => kernel_rfl); (next => exact rfl); (next => exact rfl); (next => exact rfl); (next => (first | ((repeat (first | with_reducible exact Upd.head _ | with_reducible apply Upd.tail)); done) | ((repeat (first | exact Upd.head _ | apply Upd.tail)); done))); (next => exact rfl); (next => simp only [List.setIfInBounds_toArray, List.set_cons_zero, List.set_cons_succ]; exact rfl)); clear HM HB; intro w b HM HB; try clear b) | refine m_rd ?_ | (refine m_wr ?_; clear HM HB; intro w b HM HB; try clear b) | fail)
    refine (HLG.out _ _ (Lib.hid ((HM.out.pull (show Del (rowE R8 (.slice P l.length q) l) _ _ by (first | ((repeat (first | with_reducible exact Del.head _ | with_reducible apply Del.tail)); done) | ((repeat (first | exact Del.head _ | apply Del.tail)); done)))).pull (show Del (tkB g P q l _) _ _ by (first | ((repeat (first | with_reducible exact Del.head _ | with_reducible apply Del.tail)); done) | ((repeat (first | exact Del.head _ | apply Del.tail)); done)))))).mono ?_
    rintro e w ⟨rfl, HM'⟩
    replace HM := HM'
    replace HB := HM.out.below
    clear HM'
    go_wp2_with (first | refine m_rd ?_ | (refine m_wr ?_; clear HM HB; intro w b HM HB; try clear b) | fail)
    apply m_ret_c1
    next => exact rfl
    next => exact rfl
    next => exact rfl
    next => exact HM
    next => (first | ((repeat (first | with_reducible exact List.Mem.head _ | with_reducible apply List.Mem.tail)); done) | ((repeat (first | exact List.Mem.head _ | apply List.Mem.tail)); done))
    next => exact Try.underlying74
    next => rfl
    exact ⟨rfl, HB⟩
  · have t1 : decide ((65535 : Int) < isz) = false := decide_eq_false (by omega)
    have t2 : decide (inn - 16 < isz) = false := decide_eq_false (by omega)
    have HQ := Lib.hid (HSN.out h2)
    replace HRT := Lib.hid (HRT.out HQ.out (HSM.out h1))
    rw [h] at HRT
    clear h h1 h2
    go_wp2_with (first | ((with_reducible apply m_wrh); (next => exact HM); (next => exact wanted_none rfl); ((with_reducible apply Wr.put); (next => with_reducible exact rfl); (next => kernel_rfl); (next => exact rfl); (next => exact rfl); (next => exact rfl); (next => (first | ((repeat (first | with_reducible exact Upd.head _ | with_reducible apply Upd.tail)); done) | ((repeat (first | exact Upd.head _ | apply Upd.tail)); done))); (next => exact rfl); (next => simp only [List.setIfInBounds_toArray, List.set_cons_zero, List.set_cons_succ]; exact rfl)); clear HM HB; intro w b HM HB; try clear b) | refine m_rd ?_ | (refine m_wr ?_; clear HM HB; intro w b HM HB; try clear b) | fail)
    refine (HLG.out _ _ (Lib.hid ((HM.out.pull (show Del (rowE R8 (.slice P l.length q) l) _ _ by (first | ((repeat (first | with_reducible exact Del.head _ | with_reducible apply Del.tail)); done) | ((repeat (first | exact Del.head _ | apply Del.tail)); done)))).pull (show Del (tkB g P q l _) _ _ by (first | ((repeat (first | with_reducible exact Del.head _ | with_reducible apply Del.tail)); done) | ((repeat (first | exact Del.head _ | apply Del.tail)); done)))))).mono ?_
    rintro e w ⟨rfl, HM'⟩
    replace HM := HM'
    replace HB := HM.out.below
    clear HM'
    go_wp2_with (first | refine m_rd ?_ | (refine m_wr ?_; clear HM HB; intro w b HM HB; try clear b) | fail)
    refine (HBY.out _ _ HQ.out (Lib.hid ((HM.out.pull (show Del (rowE R8 (.slice P l.length q) l) _ _ by (first | ((repeat (first | with_reducible exact Del.head _ | with_reducible apply Del.tail)); done) | ((repeat (first | exact Del.head _ | apply Del.tail)); done)))).pull (show Del (tkB g P q l _) _ _ by (first | ((repeat (first | with_reducible exact Del.head _ | with_reducible apply Del.tail)); done) | ((repeat (first | exact Del.head _ | apply Del.tail)); done)))))).mono ?_
    rintro e w ⟨A1, c1, rfl, HM'⟩
    replace HM := HM'
    replace HB := HM.out.below
    clear HM'
    have HC := Lib.hid (HC3.out A1 c1)
    go_wp2_with (first | ((with_reducible apply m_wrh); (next => exact HM); (next => exact wanted_none rfl); ((with_reducible apply Wr.put); (next => with_reducible exact rfl); (next => kernel_rfl); (next => exact rfl); (next => exact rfl); (next => exact rfl); (next => (first | ((repeat (first | with_reducible exact Upd.head _ | with_reducible apply Upd.tail)); done) | ((repeat (first | exact Upd.head _ | apply Upd.tail)); done))); (next => exact rfl); (next => simp only [List.setIfInBounds_toArray, List.set_cons_zero, List.set_cons_succ]; exact rfl)); clear HM HB; intro w b HM HB; try clear b) | refine m_rd ?_ | (refine m_wr ?_; clear HM HB; intro w b HM HB; try clear b) | fail)
    refine (HRT.out _ _ _).mono ?_
    rintro e w ⟨rfl, hb⟩
    replace HM := Lib.hid (HM.out.call hb)
    replace HB := HM.out.below
    clear hb
    replace HC := Lib.hid cellsZC
    go_wp2_with (first | refine m_rd ?_ | (refine m_wr ?_; clear HM HB; intro w b HM HB; try clear b) | fail)
    apply m_ret_c1
    next => exact rfl
    next => exact rfl
    next => exact rfl
    next => exact HM
    next => (first | ((repeat (first | with_reducible exact List.Mem.head _ | with_reducible apply List.Mem.tail)); done) | ((repeat (first | exact List.Mem.head _ | apply List.Mem.tail)); done))
    next => exact Try.underlying74
    next => rfl
    exact ⟨rfl, HB⟩
  · have t1 : decide ((65535 : Int) < isz) = false := decide_eq_false (by omega)
    have t2 : decide (inn - 16 < isz) = false := decide_eq_false (by omega)
    have HQ := Lib.hid (HSN.out h2)
    replace HRT := Lib.hid (HRT.out HQ.out (HSM.out h1))
    rw [h] at HRT
    clear h h1 h2
    go_wp2_with (first | ((with_reducible apply m_wrh); (next => exact HM); (next => exact wanted_none rfl); ((with_reducible apply Wr.put); (next => with_reducible exact rfl); (next => kernel_rfl); (next => exact rfl); (next => exact rfl); (next => exact rfl); (next => (first | ((repeat (first | with_reducible exact Upd.head _ | with_reducible apply Upd.tail)); done) | ((repeat (first | exact Upd.head _ | apply Upd.tail)); done))); (next => exact rfl); (next => simp only [List.setIfInBounds_toArray, List.set_cons_zero, List.set_cons_succ]; exact rfl)); clear HM HB; intro w b HM HB; try clear b) | refine m_rd ?_ | (refine m_wr ?_; clear HM HB; intro w b HM HB; try clear b) | fail)
    refine (HLG.out _ _ (Lib.hid ((HM.out.pull (show Del (rowE R8 (.slice P l.length q) l) _ _ by (first | ((repeat (first | with_reducible exact Del.head _ | with_reducible apply Del.tail)); done) | ((repeat (first | exact Del.head _ | apply Del.tail)); done)))).pull (show Del (tkB g P q l _) _ _ by (first | ((repeat (first | with_reducible exact Del.head _ | with_reducible apply Del.tail)); done) | ((repeat (first | exact Del.head _ | apply Del.tail)); done)))))).mono ?_
    rintro e w ⟨rfl, HM'⟩
    replace HM := HM'
    replace HB := HM.out.below
    clear HM'
    go_wp2_with (first | refine m_rd ?_ | (refine m_wr ?_; clear HM HB; intro w b HM HB; try clear b) | fail)
    refine (HBY.out _ _ HQ.out (Lib.hid ((HM.out.pull (show Del (rowE R8 (.slice P l.length q) l) _ _ by (first | ((repeat (first | with_reducible exact Del.head _ | with_reducible apply Del.tail)); done) | ((repeat (first | exact Del.head _ | apply Del.tail)); done)))).pull (show Del (tkB g P q l _) _ _ by (first | ((repeat (first | with_reducible exact Del.head _ | with_reducible apply Del.tail)); done) | ((repeat (first | exact Del.head _ | apply Del.tail)); done)))))).mono ?_
    rintro e w ⟨A1, c1, rfl, HM'⟩
    replace HM := HM'
    replace HB := HM.out.below
    clear HM'
    replace HC := Lib.hid (HC3.out A1 c1)
    go_wp2_with (first | ((with_reducible apply m_wrh); (next => exact HM); (next => exact wanted_none rfl); ((with_reducible apply Wr.put); (next => with_reducible exact rfl); (next => kernel_rfl); (next => exact rfl); (next => exact rfl); (next => exact rfl); (next => (first | ((repeat (first | with_reducible exact Upd.head _ | with_reducible apply Upd.tail)); done) | ((repeat (first | exact Upd.head _ | apply Upd.tail)); done))); (next => exact rfl); (next => simp only [List.setIfInBounds_toArray, List.set_cons_zero, List.set_cons_succ]; exact rfl)); clear HM HB; intro w b HM HB; try clear b) | refine m_rd ?_ | (refine m_wr ?_; clear HM HB; intro w b HM HB; try clear b) | fail)
    refine (HRT.out _ _ _).mono ?_
    rintro e w ⟨rfl, hb⟩
    replace HM := Lib.hid (HM.out.call hb)
    replace HB := HM.out.below
    clear hb
    go_wp2_with (first | refine m_rd ?_ | (refine m_wr ?_; clear HM HB; intro w b HM HB; try clear b) | fail)
    apply m_ret_c1
    next => exact rfl
    next => exact rfl
    next => exact rfl
    next => exact HM
    next => (first | ((repeat (first | with_reducible exact List.Mem.head _ | with_reducible apply List.Mem.tail)); done) | ((repeat (first | exact List.Mem.head _ | apply List.Mem.tail)); done))
    next => exact Try.underlying74
    next => rfl
    refine ⟨?_, HB⟩
    refine ⟨A1, c1, ?_, Lib.hid (((Lib.hid ((HM.out.pull (show Del (rowE R8 (.slice P l.length q) l) _ _ by (first | ((repeat (first | with_reducible exact Del.head _ | with_reducible apply Del.tail)); done) | ((repeat (first | exact Del.head _ | apply Del.tail)); done)))).pull (show Del (tkB g P q l _) _ _ by (first | ((repeat (first | with_reducible exact Del.head _ | with_reducible apply Del.tail)); done) | ((repeat (first | exact Del.head _ | apply Del.tail)); done)))))).out.sub (by ((repeat (first | exact List.Sublist.refl _ | apply List.Sublist.cons_cons | apply List.Sublist.cons)); done)))⟩
    rw [← HEV.out]
    rfl
end Go.Proofs.Ytnehbhhjdjiieaa.Cp
