/- Package flow: Note, all cases. -/
import Derived.Test.YtkfjobanbnokoaaVo
set_option linter.unusedSimpArgs false
set_option linter.unusedVariables false
set_option linter.unusedSectionVars false
set_option maxRecDepth 100000
namespace Go.Proofs.Ytkfjobanbnokoaa.Fw
open Go.RowKit Go.Proofs.YtkfjobanbnokoaaW.PrintWords Go.Proofs.Ytkfjobanbnokoaa.Bs Go.Proofs.Ytkfjobanbnokoaa.Gm

def bump (k : Flow) (x : Tal) (fwd : Bool) (n : Nat) : Tal := if fwd = true then ⟨k, x.o + 1, x.b, x.p + n, x.q⟩ else ⟨k, x.o, x.b + 1, x.p, x.q + n⟩
def noteP (l : List (Flow × Tal)) (room : Int) (b : List UInt8) : List (Flow × Tal) × Nat :=
  if ofBad b = 0 then
    (match getK l (talkF (ofF b)) with
    | none => if room ≤ (l.length : Int) then (l, 7) else (putK l (talkF (ofF b)) (bump (talkF (ofF b)) zT (decide (ofF b = talkF (ofF b))) b.length), 0)
    | some x => (putK l (talkF (ofF b)) (bump (talkF (ofF b)) x (decide (ofF b = talkF (ofF b))) b.length), 0))
  else (l, ofBad b)
def Fit (x : Tal) : Prop := (0 ≤ x.o ∧ x.o ≤ 1000000000000) ∧ (0 ≤ x.b ∧ x.b ≤ 1000000000000) ∧ (0 ≤ x.p ∧ x.p ≤ 1000000000000) ∧ (0 ≤ x.q ∧ x.q ≤ 1000000000000)
theorem fit_zero : Fit zT := by unfold Fit zT; decide
section
variable {w0 w : World} {es : List Ent} {bt bm : Nat} {room : Int} {A : Option Addr} {c : Nat} {l : List (Flow × Tal)} {b : List UInt8}
theorem note_upd (HM : HMem w0 w (tblB bt room bm :: mapE MT bm l :: es)) (hr : RB w (.slice A b.length c) b) (hb : ofBad b = 0) (hl : b.length ≤ 1000000) {o : Option Tal} (hg : getK l (talkF (ofF b)) = o) (hf : o = none → ¬ room ≤ (l.length : Int)) (hx : Fit (o.getD zT)) :
    Calls Try.prog 20 #[.pointer (some ⟨bt, 0, none⟩), .slice A b.length c] w fun e w' => e = .returned (.int .i64 0) ∧ HMem w0 w' (tblB bt room bm :: mapE MT bm (putK l (talkF (ofF b)) (bump (talkF (ofF b)) (o.getD zT) (decide (ofF b = talkF (ofF b))) b.length)) :: es) := by
  have HO := of_any A c b w hr
  rw [hb] at HO
  have HT := fun w => talk_any (ofF b) w
  have hE := eq_flow (ofF b) (talkF (ofF b))
  obtain ⟨⟨h1, h2⟩, ⟨h3, h4⟩, ⟨h5, h6⟩, ⟨h7, h8⟩⟩ := hx
  have hw1 : ∀ a : Int, 0 ≤ a → a ≤ 1000000000000 → IntKind.i64.wrap (a + 1) = a + 1 := fun a h h' => by rw [IntKind.wrap_i64]; omega
  have hw2 : ∀ a : Int, 0 ≤ a → a ≤ 1000000000000 → IntKind.i64.wrap (a + (b.length : Int)) = a + (b.length : Int) := fun a h h' => by rw [IntKind.wrap_i64]; omega
  generalize hk : talkF (ofF b) = k at *
  generalize hx0 : o.getD zT = x0 at *
  have hlv : lookV MT true o = .tuple #[.agg (tallyC x0), .bool o.isSome] := by
    subst hx0
    cases o <;> rfl
  have hfull : o.isSome = false → decide (room ≤ (l.length : Int)) = false := fun h => decide_eq_false (hf (by cases o <;> simp_all))
  cases hfw : decide (ofF b = k)
  · rw [hfw] at hE
    have e : bump k x0 false b.length = ⟨k, x0.o, x0.b + 1, x0.p, x0.q + b.length⟩ := rfl
    rw [e]
    exact note_put_false HM (Lib.hid HO) (Lib.hid HT) (Lib.hid (cellsFlow _)) (Lib.hid (cellsFlow _)) (Lib.hid (cellsTal x0)) (Lib.hid (cellsTal _)) (Lib.hid hE) (Lib.hid fun op a {tm tk} ho hm hk' m => lookT (k := k) ho hm hk' m hg hlv) (Lib.hid fun op a {tm tk tx} ho hm hk' hx' u => Wr.mput LT (x := k) (y := ⟨k, x0.o, x0.b + 1, x0.p, x0.q + b.length⟩) ho hm hk' hx' (u ())) rfl hfull (Lib.hid (to_k x0 k)) (Lib.hid (tal_b ⟨k, x0.o, x0.b, x0.p, x0.q⟩)) (Lib.hid (tal_q ⟨k, x0.o, x0.b, x0.p, x0.q⟩))
      (hw1 _ h3 h4) (hw2 _ h7 h8) (Lib.hid (set_b ⟨k, x0.o, x0.b, x0.p, x0.q⟩ (x0.b + 1))) (Lib.hid (tal_q ⟨k, x0.o, x0.b + 1, x0.p, x0.q⟩)) (Lib.hid (set_q ⟨k, x0.o, x0.b + 1, x0.p, x0.q⟩ (x0.q + b.length)))
  · rw [hfw] at hE
    have e : bump k x0 true b.length = ⟨k, x0.o + 1, x0.b, x0.p + b.length, x0.q⟩ := rfl
    rw [e]
    exact note_put_true HM (Lib.hid HO) (Lib.hid HT) (Lib.hid (cellsFlow _)) (Lib.hid (cellsFlow _)) (Lib.hid (cellsTal x0)) (Lib.hid (cellsTal _)) (Lib.hid hE) (Lib.hid fun op a {tm tk} ho hm hk' m => lookT (k := k) ho hm hk' m hg hlv) (Lib.hid fun op a {tm tk tx} ho hm hk' hx' u => Wr.mput LT (x := k) (y := ⟨k, x0.o + 1, x0.b, x0.p + b.length, x0.q⟩) ho hm hk' hx' (u ())) rfl hfull (Lib.hid (to_k x0 k)) (Lib.hid (tal_o ⟨k, x0.o, x0.b, x0.p, x0.q⟩)) (Lib.hid (tal_p ⟨k, x0.o, x0.b, x0.p, x0.q⟩))
      (hw1 _ h1 h2) (hw2 _ h5 h6) (Lib.hid (set_o ⟨k, x0.o, x0.b, x0.p, x0.q⟩ (x0.o + 1))) (Lib.hid (tal_p ⟨k, x0.o + 1, x0.b, x0.p, x0.q⟩)) (Lib.hid (set_p ⟨k, x0.o + 1, x0.b, x0.p, x0.q⟩ (x0.p + b.length)))
theorem note_any (HM : HMem w0 w (tblB bt room bm :: mapE MT bm l :: es)) (hr : RB w (.slice A b.length c) b) (hl : b.length ≤ 1000000) (hx : ∀ x, getK l (talkF (ofF b)) = some x → Fit x) :
    Calls Try.prog 20 #[.pointer (some ⟨bt, 0, none⟩), .slice A b.length c] w fun e w' => e = .returned (.int .i64 ((noteP l room b).2 : Nat)) ∧ HMem w0 w' (tblB bt room bm :: mapE MT bm (noteP l room b).1 :: es) := by
  by_cases hb : ofBad b = 0
  · cases hg : getK l (talkF (ofF b)) with
    | none =>
      by_cases hf : room ≤ (l.length : Int)
      · have e : noteP l room b = (l, 7) := by unfold noteP; rw [if_pos hb, hg]; simp only [if_pos hf]
        rw [e]
        have HO := of_any A c b w hr
        rw [hb] at HO
        exact note_full HM (Lib.hid HO) (Lib.hid fun w => talk_any (ofF b) w) (Lib.hid (cellsFlow _)) (Lib.hid hg) rfl (decide_eq_true hf)
      · have e : noteP l room b = (putK l (talkF (ofF b)) (bump (talkF (ofF b)) zT (decide (ofF b = talkF (ofF b))) b.length), 0) := by unfold noteP; rw [if_pos hb, hg]; simp only [if_neg hf]
        rw [e]
        have h := note_upd HM hr hb hl hg (fun _ => hf) fit_zero
        rw [Option.getD_none] at h
        exact h
    | some x =>
      have e : noteP l room b = (putK l (talkF (ofF b)) (bump (talkF (ofF b)) x (decide (ofF b = talkF (ofF b))) b.length), 0) := by unfold noteP; rw [if_pos hb, hg]
      rw [e]
      have h := note_upd HM hr hb hl hg (fun h => by cases h) (hx x hg)
      rw [Option.getD_some] at h
      exact h
  · have e : noteP l room b = (l, ofBad b) := by unfold noteP; rw [if_neg hb]
    rw [e]
    exact note_bad HM hr hb
end
end Go.Proofs.Ytkfjobanbnokoaa.Fw
