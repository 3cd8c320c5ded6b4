/- Addresses of family 6: plain facts. -/
import Derived.Test.YtahnibhcfdamdaaIt
import Derived.Test.YtahnibhcfdamdaaCo
set_option linter.unusedSimpArgs false
set_option linter.unusedVariables false
set_option maxRecDepth 100000
namespace Go.Proofs.Ytahnibhcfdamdaa.Is
open Go.RowKit Go.Proofs.YtahnibhcfdamdaaW.PrintWords Go.Proofs.Ytahnibhcfdamdaa.Bs Go.Proofs.Ytahnibhcfdamdaa.Av Go.Proofs.Ytahnibhcfdamdaa.Ad Go.Proofs.Ytahnibhcfdamdaa.Hd Go.Proofs.Ytahnibhcfdamdaa.Mm Go.Proofs.Ytahnibhcfdamdaa.Le Go.Proofs.Ytahnibhcfdamdaa.Ip Go.Proofs.Ytahnibhcfdamdaa.En Go.Proofs.Ytahnibhcfdamdaa.Co

/-- What a head of family 6 must have. -/
def Ok6 (c i t p a b : Int) : Prop := (0 ≤ c ∧ c < 256) ∧ (0 ≤ i ∧ i < 1048576) ∧ (0 ≤ t ∧ t < 256) ∧ (0 ≤ p ∧ p < 256) ∧ a = 6 ∧ b = 6
theorem width128 (a : Int) (x : List UInt8) : (widthA a x == 128) = decide (a = 6) := by
  rcases widthA_cases a x with ⟨h, h1⟩ | ⟨h, _, h2⟩ | ⟨h, _, h2⟩
  · rw [h]
    have : a ≠ 6 := by intro e; subst e; unfold rightA at h1; simp at h1
    simp [this]
  · rw [h, h2]; rfl
  · rw [h, h2]; rfl
theorem bytesA6 (x : List UInt8) (hx : x.length = 16) : bytesA 6 x = x := by
  have h := width128 6 x
  simp at h
  unfold bytesA
  rw [h, List.take_of_length_le (by rw [hx]; decide)]
def In64 (n : Int) : Prop := -9223372036854775808 ≤ n ∧ n ≤ 9223372036854775807

end Go.Proofs.Ytahnibhcfdamdaa.Is
