/- What a head of family 4 must have; PRINTED by gen_put4.py. -/
import Derived.Test.YtahnibhcfdamdaaIt
import Derived.Test.YtahnibhcfdamdaaMw
import Derived.Test.YtahnibhcfdamdaaOs3
set_option linter.unusedSimpArgs false
set_option linter.unusedVariables false
set_option maxRecDepth 100000
namespace Go.Proofs.Ytahnibhcfdamdaa.Is
open Go.RowKit Go.Proofs.YtahnibhcfdamdaaW.PrintWords Go.Proofs.Ytahnibhcfdamdaa.Bs Go.Proofs.Ytahnibhcfdamdaa.Av Go.Proofs.Ytahnibhcfdamdaa.Ad Go.Proofs.Ytahnibhcfdamdaa.Hd Go.Proofs.Ytahnibhcfdamdaa.Mm Go.Proofs.Ytahnibhcfdamdaa.Le Go.Proofs.Ytahnibhcfdamdaa.Ip Go.Proofs.Ytahnibhcfdamdaa.En Go.Proofs.Ytahnibhcfdamdaa.Co Go.Proofs.Ytahnibhcfdamdaa.Os

/-- What a head of family 4 must have. -/
def Ok4 (c i f r t p s : Int) (x : List UInt8) (d : Int) (y : List UInt8) : Prop := (0 ≤ c ∧ c < 256) ∧ (0 ≤ i ∧ i < 65536) ∧ (0 ≤ f ∧ f < 8) ∧ (0 ≤ r ∧ r < 8192) ∧ (0 ≤ t ∧ t < 256) ∧ (0 ≤ p ∧ p < 256) ∧ widthA s x = 32 ∧ widthA d y = 32
theorem width32 (s : Int) (x : List UInt8) : widthA s x = 32 ↔ s = 4 ∧ rightA s x = true := by
  rcases widthA_cases s x with ⟨h, h1⟩ | ⟨h, h1, h2⟩ | ⟨h, h1, h2⟩
  · rw [h, h1]; simp
  · rw [h, h1, h2]; simp
  · rw [h, h2]; simp
def In64' (n : Int) : Prop := -9223372036854775808 ≤ n ∧ n ≤ 9223372036854775807
end Go.Proofs.Ytahnibhcfdamdaa.Is
