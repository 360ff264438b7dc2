/- A message that came in: its ints fit. -/
import Derived.Test.YtadflbeniccfeaaDoorMsgRead
import Derived.Test.YtadflbeniccfeaaDoorMsgRd
namespace Go.Proofs.YtadflbeniccfeaaDoor
open Go.RowKit
set_option linter.unusedVariables false
theorem fits_of {z : Int} (h : (Lit.int .i64 z).wf = true) : fits z := by
  have hx : -9223372036854775808 ≤ z ∧ z ≤ 9223372036854775807 := by simpa [Lit.wf, IntKind.min, IntKind.max, IntKind.signed, IntKind.bits] using h
  exact hx
theorem Msg.fit_of {m : Msg} (h : ∀ z : Int, z = m.fr ∨ z = m.to ∨ z = m.nu ∨ z = m.ki ∨ z = m.ep ∨ z = m.att ∨ z = m.wh ∨ z = m.br ∨ z = m.bw ∨ z = m.er ∨ z = m.ta ∨ z = m.lo ∨ z = m.ba → (Lit.int .i64 z).wf = true) : m.fit :=
  ⟨fits_of (h _ (by simp)), fits_of (h _ (by simp)), fits_of (h _ (by simp)), fits_of (h _ (by simp)), fits_of (h _ (by simp)), fits_of (h _ (by simp)), fits_of (h _ (by simp)), fits_of (h _ (by simp)), fits_of (h _ (by simp))⟩
end Go.Proofs.YtadflbeniccfeaaDoor
