/- Reading bytes that may be nil. -/
import Derived.Test.YtohahhijbneheaaDoorRead
namespace Go.Proofs.YtohahhijbneheaaDoor
open Go.RowKit Go.ChangeShapes Go.WideShapes Go.ChangeAt
set_option linter.unusedVariables false

section
variable {H : Type} {enc : TypeId × Value → H} {P : Program} {w : World} {base : Nat} {spare : Nat → Bool} {held : Bool}

theorem rd_nil {t e : TypeId} {fuel : Nat} {A : Option Addr} {n c : Nat} {x : DataW H × List MemPlace} (ht : P.underlying t = some (.slice e)) (h : DataW.trod enc P w base spare held fuel t [.slice A n c] = some x) : A = none → c = 0 ∧ n = 0 := by
  rintro rfl
  rcases Go.Deep.open_slice ht h with ⟨e', -⟩ | ⟨a, len, cap, m, n', D, Pl, e', -⟩
  · simp at e'; exact ⟨e'.2, e'.1⟩
  · simp at e'

/-- Bytes, nil or not. -/
theorem rd_bytes2 {t e : TypeId} {fuel : Nat} {cs : List Value} {x : DataW H × List MemPlace} (ht : P.underlying t = some (.slice e)) (he : P.underlying e = some (.int .u8)) (hc : P.cellsOf e = 1)
    (h : DataW.trod enc P w base spare held fuel t cs = some x) :
    ∃ (A : Option Addr) (c : Nat) (l : List UInt8), cs = [.slice A l.length c] ∧ l.length ≤ c ∧ c ≤ maxLen ∧ Sl w w.heap.size A (bv l) ∧ (A = none → c = 0) := by
  obtain ⟨A, c, l, rfl, h1, h2, h3⟩ := rd_bytes ht he hc h
  exact ⟨A, c, l, rfl, h1, h2, h3, fun e => (rd_nil ht h e).1⟩

end
end Go.Proofs.YtohahhijbneheaaDoor
