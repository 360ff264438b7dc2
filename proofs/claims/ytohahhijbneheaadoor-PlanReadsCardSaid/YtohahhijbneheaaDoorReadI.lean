/- Reading numbers' slices. -/
import Derived.Test.YtohahhijbneheaaDoorRead
import Derived.Test.YtohahhijbneheaaDoorInts
namespace Go.Proofs.YtohahhijbneheaaDoor
open Go.RowKit Go.ChangeShapes Go.WideShapes Go.ChangeAt
set_option linter.unusedVariables false

theorem ints_of : ∀ (vs : List Value), (∀ (i : Nat) (v : Value), vs[i]? = some v → ∃ z : Int, v = .int .i64 z) → ∃ zs : List Int, vs = iv zs
  | [], _ => ⟨[], rfl⟩
  | v :: vs, h => by
    obtain ⟨s, hs⟩ := h 0 v rfl
    obtain ⟨zs, hz⟩ := ints_of vs (fun i u hu => h (i + 1) u (by simpa using hu))
    exact ⟨s :: zs, by simp [hs, hz, iv]⟩
theorem icells_int : Tryd.prog.cellsOf 3 = 1 := by kernel_rfl
set_option maxRecDepth 100000 in
/-- A slice of numbers. -/
theorem rd_ints {H : Type} {enc : TypeId × Value → H} {w : World} {base : Nat} {spare : Nat → Bool} {held : Bool} {v : Value} {d : DataW H} {ps : List MemPlace} {okb : Nat}
    (hv : Value.okWide Tryd.prog w .any okb 25 v) (h : DataW.Trod enc Tryd.prog w base spare held 25 v d ps) :
    ∃ (A : Option Addr) (c : Nat) (zs : List Int), v = .slice A zs.length c ∧ zs.length ≤ c ∧ c ≤ maxLen ∧ Sl w w.heap.size A (iv zs) := by
  obtain ⟨a, n, c, rfl⟩ := okWide_slice Tryd.underlying25 hv
  obtain ⟨m, hm⟩ := h
  obtain ⟨A, n', c', vs, hcs, hn, h1, h2, h3, h4⟩ := rd_slice1 Tryd.underlying25 icells_int hm
  obtain ⟨zs, rfl⟩ := ints_of vs (fun i v hv => by
    obtain ⟨m, y, hy⟩ := h4 i v hv
    obtain ⟨z, hs, -⟩ := DataW.trod_int Tryd.underlying3 hy
    exact ⟨z, by simpa using hs⟩)
  have hn : zs.length = n' := by unfold iv at hn; rwa [List.length_map] at hn
  subst hn
  obtain ⟨rfl, rfl, rfl⟩ : a = A ∧ n = zs.length ∧ c = c' := by simpa [Value.cells] using hcs
  exact ⟨a, c, zs, rfl, h1, h2, h3⟩
end Go.Proofs.YtohahhijbneheaaDoor
