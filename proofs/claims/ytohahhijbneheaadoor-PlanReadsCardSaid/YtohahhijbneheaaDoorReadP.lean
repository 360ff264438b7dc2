/- Reading slices of slices of numbers, and plans. -/
import Derived.Test.YtohahhijbneheaaDoorReadI
import Derived.Test.YtohahhijbneheaaDoorPlanN
namespace Go.Proofs.YtohahhijbneheaaDoor
open Go.RowKit Go.ChangeShapes Go.WideShapes Go.ChangeAt
set_option linter.unusedVariables false

theorem icells_ints : Tryd.prog.cellsOf 25 = 1 := by kernel_rfl
set_option maxRecDepth 100000 in
theorem rd_int_row {H : Type} {enc : TypeId × Value → H} {w : World} {base : Nat} {spare : Nat → Bool} {held : Bool} {v : Value} {m : Nat} {y : DataW H × List MemPlace}
    (hm : DataW.trod enc Tryd.prog w base spare held m 25 [v] = some y) : ∃ r : Ch, v = r.val ∧ r.Ok w w.heap.size := by
  obtain ⟨A, n', c', vs, hcs, hn, h1, h2, h3, h4⟩ := rd_slice1 Tryd.underlying25 icells_int hm
  obtain ⟨zs, rfl⟩ := ints_of vs (fun i v hv => by
    obtain ⟨m, y, hy⟩ := h4 i v hv
    obtain ⟨z, hs, -⟩ := DataW.trod_int Tryd.underlying3 hy
    exact ⟨z, by simpa using hs⟩)
  have hn : zs.length = n' := by unfold iv at hn; rwa [List.length_map] at hn
  subst hn
  exact ⟨⟨A, c', zs⟩, by simpa using hcs, h3, h1, h2⟩
theorem rows_of {w : World} : ∀ (vs : List Value), (∀ (i : Nat) (v : Value), vs[i]? = some v → ∃ r : Ch, v = r.val ∧ r.Ok w w.heap.size) → ∃ rs : List Ch, vs = rs.map Ch.val ∧ ∀ r ∈ rs, r.Ok w w.heap.size
  | [], _ => ⟨[], rfl, by simp⟩
  | v :: vs, h => by
    obtain ⟨p, hp, hb⟩ := h 0 v rfl
    obtain ⟨qs, hq, hqs⟩ := rows_of vs (fun i u hu => h (i + 1) u (by simpa using hu))
    exact ⟨p :: qs, by simp [hp, hq], by intro q hm; rcases List.mem_cons.1 hm with rfl | hm; exact hb; exact hqs q hm⟩
set_option maxRecDepth 100000 in
theorem rd_rows0 {H : Type} {enc : TypeId × Value → H} {w : World} {base : Nat} {spare : Nat → Bool} {held : Bool} {m : Nat} {cs : List Value} {y : DataW H × List MemPlace}
    (hm : DataW.trod enc Tryd.prog w base spare held m 22 cs = some y) : ∃ (A : Option Addr) (c : Nat) (rs : List Ch), cs = [.slice A rs.length c] ∧ rs.length ≤ c ∧ c ≤ maxLen ∧ Mem w w.heap.size A rs := by
  obtain ⟨A, n, c, vs, rfl, hn, h1, h2, h3, h4⟩ := rd_slice1 Tryd.underlying22 icells_ints hm
  obtain ⟨rs, rfl, hr⟩ := rows_of (w := w) vs (fun i v hv => by
    obtain ⟨m, y, hy⟩ := h4 i v hv
    exact rd_int_row hy)
  rw [List.length_map] at hn
  subst hn
  exact ⟨A, c, rs, rfl, h1, h2, h3, hr⟩
set_option maxRecDepth 100000 in
/-- A slice of slices of numbers. -/
theorem rd_rows {H : Type} {enc : TypeId × Value → H} {w : World} {base : Nat} {spare : Nat → Bool} {held : Bool} {v : Value} {d : DataW H} {ps : List MemPlace} {okb : Nat}
    (hv : Value.okWide Tryd.prog w .any okb 22 v) (h : DataW.Trod enc Tryd.prog w base spare held 22 v d ps) :
    ∃ (A : Option Addr) (c : Nat) (rs : List Ch), v = .slice A rs.length c ∧ rs.length ≤ c ∧ c ≤ maxLen ∧ Mem w w.heap.size A rs := by
  obtain ⟨a, n, c, rfl⟩ := okWide_slice Tryd.underlying22 hv
  obtain ⟨m, hm⟩ := h
  obtain ⟨A, c', rs, hcs, h1, h2, h3⟩ := rd_rows0 hm
  obtain ⟨rfl, rfl, rfl⟩ : a = A ∧ n = rs.length ∧ c = c' := by simpa [Value.cells] using hcs
  exact ⟨a, c, rs, rfl, h1, h2, h3⟩
end Go.Proofs.YtohahhijbneheaaDoor
