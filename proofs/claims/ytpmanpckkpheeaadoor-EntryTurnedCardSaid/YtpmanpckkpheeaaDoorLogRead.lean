/- An entry that came in: its parts. -/
import Derived.Test.YtpmanpckkpheeaaDoorReadN
import Derived.Test.YtpmanpckkpheeaaDoorLogM
namespace Go.Proofs.YtpmanpckkpheeaaDoor
open Go.RowKit Go.ChangeShapes Go.WideShapes Go.ChangeAt
set_option linter.unusedVariables false

theorem lcells_log : Tryd.prog.cellsOf 45 = 7 := by kernel_rfl
theorem lcells_id : Tryd.prog.cellsOf 43 = 3 := by kernel_rfl
theorem lcells_int : Tryd.prog.cellsOf 3 = 1 := by kernel_rfl
theorem lcells_bytes : Tryd.prog.cellsOf 39 = 1 := by kernel_rfl
theorem lcells_u8 : Tryd.prog.cellsOf 5 = 1 := by kernel_rfl
theorem list7 {l : List Value} (h : l.length = 7) : ∃ x0 x1 x2 x3 x4 x5 x6, l = [x0, x1, x2, x3, x4, x5, x6] := by
  match l, h with
  | [x0, x1, x2, x3, x4, x5, x6], _ => exact ⟨_, _, _, _, _, _, _, rfl⟩

section
variable {H : Type} {enc : TypeId × Value → H} {w : World} {base : Nat} {spare : Nat → Bool} {held : Bool}

set_option maxRecDepth 100000 in
theorem rd_log_cells {fuel : Nat} {cs : List Value} {x : DataW H × List MemPlace} (hl : cs.length = 7) (h : DataW.trod enc Tryd.prog w base spare held fuel 45 cs = some x) :
    ∃ (m : Lg) (A1 : Option Addr) (c1 : Nat), cs = (m.val A1 c1).cells.toList ∧ m.pl.length ≤ maxLen ∧ Sl w w.heap.size A1 (bv m.pl) ∧ m.pl.length ≤ c1 ∧ (A1 = none → c1 = 0) := by
  obtain ⟨x0, x1, x2, x3, x4, x5, x6, rfl⟩ := list7 hl
  obtain ⟨n0, y0, t0⟩ := rd_fieldAt Tryd.underlying45 h 0 3 0 1 rfl lcells_int
  obtain ⟨z0, e0, -, w0⟩ := DataW.trod_int Tryd.underlying3 t0
  obtain ⟨n1, y1, t1⟩ := rd_fieldAt Tryd.underlying45 h 1 43 1 3 rfl lcells_id
  obtain ⟨n10, y10, t10⟩ := rd_fieldAt Tryd.underlying43 t1 0 3 0 1 rfl lcells_int
  obtain ⟨z1, e1, -, w1⟩ := DataW.trod_int Tryd.underlying3 t10
  obtain ⟨n11, y11, t11⟩ := rd_fieldAt Tryd.underlying43 t1 1 3 1 1 rfl lcells_int
  obtain ⟨z2, e2, -, w2⟩ := DataW.trod_int Tryd.underlying3 t11
  obtain ⟨n12, y12, t12⟩ := rd_fieldAt Tryd.underlying43 t1 2 3 2 1 rfl lcells_int
  obtain ⟨z3, e3, -, w3⟩ := DataW.trod_int Tryd.underlying3 t12
  obtain ⟨n4, y4, t4⟩ := rd_fieldAt Tryd.underlying45 h 2 3 4 1 rfl lcells_int
  obtain ⟨z4, e4, -, w4⟩ := DataW.trod_int Tryd.underlying3 t4
  obtain ⟨n5, y5, t5⟩ := rd_fieldAt Tryd.underlying45 h 3 3 5 1 rfl lcells_int
  obtain ⟨z5, e5, -, w5⟩ := DataW.trod_int Tryd.underlying3 t5
  obtain ⟨n6, y6, t6⟩ := rd_fieldAt Tryd.underlying45 h 4 39 6 1 rfl lcells_bytes
  obtain ⟨A1, c1, z6, e6, l6, k6, s6, nl6⟩ := rd_bytes2 Tryd.underlying39 Tryd.underlying5 lcells_u8 t6
  simp only [List.drop_zero, List.drop_succ_cons, List.take_succ_cons, List.take_zero, List.cons.injEq, and_true] at e0 e1 e2 e3 e4 e5 e6
  subst e0 e1 e2 e3 e4 e5 e6
  exact ⟨⟨z0, z1, z2, z3, z4, z5, z6⟩, A1, c1, rfl, Nat.le_trans l6 k6, s6, l6, nl6⟩

set_option maxRecDepth 100000 in
theorem rd_log {r : Reach} {b0 : Nat} {v : Value} {d : DataW H} {p : List MemPlace} (hv : Value.okWide Tryd.prog w r b0 45 v) (h : DataW.Trod enc Tryd.prog w base spare held 45 v d p) :
    ∃ (m : Lg) (A1 : Option Addr) (c1 : Nat), v = m.val A1 c1 ∧ m.pl.length ≤ maxLen ∧ Sl w w.heap.size A1 (bv m.pl) ∧ m.pl.length ≤ c1 ∧ (A1 = none → c1 = 0) := by
  obtain ⟨cs, rfl, hsz⟩ := okWide_struct Tryd.underlying45 hv
  obtain ⟨fuel, hf⟩ := h
  rw [lcells_log] at hsz
  obtain ⟨m, A1, c1, e, r⟩ := rd_log_cells (by simpa [Value.cells] using hsz) hf
  refine ⟨m, A1, c1, ?_, r⟩
  have e' : cs.toList = (m.val A1 c1).cells.toList := e
  have : cs = (m.val A1 c1).cells := Array.toList_inj.1 e'
  rw [this]
  rfl
end
end Go.Proofs.YtpmanpckkpheeaaDoor
