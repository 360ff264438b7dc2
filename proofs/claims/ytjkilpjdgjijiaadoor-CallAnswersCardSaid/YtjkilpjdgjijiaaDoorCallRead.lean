/- A call, an answer that came in: their parts. -/
import Derived.Test.YtjkilpjdgjijiaaDoorRead
import Derived.Test.YtjkilpjdgjijiaaDoorCqM
namespace Go.Proofs.YtjkilpjdgjijiaaDoor
open Go.RowKit Go.ChangeShapes Go.WideShapes Go.ChangeAt
set_option linter.unusedVariables false

theorem qcells_call : Tryd.prog.cellsOf 26 = 6 := by kernel_rfl
theorem qcells_int : Tryd.prog.cellsOf 3 = 1 := by kernel_rfl
theorem qcells_str : Tryd.prog.cellsOf 9 = 1 := by kernel_rfl
theorem qcells_bytes : Tryd.prog.cellsOf 22 = 1 := by kernel_rfl
theorem qcells_u8 : Tryd.prog.cellsOf 5 = 1 := by kernel_rfl
theorem qlist6 {l : List Value} (h : l.length = 6) : ∃ x0 x1 x2 x3 x4 x5, l = [x0, x1, x2, x3, x4, x5] := by
  match l, h with
  | [x0, x1, x2, x3, x4, x5], _ => exact ⟨_, _, _, _, _, _, rfl⟩
theorem qwf {z : Int} (h : (Lit.int IntKind.i64 z).wf = true) : -9223372036854775808 ≤ z ∧ z ≤ 9223372036854775807 := by
  have h2 : IntKind.i64.min ≤ z ∧ z ≤ 9223372036854775807 := by simpa [Lit.wf] using h
  have h3 : IntKind.i64.min = -9223372036854775808 := by decide
  rw [h3] at h2
  exact h2

section
variable {H : Type} {enc : TypeId × Value → H} {w : World} {base : Nat} {spare : Nat → Bool} {held : Bool}

set_option maxRecDepth 100000 in
theorem rd_call_cells {fuel : Nat} {cs : List Value} {x : DataW H × List MemPlace} (hl : cs.length = 6) (h : DataW.trod enc Tryd.prog w base spare held fuel 26 cs = some x) :
    ∃ (m : Cq) (A1 : Option Addr) (c1 : Nat), cs = (m.val A1 c1).cells.toList ∧ m.d.length ≤ maxLen ∧ Sl w w.heap.size A1 (bv m.d) ∧ m.d.length ≤ c1 ∧ (A1 = none → c1 = 0) ∧
      (-9223372036854775808 ≤ m.k ∧ m.k ≤ 9223372036854775807) ∧ (-9223372036854775808 ≤ m.f ∧ m.f ≤ 9223372036854775807) ∧ (-9223372036854775808 ≤ m.n ∧ m.n ≤ 9223372036854775807) ∧ m.p.size ≤ maxLen ∧ m.o.size ≤ maxLen := by
  obtain ⟨x0, x1, x2, x3, x4, x5, rfl⟩ := qlist6 hl
  obtain ⟨n0, y0, t0⟩ := rd_fieldAt Tryd.underlying26 h 0 3 0 1 rfl qcells_int
  obtain ⟨z0, e0, -, w0⟩ := DataW.trod_int Tryd.underlying3 t0
  obtain ⟨n1, y1, t1⟩ := rd_fieldAt Tryd.underlying26 h 1 9 1 1 rfl qcells_str
  obtain ⟨z1, e1, -, w1⟩ := DataW.trod_string Tryd.underlying9 t1
  obtain ⟨n2, y2, t2⟩ := rd_fieldAt Tryd.underlying26 h 2 9 2 1 rfl qcells_str
  obtain ⟨z2, e2, -, w2⟩ := DataW.trod_string Tryd.underlying9 t2
  obtain ⟨n3, y3, t3⟩ := rd_fieldAt Tryd.underlying26 h 3 3 3 1 rfl qcells_int
  obtain ⟨z3, e3, -, w3⟩ := DataW.trod_int Tryd.underlying3 t3
  obtain ⟨n4, y4, t4⟩ := rd_fieldAt Tryd.underlying26 h 4 3 4 1 rfl qcells_int
  obtain ⟨z4, e4, -, w4⟩ := DataW.trod_int Tryd.underlying3 t4
  obtain ⟨n5, y5, t5⟩ := rd_fieldAt Tryd.underlying26 h 5 22 5 1 rfl qcells_bytes
  obtain ⟨A1, c1, z5, e5, l5, k5, s5, nl5⟩ := rd_bytes2 Tryd.underlying22 Tryd.underlying5 qcells_u8 t5
  simp only [List.drop_zero, List.drop_succ_cons, List.take_succ_cons, List.take_zero, List.cons.injEq, and_true] at e0 e1 e2 e3 e4 e5
  subst e0 e1 e2 e3 e4 e5
  exact ⟨⟨z0, z1, z2, z3, z4, z5⟩, A1, c1, rfl, Nat.le_trans l5 k5, s5, l5, nl5, qwf w0, qwf w3, qwf w4, w1, w2⟩

set_option maxRecDepth 100000 in
theorem rd_call {r : Reach} {b0 : Nat} {v : Value} {d : DataW H} {p : List MemPlace} (hv : Value.okWide Tryd.prog w r b0 26 v) (h : DataW.Trod enc Tryd.prog w base spare held 26 v d p) :
    ∃ (m : Cq) (A1 : Option Addr) (c1 : Nat), v = m.val A1 c1 ∧ m.d.length ≤ maxLen ∧ Sl w w.heap.size A1 (bv m.d) ∧ m.d.length ≤ c1 ∧ (A1 = none → c1 = 0) ∧
      (-9223372036854775808 ≤ m.k ∧ m.k ≤ 9223372036854775807) ∧ (-9223372036854775808 ≤ m.f ∧ m.f ≤ 9223372036854775807) ∧ (-9223372036854775808 ≤ m.n ∧ m.n ≤ 9223372036854775807) ∧ m.p.size ≤ maxLen ∧ m.o.size ≤ maxLen := by
  obtain ⟨cs, rfl, hsz⟩ := okWide_struct Tryd.underlying26 hv
  obtain ⟨fuel, hf⟩ := h
  rw [qcells_call] at hsz
  obtain ⟨m, A1, c1, e, r⟩ := rd_call_cells (by simpa [Value.cells] using hsz) hf
  refine ⟨m, A1, c1, ?_, r⟩
  have e' : cs.toList = (m.val A1 c1).cells.toList := e
  have : cs = (m.val A1 c1).cells := Array.toList_inj.1 e'
  rw [this]
  rfl
end
end Go.Proofs.YtjkilpjdgjijiaaDoor
