/- An answer that came in: its parts. -/
import Derived.Test.YtjkilpjdgjijiaaDoorCallRead
import Derived.Test.YtjkilpjdgjijiaaDoorReadS
namespace Go.Proofs.YtjkilpjdgjijiaaDoor
open Go.RowKit Go.ChangeShapes Go.WideShapes Go.ChangeAt
set_option linter.unusedVariables false

theorem acells_ans : Tryd.prog.cellsOf 30 = 6 := by kernel_rfl
theorem acells_err : Tryd.prog.cellsOf 27 = 1 := by kernel_rfl
theorem acells_strs : Tryd.prog.cellsOf 28 = 1 := by kernel_rfl

section
variable {H : Type} {enc : TypeId × Value → H} {w : World} {base : Nat} {spare : Nat → Bool} {held : Bool}
set_option maxRecDepth 100000 in
theorem rd_answer {r : Reach} {b0 : Nat} {v : Value} {d : DataW H} {p : List MemPlace} (hv : Value.okWide Tryd.prog w r b0 30 v) (h : DataW.Trod enc Tryd.prog w base spare held 30 v d p) :
    ∃ (m : An) (A1 : Option Addr) (c1 : Nat) (A2 : Option Addr) (c2 : Nat), v = m.val A1 c1 A2 c2 ∧ Sl w w.heap.size A1 (bv m.d) ∧ (A1 = none → c1 = 0) ∧ Sl w w.heap.size A2 (m.ns.map Value.string) ∧
      (-9223372036854775808 ≤ m.e ∧ m.e ≤ 9223372036854775807) ∧ (-9223372036854775808 ≤ m.k ∧ m.k ≤ 9223372036854775807) ∧ (-9223372036854775808 ≤ m.s ∧ m.s ≤ 9223372036854775807) ∧ (-9223372036854775808 ≤ m.l ∧ m.l ≤ 9223372036854775807) := by
  obtain ⟨cs0, rfl, hsz⟩ := okWide_struct Tryd.underlying30 hv
  obtain ⟨fuel, hf⟩ := h
  rw [acells_ans] at hsz
  obtain ⟨cs, hcs⟩ : ∃ l, cs0.toList = l := ⟨_, rfl⟩
  have h : DataW.trod enc Tryd.prog w base spare held fuel 30 cs = some (d, p) := by rw [← hcs]; simpa [Value.cells] using hf
  have hl : cs.length = 6 := by rw [← hcs]; simpa using hsz
  obtain ⟨x0, x1, x2, x3, x4, x5, rfl⟩ := qlist6 hl
  obtain ⟨n0, y0, t0⟩ := rd_fieldAt Tryd.underlying30 h 0 27 0 1 rfl acells_err
  obtain ⟨z0, e0, -, w0⟩ := DataW.trod_int Tryd.underlying27 t0
  obtain ⟨n1, y1, t1⟩ := rd_fieldAt Tryd.underlying30 h 1 3 1 1 rfl qcells_int
  obtain ⟨z1, e1, -, w1⟩ := DataW.trod_int Tryd.underlying3 t1
  obtain ⟨n2, y2, t2⟩ := rd_fieldAt Tryd.underlying30 h 2 3 2 1 rfl qcells_int
  obtain ⟨z2, e2, -, w2⟩ := DataW.trod_int Tryd.underlying3 t2
  obtain ⟨n3, y3, t3⟩ := rd_fieldAt Tryd.underlying30 h 3 3 3 1 rfl qcells_int
  obtain ⟨z3, e3, -, w3⟩ := DataW.trod_int Tryd.underlying3 t3
  obtain ⟨n4, y4, t4⟩ := rd_fieldAt Tryd.underlying30 h 4 22 4 1 rfl qcells_bytes
  obtain ⟨A1, c1, z4, e4, l4, k4, s4, nl4⟩ := rd_bytes2 Tryd.underlying22 Tryd.underlying5 qcells_u8 t4
  obtain ⟨n5, y5, t5⟩ := rd_fieldAt Tryd.underlying30 h 5 28 5 1 rfl acells_strs
  obtain ⟨A2, n', c2, vs, e5, hn, l5, k5, s5, hvs⟩ := rd_slice1 Tryd.underlying28 qcells_str t5
  obtain ⟨z5, rfl, -⟩ := strs_of vs (fun i v hv => by
    obtain ⟨m, y, hy⟩ := hvs i v hv
    obtain ⟨s, hs, hr⟩ := DataW.trod_string Tryd.underlying9 hy
    exact ⟨s, by simpa using hs, hr.2⟩)
  rw [List.length_map] at hn
  subst hn
  simp only [List.drop_zero, List.drop_succ_cons, List.take_succ_cons, List.take_zero, List.cons.injEq, and_true] at e0 e1 e2 e3 e4 e5
  subst e0 e1 e2 e3 e4 e5
  refine ⟨⟨z0, z1, z2, z3, z4, z5⟩, A1, c1, A2, c2, ?_, s4, nl4, s5, qwf w0, qwf w1, qwf w2, qwf w3⟩
  rw [show cs0 = (An.val ⟨z0, z1, z2, z3, z4, z5⟩ A1 c1 A2 c2).cells from Array.toList_inj.1 hcs]
  rfl
end
end Go.Proofs.YtjkilpjdgjijiaaDoor
