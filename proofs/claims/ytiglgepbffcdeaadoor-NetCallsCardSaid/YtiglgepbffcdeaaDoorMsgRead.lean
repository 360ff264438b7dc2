/- A message that came in: its parts. -/
import Derived.Test.YtiglgepbffcdeaaDoorReadN
import Derived.Test.YtiglgepbffcdeaaDoorMsg
namespace Go.Proofs.YtiglgepbffcdeaaDoor
open Go.RowKit Go.ChangeShapes Go.WideShapes Go.ChangeAt
set_option linter.unusedVariables false

theorem cells_msg : Tryd.prog.cellsOf 34 = 16 := by kernel_rfl
theorem cells_cell : Tryd.prog.cellsOf 30 = 2 := by kernel_rfl
theorem cells_ballot : Tryd.prog.cellsOf 32 = 2 := by kernel_rfl
theorem cells_int : Tryd.prog.cellsOf 3 = 1 := by kernel_rfl
theorem cells_bool : Tryd.prog.cellsOf 4 = 1 := by kernel_rfl
theorem cells_bytes : Tryd.prog.cellsOf 28 = 1 := by kernel_rfl
theorem cells_u8 : Tryd.prog.cellsOf 5 = 1 := by kernel_rfl
theorem cells_errno : Tryd.prog.cellsOf 26 = 1 := by kernel_rfl

section
variable {H : Type} {enc : TypeId × Value → H} {w : World} {base : Nat} {spare : Nat → Bool} {held : Bool}

set_option maxRecDepth 100000 in
theorem rd_msg_cells {fuel : Nat} {cs : List Value} {x : DataW H × List MemPlace} (hl : cs.length = 16) (h : DataW.trod enc Tryd.prog w base spare held fuel 34 cs = some x) :
    ∃ (m : Msg) (A1 : Option Addr) (c1 : Nat) (A2 : Option Addr) (c2 : Nat), cs = (m.val A1 c1 A2 c2).cells.toList ∧ m.cd.length ≤ maxLen ∧ m.va.length ≤ maxLen ∧ Sl w w.heap.size A1 (bv m.cd) ∧ Sl w w.heap.size A2 (bv m.va) ∧
      (∀ z : Int, z = m.fr ∨ z = m.to ∨ z = m.nu ∨ z = m.ki ∨ z = m.ep ∨ z = m.att ∨ z = m.wh ∨ z = m.br ∨ z = m.bw ∨ z = m.er ∨ z = m.ta ∨ z = m.lo ∨ z = m.ba → (Lit.int .i64 z).wf = true) ∧ m.cd.length ≤ c1 ∧ m.va.length ≤ c2 ∧ (A1 = none → c1 = 0) ∧ (A2 = none → c2 = 0) := by
  obtain ⟨x0, x1, x2, x3, x4, x5, x6, x7, x8, x9, x10, x11, x12, x13, x14, x15, rfl⟩ := list16 hl
  obtain ⟨n0, y0, t0⟩ := rd_fieldAt Tryd.underlying34 h 0 3 0 1 rfl cells_int
  obtain ⟨z0, e0, -, w0⟩ := DataW.trod_int Tryd.underlying3 t0
  obtain ⟨n1, y1, t1⟩ := rd_fieldAt Tryd.underlying34 h 1 3 1 1 rfl cells_int
  obtain ⟨z1, e1, -, w1⟩ := DataW.trod_int Tryd.underlying3 t1
  obtain ⟨n2, y2, t2⟩ := rd_fieldAt Tryd.underlying34 h 2 3 2 1 rfl cells_int
  obtain ⟨z2, e2, -, w2⟩ := DataW.trod_int Tryd.underlying3 t2
  obtain ⟨n3, y3, t3⟩ := rd_fieldAt Tryd.underlying34 h 3 4 3 1 rfl cells_bool
  obtain ⟨z3, e3, -⟩ := DataW.trod_bool Tryd.underlying4 t3
  obtain ⟨n4, y4, t4⟩ := rd_fieldAt Tryd.underlying34 h 4 3 4 1 rfl cells_int
  obtain ⟨z4, e4, -, w4⟩ := DataW.trod_int Tryd.underlying3 t4
  obtain ⟨n5, y5, t5⟩ := rd_fieldAt Tryd.underlying34 h 5 3 5 1 rfl cells_int
  obtain ⟨z5, e5, -, w5⟩ := DataW.trod_int Tryd.underlying3 t5
  obtain ⟨n6, y6, t6⟩ := rd_fieldAt Tryd.underlying34 h 6 3 6 1 rfl cells_int
  obtain ⟨z6, e6, -, w6⟩ := DataW.trod_int Tryd.underlying3 t6
  obtain ⟨n9, y9, t9⟩ := rd_fieldAt Tryd.underlying34 h 9 28 11 1 rfl cells_bytes
  obtain ⟨A2, c2, z11, e11, l11, k11, s11, nl2⟩ := rd_bytes2 Tryd.underlying28 Tryd.underlying5 cells_u8 t9
  obtain ⟨n10, y10, t10⟩ := rd_fieldAt Tryd.underlying34 h 10 26 12 1 rfl cells_errno
  obtain ⟨z12, e12, -, w12⟩ := DataW.trod_int Tryd.underlying26 t10
  obtain ⟨n11, y11, t11⟩ := rd_fieldAt Tryd.underlying34 h 11 3 13 1 rfl cells_int
  obtain ⟨z13, e13, -, w13⟩ := DataW.trod_int Tryd.underlying3 t11
  obtain ⟨n12, y12, t12⟩ := rd_fieldAt Tryd.underlying34 h 12 3 14 1 rfl cells_int
  obtain ⟨z14, e14, -, w14⟩ := DataW.trod_int Tryd.underlying3 t12
  obtain ⟨n13, y13, t13⟩ := rd_fieldAt Tryd.underlying34 h 13 3 15 1 rfl cells_int
  obtain ⟨z15, e15, -, w15⟩ := DataW.trod_int Tryd.underlying3 t13
  obtain ⟨n7, y7, t7⟩ := rd_fieldAt Tryd.underlying34 h 7 30 7 2 rfl cells_cell
  obtain ⟨n70, y70, t70⟩ := rd_fieldAt Tryd.underlying30 t7 0 3 0 1 rfl cells_int
  obtain ⟨z7, e7, -, w7⟩ := DataW.trod_int Tryd.underlying3 t70
  obtain ⟨n71, y71, t71⟩ := rd_fieldAt Tryd.underlying30 t7 1 28 1 1 rfl cells_bytes
  obtain ⟨A1, c1, z8, e8, l8, k8, s8, nl1⟩ := rd_bytes2 Tryd.underlying28 Tryd.underlying5 cells_u8 t71
  obtain ⟨n8, y8, t8⟩ := rd_fieldAt Tryd.underlying34 h 8 32 9 2 rfl cells_ballot
  obtain ⟨n80, y80, t80⟩ := rd_fieldAt Tryd.underlying32 t8 0 3 0 1 rfl cells_int
  obtain ⟨z9, e9, -, w9⟩ := DataW.trod_int Tryd.underlying3 t80
  obtain ⟨n81, y81, t81⟩ := rd_fieldAt Tryd.underlying32 t8 1 3 1 1 rfl cells_int
  obtain ⟨z10, e10, -, w10⟩ := DataW.trod_int Tryd.underlying3 t81
  simp only [List.drop_zero, List.drop_succ_cons, List.take_succ_cons, List.take_zero, List.cons.injEq, and_true] at e0 e1 e2 e3 e4 e5 e6 e7 e8 e9 e10 e11 e12 e13 e14 e15
  subst e0 e1 e2 e3 e4 e5 e6 e7 e8 e9 e10 e11 e12 e13 e14 e15
  refine ⟨⟨z0, z1, z2, z3, z4, z5, z6, z7, z8, z9, z10, z11, z12, z13, z14, z15⟩, A1, c1, A2, c2, rfl, Nat.le_trans l8 k8, Nat.le_trans l11 k11, s8, s11, ?_, l8, l11, nl1, nl2⟩
  rintro z (rfl | rfl | rfl | rfl | rfl | rfl | rfl | rfl | rfl | rfl | rfl | rfl | rfl) <;> assumption

set_option maxRecDepth 100000 in
theorem rd_msg {r : Reach} {b0 : Nat} {v : Value} {d : DataW H} {p : List MemPlace} (hv : Value.okWide Tryd.prog w r b0 34 v) (h : DataW.Trod enc Tryd.prog w base spare held 34 v d p) :
    ∃ (m : Msg) (A1 : Option Addr) (c1 : Nat) (A2 : Option Addr) (c2 : Nat), v = m.val A1 c1 A2 c2 ∧ m.cd.length ≤ maxLen ∧ m.va.length ≤ maxLen ∧ Sl w w.heap.size A1 (bv m.cd) ∧ Sl w w.heap.size A2 (bv m.va) ∧
      (∀ z : Int, z = m.fr ∨ z = m.to ∨ z = m.nu ∨ z = m.ki ∨ z = m.ep ∨ z = m.att ∨ z = m.wh ∨ z = m.br ∨ z = m.bw ∨ z = m.er ∨ z = m.ta ∨ z = m.lo ∨ z = m.ba → (Lit.int .i64 z).wf = true) ∧ m.cd.length ≤ c1 ∧ m.va.length ≤ c2 ∧ (A1 = none → c1 = 0) ∧ (A2 = none → c2 = 0) := by
  obtain ⟨cs, rfl, hsz⟩ := okWide_struct Tryd.underlying34 hv
  obtain ⟨fuel, hf⟩ := h
  rw [cells_msg] at hsz
  obtain ⟨m, A1, c1, A2, c2, e, r⟩ := rd_msg_cells (by simpa [Value.cells] using hsz) hf
  refine ⟨m, A1, c1, A2, c2, ?_, r⟩
  have e' : cs.toList = (m.val A1 c1 A2 c2).cells.toList := e
  have : cs = (m.val A1 c1 A2 c2).cells := Array.toList_inj.1 e'
  rw [this]
  rfl
end
end Go.Proofs.YtiglgepbffcdeaaDoor
