/- rpc.right, tidelineref12.Right. -/
import Derived.Test.YtiglgepbffcdeaaDoorMsg
namespace Go.Proofs.YtiglgepbffcdeaaDoor
open Go.RowKit
set_option linter.unusedVariables false

/-- May a message be? -/
def Msg.right (m : Msg) : Bool :=
  decide (-128 ≤ m.fr ∧ m.fr ≤ 127 ∧ -128 ≤ m.to ∧ m.to ≤ 127 ∧ 1 ≤ m.ki ∧ m.ki ≤ 9 ∧ 0 ≤ m.wh ∧ m.wh ≤ 3 ∧ m.cd.length ≤ 65536 ∧ m.va.length ≤ 1000)

set_option maxRecDepth 100000 in
set_option maxHeartbeats 4000000 in
theorem mright_any (m : Msg) (A1 A2 : Option Addr) (c1 c2 : Nat) (w : World) :
    Calls Tryd.prog 110 #[m.val A1 c1 A2 c2] w fun e w' => e = .returned (.bool m.right) ∧ Below w.heap.size w w' := by
  obtain ⟨r, hr⟩ : ∃ r, m.right = r := ⟨_, rfl⟩
  rw [hr]
  have HR := Lib.hid hr
  clear hr
  obtain ⟨a1, a2, a3, a4, a5, a6, a7, a8, a9, a10, a11, a12, a13, a14, a15, a16⟩ := m
  go_enter Tryd.func110, Tryd.ntmps110
  go_wp2
  all_goals
    go_ret
    refine ⟨ret_bool ?_, (Below.refl _ _).alloc (Nat.le_refl _) _⟩
    rw [← HR.out]
    unfold Msg.right
    first
      | exact decide_eq_false (by omega)
      | exact (decide_eq_false (by omega)).symm
      | (rw [Bool.eq_iff_iff]; simp; omega)
set_option maxRecDepth 100000 in
set_option maxHeartbeats 4000000 in
theorem rmright_any (m : Msg) (A1 A2 : Option Addr) (c1 c2 : Nat) (w : World) :
    Calls Tryd.prog 78 #[m.val A1 c1 A2 c2] w fun e w' => e = .returned (.bool m.right) ∧ Below w.heap.size w w' := by
  obtain ⟨r, hr⟩ : ∃ r, m.right = r := ⟨_, rfl⟩
  rw [hr]
  have HR := Lib.hid hr
  clear hr
  obtain ⟨a1, a2, a3, a4, a5, a6, a7, a8, a9, a10, a11, a12, a13, a14, a15, a16⟩ := m
  go_enter Tryd.func78, Tryd.ntmps78
  go_wp2
  all_goals
    go_ret
    refine ⟨ret_bool ?_, (Below.refl _ _).alloc (Nat.le_refl _) _⟩
    rw [← HR.out]
    unfold Msg.right
    first
      | exact decide_eq_false (by omega)
      | exact (decide_eq_false (by omega)).symm
      | (rw [Bool.eq_iff_iff]; simp; omega)
theorem mright_lit (y1 y2 y3 : Int) (y4 : Bool) (y5 y6 y7 y8 : Int) (y9 : List UInt8) (y10 y11 : Int) (y12 : List UInt8) (y13 y14 y15 y16 : Int) (A1 A2 : Option Addr) (c1 c2 : Nat) (w : World) :
    Calls Tryd.prog 110 #[.agg #[.int .i64 y1, .int .i64 y2, .int .i64 y3, .bool y4, .int .i64 y5, .int .i64 y6, .int .i64 y7, .int .i64 y8, .slice A1 y9.length c1, .int .i64 y10, .int .i64 y11, .slice A2 y12.length c2, .int .i64 y13, .int .i64 y14, .int .i64 y15, .int .i64 y16]] w fun e w' => e = .returned (.bool (Msg.right ⟨y1, y2, y3, y4, y5, y6, y7, y8, y9, y10, y11, y12, y13, y14, y15, y16⟩)) ∧ Below w.heap.size w w' :=
  mright_any ⟨y1, y2, y3, y4, y5, y6, y7, y8, y9, y10, y11, y12, y13, y14, y15, y16⟩ A1 A2 c1 c2 w
theorem rmright_lit (y1 y2 y3 : Int) (y4 : Bool) (y5 y6 y7 y8 : Int) (y9 : List UInt8) (y10 y11 : Int) (y12 : List UInt8) (y13 y14 y15 y16 : Int) (A1 A2 : Option Addr) (c1 c2 : Nat) (w : World) :
    Calls Tryd.prog 78 #[.agg #[.int .i64 y1, .int .i64 y2, .int .i64 y3, .bool y4, .int .i64 y5, .int .i64 y6, .int .i64 y7, .int .i64 y8, .slice A1 y9.length c1, .int .i64 y10, .int .i64 y11, .slice A2 y12.length c2, .int .i64 y13, .int .i64 y14, .int .i64 y15, .int .i64 y16]] w fun e w' => e = .returned (.bool (Msg.right ⟨y1, y2, y3, y4, y5, y6, y7, y8, y9, y10, y11, y12, y13, y14, y15, y16⟩)) ∧ Below w.heap.size w w' :=
  rmright_any ⟨y1, y2, y3, y4, y5, y6, y7, y8, y9, y10, y11, y12, y13, y14, y15, y16⟩ A1 A2 c1 c2 w
end Go.Proofs.YtiglgepbffcdeaaDoor
