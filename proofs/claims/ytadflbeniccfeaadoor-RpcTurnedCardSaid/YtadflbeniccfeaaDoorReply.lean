/- rpc.Reply, rpc.Answers, and what tidelinelaw12 asks first. -/
import Derived.Test.YtadflbeniccfeaaDoorMsg
namespace Go.Proofs.YtadflbeniccfeaaDoor
open Go.RowKit
set_option linter.unusedVariables false

set_option maxRecDepth 100000 in
set_option maxHeartbeats 1000000 in
theorem answers_any (m n : Msg) (A1 A2 A3 A4 : Option Addr) (c1 c2 c3 c4 : Nat) (w : World) :
    Calls Tryd.prog 95 #[m.val A1 c1 A2 c2, n.val A3 c3 A4 c4] w fun e w' => e = .returned (.bool (m.ans n)) ∧ Below w.heap.size w w' := by
  obtain ⟨a1, a2, a3, a4, a5, a6, a7, a8, a9, a10, a11, a12, a13, a14, a15, a16⟩ := m
  obtain ⟨b1, b2, b3, b4, b5, b6, b7, b8, b9, b10, b11, b12, b13, b14, b15, b16⟩ := n
  unfold Msg.ans
  dsimp only
  go_enter Tryd.func95, Tryd.ntmps95
  go_wp2
  all_goals
    go_ret
    refine ⟨ret_bool ?_, ?_⟩
    · simp [*] <;> simp_all
    · repeat (first | exact Below.refl _ _ | (refine Below.setCell ?_ (by simp; try omega) _) | (refine Below.alloc ?_ (by simp; try omega) _))

theorem answers_true (a1 a2 a3 a5 a6 a7 a8 a10 a11 a13 a14 a15 a16 : Int) (a4 : Bool) (b1 b2 b3 b5 b6 b7 b8 b10 b11 b13 b14 b15 b16 : Int) (b4 : Bool) (w : World) (h : Msg.ans ⟨a1, a2, a3, a4, a5, a6, a7, a8, [], a10, a11, [], a13, a14, a15, a16⟩ ⟨b1, b2, b3, b4, b5, b6, b7, b8, [], b10, b11, [], b13, b14, b15, b16⟩ = true) :
    Calls Tryd.prog 95 #[.agg #[.int .i64 a1, .int .i64 a2, .int .i64 a3, .bool a4, .int .i64 a5, .int .i64 a6, .int .i64 a7, .int .i64 a8, .slice none 0 0, .int .i64 a10, .int .i64 a11, .slice none 0 0, .int .i64 a13, .int .i64 a14, .int .i64 a15, .int .i64 a16], .agg #[.int .i64 b1, .int .i64 b2, .int .i64 b3, .bool b4, .int .i64 b5, .int .i64 b6, .int .i64 b7, .int .i64 b8, .slice none 0 0, .int .i64 b10, .int .i64 b11, .slice none 0 0, .int .i64 b13, .int .i64 b14, .int .i64 b15, .int .i64 b16]] w fun e w' => e = .returned (.bool true) ∧ Below w.heap.size w w' := by
  rw [← h]; exact answers_any ⟨a1, a2, a3, a4, a5, a6, a7, a8, [], a10, a11, [], a13, a14, a15, a16⟩ ⟨b1, b2, b3, b4, b5, b6, b7, b8, [], b10, b11, [], b13, b14, b15, b16⟩ none none none none 0 0 0 0 w
theorem answers_false (a1 a2 a3 a5 a6 a7 a8 a10 a11 a13 a14 a15 a16 : Int) (a4 : Bool) (b1 b2 b3 b5 b6 b7 b8 b10 b11 b13 b14 b15 b16 : Int) (b4 : Bool) (w : World) (h : Msg.ans ⟨a1, a2, a3, a4, a5, a6, a7, a8, [], a10, a11, [], a13, a14, a15, a16⟩ ⟨b1, b2, b3, b4, b5, b6, b7, b8, [], b10, b11, [], b13, b14, b15, b16⟩ = false) :
    Calls Tryd.prog 95 #[.agg #[.int .i64 a1, .int .i64 a2, .int .i64 a3, .bool a4, .int .i64 a5, .int .i64 a6, .int .i64 a7, .int .i64 a8, .slice none 0 0, .int .i64 a10, .int .i64 a11, .slice none 0 0, .int .i64 a13, .int .i64 a14, .int .i64 a15, .int .i64 a16], .agg #[.int .i64 b1, .int .i64 b2, .int .i64 b3, .bool b4, .int .i64 b5, .int .i64 b6, .int .i64 b7, .int .i64 b8, .slice none 0 0, .int .i64 b10, .int .i64 b11, .slice none 0 0, .int .i64 b13, .int .i64 b14, .int .i64 b15, .int .i64 b16]] w fun e w' => e = .returned (.bool false) ∧ Below w.heap.size w w' := by
  rw [← h]; exact answers_any ⟨a1, a2, a3, a4, a5, a6, a7, a8, [], a10, a11, [], a13, a14, a15, a16⟩ ⟨b1, b2, b3, b4, b5, b6, b7, b8, [], b10, b11, [], b13, b14, b15, b16⟩ none none none none 0 0 0 0 w

set_option maxRecDepth 100000 in
set_option maxHeartbeats 1000000 in
theorem reply_any (m : Msg) (A1 A2 : Option Addr) (c1 c2 : Nat) (e0 : Int) (w : World) :
    Calls Tryd.prog 96 #[m.val A1 c1 A2 c2, .int .i64 e0] w fun e w' => e = .returned (.agg #[.int .i64 m.to, .int .i64 m.fr, .int .i64 m.nu, .bool true, .int .i64 m.ki, .int .i64 m.ep, .int .i64 m.att, .int .i64 0, .slice none 0 0, .int .i64 0, .int .i64 0, .slice none 0 0, .int .i64 e0, .int .i64 0, .int .i64 0, .int .i64 0]) ∧ Below w.heap.size w w' := by
  obtain ⟨a1, a2, a3, a4, a5, a6, a7, a8, a9, a10, a11, a12, a13, a14, a15, a16⟩ := m
  dsimp only
  go_enter Tryd.func96, Tryd.ntmps96
  go_wp2
  refine bodyPost_ret (v := .agg #[.int .i64 a2, .int .i64 a1, .int .i64 a3, .bool true, .int .i64 a5, .int .i64 a6, .int .i64 a7, .int .i64 0, .slice none 0 0, .int .i64 0, .int .i64 0, .slice none 0 0, .int .i64 e0, .int .i64 0, .int .i64 0, .int .i64 0])
    (results_cell_row (p := 4) (ty := 68) Tryd.results96 _ _ (w.heap.size + 1) 68 _ (0, 0) _ rfl (heap_alloc2_new w _ _) Tryd.underlying68 rfl (by kernel_rfl)) rfl ⟨rfl, ?_⟩
  repeat (first | exact Below.refl _ _ | (refine Below.setCell ?_ (by simp; try omega) _) | (refine Below.alloc ?_ (by simp; try omega) _))

theorem reply_f (a1 a2 a3 a5 a6 a7 a8 a10 a11 a13 a14 a15 a16 : Int) (a4 : Bool) (e0 : Int) (w : World) :
    Calls Tryd.prog 96 #[.agg #[.int .i64 a1, .int .i64 a2, .int .i64 a3, .bool a4, .int .i64 a5, .int .i64 a6, .int .i64 a7, .int .i64 a8, .slice none 0 0, .int .i64 a10, .int .i64 a11, .slice none 0 0, .int .i64 a13, .int .i64 a14, .int .i64 a15, .int .i64 a16], .int .i64 e0] w fun e w' => e = .returned (.agg #[.int .i64 a2, .int .i64 a1, .int .i64 a3, .bool true, .int .i64 a5, .int .i64 a6, .int .i64 a7, .int .i64 0, .slice none 0 0, .int .i64 0, .int .i64 0, .slice none 0 0, .int .i64 e0, .int .i64 0, .int .i64 0, .int .i64 0]) ∧ Below w.heap.size w w' :=
  reply_any ⟨a1, a2, a3, a4, a5, a6, a7, a8, [], a10, a11, [], a13, a14, a15, a16⟩ none none 0 0 e0 w

theorem field_msg1 (x0 x1 x2 x3 x4 x5 x6 x7 x8 x9 x10 x11 x12 x13 x14 x15 : Value) (w : World) : (Instr.field 68 (.agg #[x0, x1, x2, x3, x4, x5, x6, x7, x8, x9, x10, x11, x12, x13, x14, x15]) 1).run Tryd.prog w = .ok x1 w := by kernel_rfl

/-- The message of the document's example. -/
abbrev m12 : Msg := { fr := 1, to := 2, nu := 3, re := false, ki := 2, ep := 0, att := 0, wh := 0, cd := [], br := 0, bw := 0, va := [], er := 0, ta := 0, lo := 0, ba := 0 }

/-- Its cells. -/
abbrev m12cells : Array Value := #[.int .i64 1, .int .i64 2, .int .i64 3, .bool false, .int .i64 2, .int .i64 0, .int .i64 0, .int .i64 0, .slice none 0 0, .int .i64 0, .int .i64 0, .slice none 0 0, .int .i64 0, .int .i64 0, .int .i64 0, .int .i64 0]

set_option maxRecDepth 100000 in
set_option maxHeartbeats 1000000 in
theorem speaks12_any (w : World) :
    Calls Tryd.prog 36 #[] w fun e w' => e = .returned (.bool true) ∧ Below w.heap.size w w' := by
  have hfield := field_msg1
  go_enter Tryd.func36, Tryd.ntmps36
  go_wp2_with fail
  refine wp_region_over (by kernel_rfl) (by kernel_rfl) ?_
  repeat (go_big_quiet_step (first
      | (go_at_call 96; exact over_call (reply_f _ _ _ _ _ _ _ _ _ _ _ _ _ _ _ _))
      | (go_at_call 95; exact over_call (answers_true _ _ _ _ _ _ _ _ _ _ _ _ _ _ _ _ _ _ _ _ _ _ _ _ _ _ _ _ _ rfl))
      | (go_at_call 95; exact over_call (answers_false _ _ _ _ _ _ _ _ _ _ _ _ _ _ _ _ _ _ _ _ _ _ _ _ _ _ _ _ _ rfl))))
  refine wpQuiet_nil ?_
  rintro _ ⟨u, rfl⟩
  go_wp2
  go_ret
  exact ⟨rfl, ((Below.refl _ _).alloc (Nat.le_refl _) _).trans ((over_below _ _).mono (by simp))⟩
end Go.Proofs.YtadflbeniccfeaaDoor
