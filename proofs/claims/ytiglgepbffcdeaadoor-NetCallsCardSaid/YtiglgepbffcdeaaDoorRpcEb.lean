/- rpc.Encode of a message that may not be. -/
import Derived.Test.YtiglgepbffcdeaaDoorRpcR
namespace Go.Proofs.YtiglgepbffcdeaaDoor
open Go.RowKit
set_option linter.unusedVariables false

set_option maxRecDepth 100000 in
set_option maxHeartbeats 2000000 in
theorem rpcenc_bad (m : Msg) (A1 A2 : Option Addr) (c1 c2 : Nat) (w : World) (hr : m.right = false) :
    Calls Tryd.prog 58 #[m.val A1 c1 A2 c2] w fun e w' => e = .returned (.tuple #[.slice none 0 0, .int .i64 1]) ∧ Below w.heap.size w w' := by
  have HR := Lib.hid hr
  clear hr
  obtain ⟨a1, a2, a3, a4, a5, a6, a7, a8, a9, a10, a11, a12, a13, a14, a15, a16⟩ := m
  go_enter Tryd.func58, Tryd.ntmps58
  go_wp2_with fail
  refine (mright_any ⟨a1, a2, a3, a4, a5, a6, a7, a8, a9, a10, a11, a12, a13, a14, a15, a16⟩ A1 A2 c1 c2 _).mono ?_
  rintro e w1 ⟨he, hb1⟩
  rw [HR.out] at he
  subst he
  go_wp2
  go_ret2
  exact ⟨rfl, ((Below.refl _ _).alloc (Nat.le_refl _) _).trans (hb1.mono (by simp))⟩

end Go.Proofs.YtiglgepbffcdeaaDoor
