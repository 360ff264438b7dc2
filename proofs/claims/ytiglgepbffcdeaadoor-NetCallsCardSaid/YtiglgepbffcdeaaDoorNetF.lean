/- (*net.Net).Put: what is not taken. -/
import Derived.Test.YtiglgepbffcdeaaDoorNetP
namespace Go.Proofs.YtiglgepbffcdeaaDoor
open Go.RowKit
set_option linter.unusedVariables false

set_option maxRecDepth 100000 in
set_option maxHeartbeats 4000000 in
theorem net_put_full (a1 a2 a3 : Int) (a4 : Bool) (a5 a6 a7 a8 : Int) (a9 : List UInt8) (a10 a11 : Int) (a12 : List UInt8) (a13 a14 a15 a16 : Int) (A1 A2 : Option Addr) (c1 c2 B : Nat) {w : World} {n0 g : Nat} {v : Value} {ms : List Mm}
    (h : NetS w n0 g v ms) (hlen : ms.length = 4096) (hT : Tab w) (h1 : Sl w B A1 (bv a9)) (h2 : Sl w B A2 (bv a12)) (n1 : A1 = none → c1 = 0) (n2 : A2 = none → c2 = 0) (hB : B ≤ w.heap.size)
    (hr : (Msg.mk a1 a2 a3 a4 a5 a6 a7 a8 a9 a10 a11 a12 a13 a14 a15 a16).right = true) :
    Calls Tryd.prog 14 #[.pointer (some ⟨g, 0, none⟩), .agg (mcs a1 a2 a3 a4 a5 a6 a7 a8 (.slice A1 a9.length c1) a10 a11 (.slice A2 a12.length c2) a13 a14 a15 a16)] w fun e w' =>
      e = .returned (.int .i64 4) ∧ Below w.heap.size w w' := by
  obtain ⟨A0, c0, rfl⟩ := h.form
  have HENC := Lib.hid (fun (X : World) (hX : Below w.heap.size w X) => rpcenc_ok (Msg.mk a1 a2 a3 a4 a5 a6 a7 a8 a9 a10 a11 a12 a13 a14 a15 a16) A1 A2 c1 c2 B X (hT.below (Nat.lt_of_lt_of_le hT.1 (Nat.le_refl _)) hX) (h1.below (hX.mono hB)) (h2.below (hX.mono hB)) n1 n2 (Nat.le_trans hB hX.size) hr)
  have hcg := h.bk.cell 0
  rw [hlen] at hcg
  have hlg := h.lt
  clear h hr hlen h1 h2 n1 n2 hT
  go_enter Tryd.func14, Tryd.ntmps14
  go_wp2_with fail
  refine (HENC.out _ ((Below.refl _ _).alloc (Nat.le_refl _) _)).mono ?_
  rintro en W1 ⟨⟨AE, cE, rfl, -⟩, hb1⟩
  obtain ⟨le, hle⟩ : ∃ n, (wrapped (encMsg (Msg.mk a1 a2 a3 a4 a5 a6 a7 a8 a9 a10 a11 a12 a13 a14 a15 a16))).length = n := ⟨_, rfl⟩
  rw [hle]
  have B1 : Below w.heap.size w W1 := ((Below.refl _ _).alloc (Nat.le_refl _) _).trans (hb1.mono (by simp))
  have hcg1 := (B1.cell (p := ⟨g, 0, none⟩) hlg).trans hcg
  clear hle hb1
  go_wp2_with fail
  go_ret
  exact ⟨rfl, B1⟩

set_option maxRecDepth 100000 in
set_option maxHeartbeats 4000000 in
theorem net_put_bad (m : Msg) (A1 A2 : Option Addr) (c1 c2 : Nat) (w : World) (g : Nat) (hr : m.right = false) :
    Calls Tryd.prog 14 #[.pointer (some ⟨g, 0, none⟩), m.val A1 c1 A2 c2] w fun e w' => e = .returned (.int .i64 1) ∧ Below w.heap.size w w' := by
  have HENB := Lib.hid (fun (X : World) => rpcenc_bad m A1 A2 c1 c2 X hr)
  clear hr
  obtain ⟨a1, a2, a3, a4, a5, a6, a7, a8, a9, a10, a11, a12, a13, a14, a15, a16⟩ := m
  go_enter Tryd.func14, Tryd.ntmps14
  go_wp2_with fail
  refine (HENB.out _).mono ?_
  rintro en W1 ⟨rfl, hb1⟩
  go_wp2_with fail
  go_ret
  exact ⟨rfl, ((Below.refl _ _).alloc (Nat.le_refl _) _).trans (hb1.mono (by simp))⟩
end Go.Proofs.YtiglgepbffcdeaaDoor
