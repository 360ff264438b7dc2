/- A message in memory: sixteen cells loaded, stored, at one step (the walk's own way by simp costs the kernel twenty seconds each). -/
import Derived.Test.YtiglgepbffcdeaaDoorBase
namespace Go.Proofs.YtiglgepbffcdeaaDoor
open Go.RowKit
set_option linter.unusedVariables false
set_option maxRecDepth 100000

theorem range16 (f : Nat → Value) : ((List.range 16).map f).toArray = #[f 0, f 1, f 2, f 3, f 4, f 5, f 6, f 7, f 8, f 9, f 10, f 11, f 12, f 13, f 14, f 15] := rfl

theorem run_load_msg (b o : Nat) (W : World) (h : ∀ j, j < 16 → (W.cell? ⟨b, o + j, none⟩).isSome = true) :
    (loadVar 34 ⟨b, o, none⟩).run Tryd.prog W = .ok (.agg #[(W.cell? ⟨b, o, none⟩).getD undef, (W.cell? ⟨b, o + 1, none⟩).getD undef, (W.cell? ⟨b, o + 2, none⟩).getD undef, (W.cell? ⟨b, o + 3, none⟩).getD undef,
      (W.cell? ⟨b, o + 4, none⟩).getD undef, (W.cell? ⟨b, o + 5, none⟩).getD undef, (W.cell? ⟨b, o + 6, none⟩).getD undef, (W.cell? ⟨b, o + 7, none⟩).getD undef,
      (W.cell? ⟨b, o + 8, none⟩).getD undef, (W.cell? ⟨b, o + 9, none⟩).getD undef, (W.cell? ⟨b, o + 10, none⟩).getD undef, (W.cell? ⟨b, o + 11, none⟩).getD undef,
      (W.cell? ⟨b, o + 12, none⟩).getD undef, (W.cell? ⟨b, o + 13, none⟩).getD undef, (W.cell? ⟨b, o + 14, none⟩).getD undef, (W.cell? ⟨b, o + 15, none⟩).getD undef]) W := by
  have hl := run_loadCells (P := Tryd.prog) W ⟨b, o, none⟩ 16 (fun j => (W.cell? ⟨b, o + j, none⟩).getD undef) (fun j hj => by
    have hadd : (⟨b, o, none⟩ : Addr).add j = ⟨b, o + j, none⟩ := by unfold Addr.add; split <;> simp_all
    rw [hadd]
    have := h j hj
    cases hc : W.cell? ⟨b, o + j, none⟩ with
    | none => rw [hc] at this; cases this
    | some v => simp)
  have e1 : (isAgg 34).run Tryd.prog W = .ok true W := by simp [go_sem]
  have e2 : (sizeOf 34).run Tryd.prog W = .ok 16 W := by simp [go_sem]
  rw [range16] at hl
  unfold loadVar
  simp only [Sem.run_bind, e1, e2, Result.andThen_ok, hl, Sem.run_pure, if_true]
  rfl

theorem run_load_msg0 (b : Nat) (W : World) (h0 : (W.cell? ⟨b, 0, none⟩).isSome = true) (h1 : (W.cell? ⟨b, 1, none⟩).isSome = true) (h2 : (W.cell? ⟨b, 2, none⟩).isSome = true) (h3 : (W.cell? ⟨b, 3, none⟩).isSome = true) (h4 : (W.cell? ⟨b, 4, none⟩).isSome = true) (h5 : (W.cell? ⟨b, 5, none⟩).isSome = true) (h6 : (W.cell? ⟨b, 6, none⟩).isSome = true) (h7 : (W.cell? ⟨b, 7, none⟩).isSome = true) (h8 : (W.cell? ⟨b, 8, none⟩).isSome = true) (h9 : (W.cell? ⟨b, 9, none⟩).isSome = true) (h10 : (W.cell? ⟨b, 10, none⟩).isSome = true) (h11 : (W.cell? ⟨b, 11, none⟩).isSome = true) (h12 : (W.cell? ⟨b, 12, none⟩).isSome = true) (h13 : (W.cell? ⟨b, 13, none⟩).isSome = true) (h14 : (W.cell? ⟨b, 14, none⟩).isSome = true) (h15 : (W.cell? ⟨b, 15, none⟩).isSome = true) :
    (loadVar 34 ⟨b, 0, none⟩).run Tryd.prog W = .ok (.agg #[(W.cell? ⟨b, 0, none⟩).getD undef, (W.cell? ⟨b, 1, none⟩).getD undef, (W.cell? ⟨b, 2, none⟩).getD undef, (W.cell? ⟨b, 3, none⟩).getD undef, (W.cell? ⟨b, 4, none⟩).getD undef, (W.cell? ⟨b, 5, none⟩).getD undef, (W.cell? ⟨b, 6, none⟩).getD undef, (W.cell? ⟨b, 7, none⟩).getD undef, (W.cell? ⟨b, 8, none⟩).getD undef, (W.cell? ⟨b, 9, none⟩).getD undef, (W.cell? ⟨b, 10, none⟩).getD undef, (W.cell? ⟨b, 11, none⟩).getD undef, (W.cell? ⟨b, 12, none⟩).getD undef, (W.cell? ⟨b, 13, none⟩).getD undef, (W.cell? ⟨b, 14, none⟩).getD undef, (W.cell? ⟨b, 15, none⟩).getD undef]) W := by
  have := run_load_msg b 0 W (fun j hj => by
    rw [Nat.zero_add]
    match j, hj with
    | 0, _ => exact h0 | 1, _ => exact h1 | 2, _ => exact h2 | 3, _ => exact h3 | 4, _ => exact h4 | 5, _ => exact h5 | 6, _ => exact h6 | 7, _ => exact h7 | 8, _ => exact h8 | 9, _ => exact h9 | 10, _ => exact h10 | 11, _ => exact h11 | 12, _ => exact h12 | 13, _ => exact h13 | 14, _ => exact h14 | 15, _ => exact h15
    | _ + 16, hj => exact absurd hj (by omega))
  simpa only [Nat.zero_add] using this
theorem ldR_msg0 (b : Nat) (W : World) (h0 : (W.cell? ⟨b, 0, none⟩).isSome = true) (h1 : (W.cell? ⟨b, 1, none⟩).isSome = true) (h2 : (W.cell? ⟨b, 2, none⟩).isSome = true) (h3 : (W.cell? ⟨b, 3, none⟩).isSome = true) (h4 : (W.cell? ⟨b, 4, none⟩).isSome = true) (h5 : (W.cell? ⟨b, 5, none⟩).isSome = true) (h6 : (W.cell? ⟨b, 6, none⟩).isSome = true) (h7 : (W.cell? ⟨b, 7, none⟩).isSome = true) (h8 : (W.cell? ⟨b, 8, none⟩).isSome = true) (h9 : (W.cell? ⟨b, 9, none⟩).isSome = true) (h10 : (W.cell? ⟨b, 10, none⟩).isSome = true) (h11 : (W.cell? ⟨b, 11, none⟩).isSome = true) (h12 : (W.cell? ⟨b, 12, none⟩).isSome = true) (h13 : (W.cell? ⟨b, 13, none⟩).isSome = true) (h14 : (W.cell? ⟨b, 14, none⟩).isSome = true) (h15 : (W.cell? ⟨b, 15, none⟩).isSome = true) :
    ldR Tryd.prog 34 (.pointer (some ⟨b, 0, none⟩)) W = .ok (.value (.agg #[(W.cell? ⟨b, 0, none⟩).getD undef, (W.cell? ⟨b, 1, none⟩).getD undef, (W.cell? ⟨b, 2, none⟩).getD undef, (W.cell? ⟨b, 3, none⟩).getD undef, (W.cell? ⟨b, 4, none⟩).getD undef, (W.cell? ⟨b, 5, none⟩).getD undef, (W.cell? ⟨b, 6, none⟩).getD undef, (W.cell? ⟨b, 7, none⟩).getD undef, (W.cell? ⟨b, 8, none⟩).getD undef, (W.cell? ⟨b, 9, none⟩).getD undef, (W.cell? ⟨b, 10, none⟩).getD undef, (W.cell? ⟨b, 11, none⟩).getD undef, (W.cell? ⟨b, 12, none⟩).getD undef, (W.cell? ⟨b, 13, none⟩).getD undef, (W.cell? ⟨b, 14, none⟩).getD undef, (W.cell? ⟨b, 15, none⟩).getD undef])) W := by
  have h := run_load_msg0 b W h0 h1 h2 h3 h4 h5 h6 h7 h8 h9 h10 h11 h12 h13 h14 h15
  simp only [ldR, Instr.loadAt, Instr.sureAddr, Sem.run_bind, Sem.run_pure, Result.andThen_ok, h]




theorem run_store_msg (b : Nat) (X : World) (x0 x1 x2 x3 x4 x5 x6 x7 x8 x9 x10 x11 x12 x13 x14 x15 y0 y1 y2 y3 y4 y5 y6 y7 y8 y9 y10 y11 y12 y13 y14 y15 : Value) (hb : b = X.heap.size) (h : (oneB y0 && oneB y1 && oneB y2 && oneB y3 && oneB y4 && oneB y5 && oneB y6 && oneB y7 && oneB y8 && oneB y9 && oneB y10 && oneB y11 && oneB y12 && oneB y13 && oneB y14 && oneB y15) = true) :
    (storeVar 34 ⟨b, 0, none⟩ (.agg #[y0, y1, y2, y3, y4, y5, y6, y7, y8, y9, y10, y11, y12, y13, y14, y15])).run Tryd.prog (X.alloc (.cells #[x0, x1, x2, x3, x4, x5, x6, x7, x8, x9, x10, x11, x12, x13, x14, x15] 34)) = .ok () (X.alloc (.cells #[y0, y1, y2, y3, y4, y5, y6, y7, y8, y9, y10, y11, y12, y13, y14, y15] 34)) := by
  subst hb
  refine run_store_whole 34 X _ _ rfl (by simp [go_sem]) ?_
  intro v hv
  simp only [List.mem_cons, List.not_mem_nil, or_false] at hv
  simp only [Bool.and_eq_true, and_assoc] at h
  obtain ⟨h0, h1, h2, h3, h4, h5, h6, h7, h8, h9, h10, h11, h12, h13, h14, h15⟩ := h
  rw [oneB_eq]
  rcases hv with rfl | rfl | rfl | rfl | rfl | rfl | rfl | rfl | rfl | rfl | rfl | rfl | rfl | rfl | rfl | rfl <;> assumption
theorem stR_msg0 (b : Nat) (X : World) (x0 x1 x2 x3 x4 x5 x6 x7 x8 x9 x10 x11 x12 x13 x14 x15 y0 y1 y2 y3 y4 y5 y6 y7 y8 y9 y10 y11 y12 y13 y14 y15 : Value) (hb : b = X.heap.size) (h : (oneB y0 && oneB y1 && oneB y2 && oneB y3 && oneB y4 && oneB y5 && oneB y6 && oneB y7 && oneB y8 && oneB y9 && oneB y10 && oneB y11 && oneB y12 && oneB y13 && oneB y14 && oneB y15) = true) :
    stR Tryd.prog 34 (.pointer (some ⟨b, 0, none⟩)) (.agg #[y0, y1, y2, y3, y4, y5, y6, y7, y8, y9, y10, y11, y12, y13, y14, y15]) (X.alloc (.cells #[x0, x1, x2, x3, x4, x5, x6, x7, x8, x9, x10, x11, x12, x13, x14, x15] 34)) = .ok .skip (X.alloc (.cells #[y0, y1, y2, y3, y4, y5, y6, y7, y8, y9, y10, y11, y12, y13, y14, y15] 34)) := by
  have k := run_store_msg b X x0 x1 x2 x3 x4 x5 x6 x7 x8 x9 x10 x11 x12 x13 x14 x15 y0 y1 y2 y3 y4 y5 y6 y7 y8 y9 y10 y11 y12 y13 y14 y15 hb h
  simp only [stR, Instr.storeAt, Instr.sureAddr, Sem.run_bind, Sem.run_pure, Result.andThen_ok, k]
theorem exec_load_msg (ev : Operand → Value) (d : Option Tmp) (t : TypeId) (x : Operand) (p : String) (af : Array Edge) (g : Option (Nat × Bool)) (w : World) :
    (execOp ev ⟨d, .load 34 x, t, p, af, g⟩).run Tryd.prog w = ldR Tryd.prog 34 (ev x) w := exec_load ev d _ t x p af g w
theorem exec_store_msg (ev : Operand → Value) (d : Option Tmp) (t : TypeId) (x y : Operand) (p : String) (af : Array Edge) (g : Option (Nat × Bool)) (w : World) :
    (execOp ev ⟨d, .store 34 x y, t, p, af, g⟩).run Tryd.prog w = stR Tryd.prog 34 (ev x) (ev y) w := exec_store ev d _ t x y p af g w
attribute [go_sem ↓] exec_load_msg exec_store_msg
attribute [go_sem] ldR_msg0 stR_msg0
end Go.Proofs.YtiglgepbffcdeaaDoor
