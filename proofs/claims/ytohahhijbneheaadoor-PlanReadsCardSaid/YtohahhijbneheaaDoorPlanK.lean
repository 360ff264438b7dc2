/- law11 speaks. -/
import Derived.Test.YtohahhijbneheaaDoorPlanA
import Derived.Test.YtohahhijbneheaaDoorPlanS
namespace Go.Proofs.YtohahhijbneheaaDoor
open Go.RowKit
set_option linter.unusedVariables false

theorem five_two : firstP 5 2 = [[0, 2, 4], [1, 3]] := by decide +kernel

theorem Sl.newRow (W : World) (t : TypeId) (cs : List Value) : Sl (W.alloc (.cells cs.toArray t)) (W.heap.size + 1) (some ⟨W.heap.size, 0, none⟩) cs := by
  refine .inr ⟨W.heap.size, 0, rfl, Nat.lt_succ_self _, fun k v hv => ?_⟩
  rw [Nat.zero_add, (Blk.new W cs.toArray t).cell k]
  simpa using hv
set_option maxRecDepth 100000 in
set_option maxHeartbeats 4000000 in
theorem speaks11 (w : World) : Calls Tryd.prog 9 #[] w fun e w' => e = .returned (.bool true) ∧ Below w.heap.size w w' := by
  have hf := fun W : World => first_ok 5 2 (by decide) (by decide) (by decide) W
  rw [five_two] at hf
  have HF := Lib.hid hf
  clear hf
  go_enter Tryd.func9, Tryd.ntmps9
  go_wp2_with fail
  refine (HF.out _).mono ?_
  rintro en W1 ⟨⟨A, c, rs, rfl, hls, hm, -⟩, hb1⟩
  obtain ⟨r0, r1, rfl⟩ : ∃ a b, rs = [a, b] := by
    have hl := congrArg List.length hls
    clear hm
    match rs, hl with
    | [a, b], _ => exact ⟨a, b, rfl⟩
  obtain ⟨A0, c0, l0⟩ := r0
  obtain ⟨A1, c1, l1⟩ := r1
  have hls2 : [l0, l1] = [[0, 2, 4], [1, 3]] := hls
  injection hls2 with e0 hls2
  injection hls2 with e1 _
  subst e0; subst e1
  obtain ⟨b, o, rfl, hb, hx0⟩ := hm.sl.at (k := 0) (by simp)
  obtain ⟨b', o', e', hb', hx1⟩ := hm.sl.at (k := 1) (by simp)
  injection e' with e'
  injection e' with e1 e2
  subst e1; subst e2
  replace hx0 : W1.cell? ⟨b, o + 0, none⟩ = some (.slice A0 3 c0) := hx0
  rw [Nat.add_zero] at hx0
  replace hx1 : W1.cell? ⟨b, o + 1, none⟩ = some (.slice A1 2 c1) := hx1
  have hm0 := (hm.ok ⟨A0, c0, [0, 2, 4]⟩ (by simp)).1
  have hm1 := (hm.ok ⟨A1, c1, [1, 3]⟩ (by simp)).1
  have H0 := Lib.hid hm0
  have H1 := Lib.hid hm1
  clear hm0 hm1 hm hls HF
  go_wp2_with fail
  have hs1 := sints_any A0 (some ⟨W1.heap.size + 1, 0, none⟩) c0 3 [0, 2, 4] [0, 2, 4] (W1.heap.size + 1 + 1) ((W1.alloc (.cells #[.int .i64 0, .slice (some ⟨b, o, none⟩) 2 c] 24)).alloc (.cells #[.int .i64 0, .int .i64 2, .int .i64 4] 3))
    (((H0.out.alloc (Nat.le_refl _) _).alloc (by simp) _).more (by omega)) (by have h := Sl.newRow (W1.alloc (.cells #[.int .i64 0, .slice (some ⟨b, o, none⟩) 2 c] 24)) 3 (iv [0, 2, 4]); rw [World.size_alloc] at h; exact h) (by decide)
  rw [decide_eq_true rfl] at hs1
  refine hs1.mono ?_
  rintro en2 W2 ⟨rfl, q, rfl⟩
  have hw2 : ∀ q, Below w.heap.size w (((W1.alloc (.cells #[.int .i64 0, .slice (some ⟨b, o, none⟩) 2 c] 24)).alloc (.cells #[.int .i64 0, .int .i64 2, .int .i64 4] 3)).drewN q) := fun q =>
    bdrewN ((hb1.alloc hb1.size _).alloc (by have := hb1.size; simp; omega) _) q
  have HW2 := Lib.hid hw2
  clear hw2 hs1
  go_wp2_with fail
  have hx1w : Sl W1 W1.heap.size A1 (iv [1, 3]) := H1.out
  obtain ⟨W3, hW3⟩ : ∃ X, ((W1.alloc (.cells #[.int .i64 0, .slice (some ⟨b, o, none⟩) 2 c] 24)).alloc (.cells #[.int .i64 0, .int .i64 2, .int .i64 4] 3)).drewN q = X := ⟨_, rfl⟩
  have hb3 := HW2.out q
  have hs3 : W3.heap.size = W1.heap.size + 1 + 1 := by rw [← hW3]; simp
  have h13 : Below W1.heap.size W1 W3 := by rw [← hW3]; exact bdrewN (((Below.refl _ _).alloc (Nat.le_refl _) _).alloc (by simp) _) q
  rw [hW3] at hb3 ⊢
  rw [← hs3]
  have hs2 := sints_any A1 (some ⟨W3.heap.size, 0, none⟩) c1 2 [1, 3] [1, 3] (W3.heap.size + 1) (W3.alloc (.cells #[.int .i64 1, .int .i64 3] 3))
    (((hx1w.below h13).alloc (by omega) _).more (by omega)) (Sl.newRow W3 3 (iv [1, 3])) (by decide)
  rw [decide_eq_true rfl] at hs2
  refine hs2.mono ?_
  rintro en3 W4 ⟨rfl, q4, rfl⟩
  go_wp2_with fail
  go_ret
  exact ⟨rfl, bdrewN (hb3.alloc hb3.size _) _⟩
end Go.Proofs.YtohahhijbneheaaDoor
