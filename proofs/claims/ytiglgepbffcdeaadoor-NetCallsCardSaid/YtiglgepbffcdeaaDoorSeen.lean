/- A map[int]bool of one's own, read as a set: what is in it. -/
import Derived.Test.YtiglgepbffcdeaaDoorInts
namespace Go.Proofs.YtiglgepbffcdeaaDoor
open Go.RowKit
set_option linter.unusedVariables false

theorem zero_bool (w : World) : (zeroValue 4).run Tryd.prog w = .ok (.bool false) w := by kernel_rfl
/-- The map in block b holds true at the numbers of S, and nothing else. -/
structure Seen (W : World) (b : Nat) (S : List Int) : Prop where
  own : ∃ (n : Nat) (D : DataW Unit), n ≤ S.length ∧ W.ownsMap Tryd.prog 3 (plainElem Tryd.prog 4) b n D ∧ Maps.IsMap D ∧
    (∀ s, D.atKey (.int .i64 s) (.lit (.bool false)) = .lit (.bool (decide (s ∈ S))))
theorem Seen.lt {W : World} {b : Nat} {S : List Int} (h : Seen W b S) : b < W.heap.size := by
  obtain ⟨n, D, -, ho, -⟩ := h.own
  exact ho.lt
theorem Seen.obj {W : World} {b : Nat} {S : List Int} (h : Seen W b S) : ∃ es c, W.heap[b]? = some (.map es c) := by
  obtain ⟨n, D, -, ho, -⟩ := h.own
  exact map_obj ho
theorem Seen.kept {W W' : World} {b : Nat} {S : List Int} {row : Option Nat} (h : Seen W b S) (hg : W.grownBy W' row) (hne : some b ≠ row) : Seen W' b S := by
  obtain ⟨n, D, hn, ho, hi, ha⟩ := h.own
  exact ⟨n, D, hn, ho.kept hg hne, hi, ha⟩
theorem Seen.below {W W' : World} {b B : Nat} {S : List Int} (h : Seen W b S) (hb : Below B W W') (hB : b < B) : Seen W' b S := by
  obtain ⟨n, D, hn, ⟨es, clock, hbb, F, hs, hD⟩, hi, ha⟩ := h.own
  exact ⟨n, D, hn, ⟨es, clock, (hb.block b hB).trans hbb, F, hs, hD⟩, hi, ha⟩
theorem Seen.new (W : World) : Seen (W.alloc (.map #[] 0)) W.heap.size [] := by
  have m0 := World.ownsMap_made (H := Unit) W Tryd.prog 3 (plainElem Tryd.prog 4)
  exact ⟨0, .map [], Nat.le_refl _, m0, m0.isMap, fun s => rfl⟩
set_option maxRecDepth 100000 in
theorem Seen.look {W : World} {b : Nat} {S : List Int} (h : Seen W b S) (s : Int) (hw : (Lit.int .i64 s).wf = true) :
    (Instr.lookup 36 (.map (some b)) (.int .i64 s) false).run Tryd.prog W = .ok (.bool (decide (s ∈ S))) W := by
  obtain ⟨n, D, hn, ho, hi, ha⟩ := h.own
  obtain ⟨v, ps, hrun, hv⟩ := ho.lookup (Maps.int_keyed Tryd.underlying3) Tryd.underlying36 (zero_bool W) (plainElem_bool Tryd.underlying4 false) (Maps.keyOf_int_mk Tryd.underlying3 hw)
  rw [ha s] at hv
  have hvb : v = .bool (decide (s ∈ S)) := by
    unfold plainElem at hv
    rw [Tryd.underlying4] at hv
    cases v <;> simp at hv
    · obtain ⟨h1, -⟩ := hv
      rw [h1]
  rw [hvb] at hrun
  exact hrun
set_option maxRecDepth 100000 in
theorem Seen.put {W : World} {b : Nat} {S : List Int} (h : Seen W b S) (s : Int) (hw : (Lit.int .i64 s).wf = true) (hl : S.length < 1000) :
    ∃ W', (Instr.mapUpdate 36 (.map (some b)) (.int .i64 s) (.bool true)).run Tryd.prog W = .ok () W' ∧ Seen W' b (S ++ [s]) ∧ W.grownBy W' (some b) := by
  obtain ⟨n, D, hn, ho, hi, ha⟩ := h.own
  obtain ⟨W', hrun, h1, h2⟩ := ho.update (Maps.int_keyed Tryd.underlying3) Tryd.underlying36 (show n < maxLen by unfold maxLen; omega) (Maps.keyOf_int_mk Tryd.underlying3 hw) (plainElem_bool Tryd.underlying4 true)
  refine ⟨W', hrun, ⟨n + 1, _, by simp; omega, h1, h1.isMap, fun t => ?_⟩, h2⟩
  by_cases e : t = s
  · subst e
    rw [Maps.atKey_put_same hi (by trivial)]
    simp
  · have hne : (Lit.int .i64 t) ≠ (.int .i64 s) := fun e' => by injection e' with _ e'; exact e e'
    rw [Maps.atKey_put_other hne, ha t]
    simp [e]
end Go.Proofs.YtiglgepbffcdeaaDoor
