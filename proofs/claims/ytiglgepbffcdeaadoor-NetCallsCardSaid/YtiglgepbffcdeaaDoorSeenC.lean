/- A map[int]bool of one's own, read as a set that is counted. -/
import Derived.Test.YtiglgepbffcdeaaDoorSeen
namespace Go.Proofs.YtiglgepbffcdeaaDoor
open Go.RowKit
set_option linter.unusedVariables false

/-- .. and it has as many entries as S has. -/
def SeenC (W : World) (b : Nat) (S : List Int) : Prop :=
  ∃ (n : Nat) (D : DataW Unit), n ≤ S.length ∧ W.ownsMap Tryd.prog 3 (plainElem Tryd.prog 4) b n D ∧ Maps.IsMap D ∧
    (∀ s, D.atKey (.int .i64 s) (.lit (.bool false)) = .lit (.bool (decide (s ∈ S)))) ∧ (∀ s, Maps.has D (.int .i64 s) = decide (s ∈ S)) ∧ Maps.size D = S.length
theorem SeenC.seen {W : World} {b : Nat} {S : List Int} (h : SeenC W b S) : Seen W b S := by
  obtain ⟨n, D, hn, ho, hi, ha, -, -⟩ := h
  exact ⟨n, D, hn, ho, hi, ha⟩
theorem SeenC.new (W : World) : SeenC (W.alloc (.map #[] 0)) W.heap.size [] := by
  have m0 := World.ownsMap_made (H := Unit) W Tryd.prog 3 (plainElem Tryd.prog 4)
  exact ⟨0, .map [], Nat.le_refl _, m0, m0.isMap, fun s => rfl, fun s => rfl, rfl⟩
theorem SeenC.block {W W' : World} {b : Nat} {S : List Int} (h : SeenC W b S) (hb : W'.heap[b]? = W.heap[b]?) : SeenC W' b S := by
  obtain ⟨n, D, hn, ⟨es, clock, hbb, F, hs, hD⟩, hi, ha, hh, hz⟩ := h
  exact ⟨n, D, hn, ⟨es, clock, hb.trans hbb, F, hs, hD⟩, hi, ha, hh, hz⟩
theorem SeenC.below {W W' : World} {b B : Nat} {S : List Int} (h : SeenC W b S) (hb : Below B W W') (hB : b < B) : SeenC W' b S := h.block (hb.block b hB)
set_option maxRecDepth 100000 in
theorem SeenC.put {W : World} {b : Nat} {S : List Int} (h : SeenC W b S) (s : Int) (hw : (Lit.int .i64 s).wf = true) (hl : S.length < 1000) (hs : s ∉ S) :
    ∃ W', (Instr.mapUpdate 36 (.map (some b)) (.int .i64 s) (.bool true)).run Tryd.prog W = .ok () W' ∧ SeenC W' b (S ++ [s]) ∧ W.grownBy W' (some b) := by
  obtain ⟨n, D, hn, ho, hi, ha, hh, hz⟩ := h
  obtain ⟨W', hrun, h1, h2⟩ := ho.update (Maps.int_keyed Tryd.underlying3) Tryd.underlying36 (show n < maxLen by unfold maxLen; omega) (Maps.keyOf_int_mk Tryd.underlying3 hw) (plainElem_bool Tryd.underlying4 true)
  have ht := ho.tidy (Maps.int_keyed Tryd.underlying3)
  refine ⟨W', hrun, ⟨n + 1, _, by simp; omega, h1, h1.isMap, fun t => ?_, fun t => ?_, ?_⟩, h2⟩
  · by_cases e : t = s
    · subst e
      rw [Maps.atKey_put_same hi (by trivial)]
      simp
    · have hne : (Lit.int .i64 t) ≠ (.int .i64 s) := fun e' => by injection e' with _ e'; exact e e'
      rw [Maps.atKey_put_other hne, ha t]
      simp [e]
  · by_cases e : t = s
    · subst e
      rw [Maps.has_put_same hi (by trivial)]
      simp
    · have hne : (Lit.int .i64 t) ≠ (.int .i64 s) := fun e' => by injection e' with _ e'; exact e e'
      rw [Maps.has_put_other hne, hh t]
      simp [e]
  · rw [Maps.size_put ht, hh s, decide_eq_false hs, hz]
    simp
theorem SeenC.len {W : World} {b : Nat} {S : List Int} (h : SeenC W b S) (ty : TypeId) : (Builtin.len_ #[36] ty #[.map (some b)]).run Tryd.prog W = .ok (.int .i64 (S.length : Int)) W := by
  obtain ⟨n, D, hn, ho, hi, ha, hh, hz⟩ := h
  have h1 := ho.len Tryd.underlying36 ty
  rw [hz] at h1
  exact h1
end Go.Proofs.YtiglgepbffcdeaaDoor
