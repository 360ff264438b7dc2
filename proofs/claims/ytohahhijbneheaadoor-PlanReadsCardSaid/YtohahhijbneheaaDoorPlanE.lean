/- slices.DeleteFunc at numbers of one's own, by any function that only tells. -/
import Derived.Test.YtohahhijbneheaaDoorPlanD
import Derived.Test.YtohahhijbneheaaDoorInts
import Derived.Lib.SliceRun
namespace Go.Proofs.YtohahhijbneheaaDoor
open Go.RowKit
set_option linter.unusedVariables false

theorem grownBy_drewN (w : World) (q : Nat) (row : Option Nat) : w.grownBy (w.drewN q) row := by
  have h := bdrewN_refl w.heap.size w q
  exact ⟨h.os, h.tape, h.output, h.size, fun k hk _ => h.block k hk⟩
theorem owns_cells {base g n c : Nat} {e : TypeId} : ∀ (vs : List Value) (o : Nat) (w : World) (xs : List Value), w.ownsRow base e 1 (.slice (some ⟨g, 0, none⟩) n c) n xs →
    (∃ ys, (w.setCells g o vs).ownsRow base e 1 (.slice (some ⟨g, 0, none⟩) n c) n ys ∧ ys.take o = xs.take o) ∧ w.grownBy (w.setCells g o vs) (some g)
  | [], o, w, xs, h => ⟨⟨xs, h, rfl⟩, ⟨rfl, rfl, rfl, Nat.le_refl _, fun _ _ _ => rfl⟩⟩
  | v :: vs, o, w, xs, h => by
    obtain ⟨⟨ys, h1, h2⟩, h3⟩ := owns_cells vs (o + 1) _ _ (owns_setx (i := o) h v)
    have hg : w.grownBy (w.setCell ⟨g, o, none⟩ v) (some g) := ⟨rfl, rfl, rfl, (by simp [World.setCell]), fun k _ hk => Below.heap_setCell _ _ _ k (fun e => hk (by rw [e]))⟩
    refine ⟨⟨ys, h1, ?_⟩, hg.trans h3⟩
    have := congrArg (List.take o) h2
    rw [List.take_take, List.take_take, Nat.min_eq_left (Nat.le_succ o), List.take_set_of_le (Nat.le_refl o)] at this
    exact this
theorem owns_cutI {w : World} {base g n m c : Nat} {e : TypeId} {xs : List Value} (h : w.ownsRow base e 1 (.slice (some ⟨g, 0, none⟩) n c) n xs) (hm : m ≤ n) : w.ownsRow base e 1 (.slice (some ⟨g, 0, none⟩) m c) m (xs.take m) := by
  refine ⟨by rw [List.length_take, h.1]; omega, ?_⟩
  rcases h.2 with ⟨h0, _⟩ | ⟨g', cap', cur, e1, hb, hh, hn, hc, hs, ht⟩
  · cases h0
  · injection e1 with e1 e2 e3
    injection e1 with e1
    injection e1 with e1
    subst e1; subst e3
    refine .inr ⟨g, c, cur, rfl, hb, hh, by omega, hc, hs, ?_⟩
    rw [← ht, List.take_take]
    congr 1
    omega

def keepI (p : Int → Bool) (l : List Int) : List Int := l.filter (fun x => !p x)
theorem keepI_all {p : Int → Bool} {l : List Int} (h : ∀ x ∈ l, p x = false) : keepI p l = l := List.filter_eq_self.2 (fun x hx => by rw [h x hx]; rfl)
theorem keepI_snoc (p : Int → Bool) (l : List Int) (x : Int) : keepI p (l ++ [x]) = keepI p l ++ (if p x = true then [] else [x]) := by
  unfold keepI
  rw [List.filter_append]
  congr 1
  cases hx : p x <;> simp [hx]
theorem iv_set (l : List Int) (i : Nat) (x : Int) : iv (l.set i x) = (iv l).set i (.int .i64 x) := by unfold iv; rw [List.map_set]

/-- What the loop holds. -/
structure DelS (base g c : Nat) (l : List Int) (p : Int → Bool) (w : World) (i j : Nat) (m : List Int) (W : World) : Prop where
  len : m.length = l.length
  ij : i < j
  kept : (keepI p (l.take j)).length = i
  head : m.take i = keepI p (l.take j)
  rest : m.drop j = l.drop j
  own : W.ownsRow base 3 1 (.slice (some ⟨g, 0, none⟩) l.length c) l.length (iv m)
  grow : w.grownBy W (some g)
section
variable {base g c : Nat} {l : List Int} {p : Int → Bool} {w : World} {i j : Nat} {m : List Int} {W : World}
theorem DelS.at (h : DelS base g c l p w i j m W) (hj : j < l.length) : W.cell? ⟨g, j, none⟩ = some (.int .i64 l[j]) := by
  have hm : m[j]? = some l[j] := by
    have := congrArg (fun x => x[0]?) h.rest
    simpa [hj] using this
  have hc := h.own.cells (g := g) rfl j (.int .i64 l[j]) (by simp [iv, hm])
  rw [show ((⟨g, 0, none⟩ : Addr).add j) = ⟨g, j, none⟩ by simp [Addr.add]; exact fun e => e.symm] at hc
  exact hc
theorem DelS.skip (h : DelS base g c l p w i j m W) (hj : j < l.length) (hp : p l[j] = true) {q : Nat} : DelS base g c l p w i (j + 1) m (W.drewN q) := by
  have e : keepI p (l.take (j + 1)) = keepI p (l.take j) := by rw [List.take_succ_eq_append_getElem hj, keepI_snoc, if_pos hp, List.append_nil]
  refine ⟨h.len, by have := h.ij; omega, by rw [e]; exact h.kept, by rw [e]; exact h.head, ?_, h.own.kept (grownBy_drewN W q none) (.inr (by simp [Value.ownBlock])), h.grow.trans (grownBy_drewN W q _)⟩
  have := congrArg (List.drop 1) h.rest
  rwa [List.drop_drop, List.drop_drop] at this
theorem DelS.keep (h : DelS base g c l p w i j m W) (hj : j < l.length) (hp : p l[j] = false) : DelS base g c l p w (i + 1) (j + 1) (m.set i l[j]) (W.setCell ⟨g, i, none⟩ (.int .i64 l[j])) := by
  have hij := h.ij
  have hil : i < m.length := by rw [h.len]; omega
  have e : keepI p (l.take (j + 1)) = keepI p (l.take j) ++ [l[j]] := by rw [List.take_succ_eq_append_getElem hj, keepI_snoc, if_neg (by rw [hp]; decide)]
  refine ⟨by rw [List.length_set]; exact h.len, by omega, by rw [e, List.length_append, h.kept]; rfl, ?_, ?_, by rw [iv_set]; exact owns_setx h.own _, h.grow.trans ⟨rfl, rfl, rfl, (by simp [World.setCell]), fun k _ hk => Below.heap_setCell _ _ _ k (fun e => hk (by rw [e]))⟩⟩
  · rw [e, List.take_succ_eq_append_getElem (by rw [List.length_set]; exact hil), List.getElem_set_self, List.take_set_of_le (Nat.le_refl i), h.head]
  · rw [List.drop_set_of_lt (by omega)]
    have := congrArg (List.drop 1) h.rest
    rwa [List.drop_drop, List.drop_drop] at this
end
end Go.Proofs.YtohahhijbneheaaDoor
