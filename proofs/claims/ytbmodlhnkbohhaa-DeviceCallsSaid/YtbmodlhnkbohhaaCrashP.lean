/- What a crash makes of pages: plain lists. -/
import Derived.Test.YtbmodlhnkbohhaaDevApp
namespace Go.Proofs.Ytbmodlhnkbohhaa
open Go.RowKit
set_option linter.unusedVariables false

/-- The pick for the i-th page that doesn't last. -/
def pickAt (picks : List UInt8) (i : Nat) : Nat := if picks = [] then 0 else (picks.getD (i % picks.length) 0).toNat % 3
/-- What becomes of the i-th page that doesn't last. -/
def crPg (picks : List UInt8) (i : Nat) (p : Pg) : Pg := if pickAt picks i = 1 then p else ⟨pickAt picks i, none, 0, []⟩
/-- The pages when k of those that don't last have been looked at. -/
def stage (picks : List UInt8) (lasts k : Nat) (ps : List Pg) : List Pg := ps.mapIdx fun j p => if lasts ≤ j ∧ j < lasts + k then crPg picks (j - lasts) p else p
/-- Without the empty pages at the end. -/
def trimPs : Nat → List Pg → Nat
  | 0, _ => 0
  | n + 1, ps => if (ps.map (·.is)).getD n 1 = 0 then trimPs n ps else n + 1
def crashPs (picks : List UInt8) (lasts : Nat) (ps : List Pg) : List Pg :=
  let s := stage picks lasts (ps.length - lasts) ps
  s.take (trimPs s.length s)

theorem stage_len (picks : List UInt8) (lasts k : Nat) (ps : List Pg) : (stage picks lasts k ps).length = ps.length := by simp [stage]
theorem stage_zero (picks : List UInt8) (lasts : Nat) (ps : List Pg) : stage picks lasts 0 ps = ps := by
  apply List.ext_getElem (stage_len _ _ _ _)
  intro i h1 h2
  simp only [stage, List.getElem_mapIdx]
  rw [if_neg (by omega)]
theorem stage_succ (picks : List UInt8) (lasts k : Nat) (ps : List Pg) (h : lasts + k < ps.length) :
    stage picks lasts (k + 1) ps = (stage picks lasts k ps).set (lasts + k) (crPg picks k ps[lasts + k]) := by
  apply List.ext_getElem (by simp [stage])
  intro i h1 h2
  rw [List.getElem_set]
  by_cases hi : lasts + k = i
  · subst hi
    simp [stage]
  · rw [if_neg hi]
    simp only [stage, List.getElem_mapIdx]
    by_cases h3 : lasts ≤ i ∧ i < lasts + k
    · rw [if_pos h3, if_pos (by omega)]
    · rw [if_neg h3, if_neg (by omega)]
theorem stage_get (picks : List UInt8) (lasts k : Nat) (ps : List Pg) (h : lasts + k < ps.length) : (stage picks lasts k ps)[lasts + k]'(by rw [stage_len]; exact h) = ps[lasts + k] := by
  simp only [stage, List.getElem_mapIdx]
  rw [if_neg (by omega)]
theorem stage_next (picks : List UInt8) (lasts k x : Nat) (ps : List Pg) (h : lasts + k < ps.length) (hx : pickAt picks k = x) (h1 : x ≠ 1) :
    stage picks lasts (k + 1) ps = (stage picks lasts k ps).set (lasts + k) ⟨x, none, 0, []⟩ := by
  rw [stage_succ _ _ _ _ h]
  unfold crPg
  rw [hx, if_neg h1]
theorem stage_same (picks : List UInt8) (lasts k : Nat) (ps : List Pg) (h : lasts + k < ps.length) (hx : pickAt picks k = 1) :
    stage picks lasts (k + 1) ps = stage picks lasts k ps := by
  rw [stage_succ _ _ _ _ h]
  unfold crPg
  rw [if_pos hx, ← stage_get picks lasts k ps h, List.set_getElem_self]
theorem trimPs_le (n : Nat) (ps : List Pg) : trimPs n ps ≤ n := by
  induction n with
  | zero => simp [trimPs]
  | succ n ih => unfold trimPs; split <;> omega

theorem pcells_set (ps : List Pg) (i : Nat) (p : Pg) : pcells (ps.set i p) = ((pcells ps).set (i * 2) (.int .i64 (p.is : Int))).set (i * 2 + 1) (.slice p.A p.l.length p.c) := by
  induction ps generalizing i with
  | nil => simp [pcells]
  | cons q ps ih =>
    cases i with
    | zero => simp [pcells, Pg.cells]
    | succ i =>
      have e : (i + 1) * 2 = i * 2 + 1 + 1 := by omega
      have := ih i
      simp only [pcells, List.set_cons_succ, List.flatMap_cons] at this ⊢
      rw [this, e]
      simp [Pg.cells]
theorem pcells_get (ps : List Pg) (i : Nat) (h : i < ps.length) : (pcells ps)[i * 2]? = some (.int .i64 (ps[i].is : Int)) ∧ (pcells ps)[i * 2 + 1]? = some (.slice ps[i].A ps[i].l.length ps[i].c) := by
  induction ps generalizing i with
  | nil => simp at h
  | cons q ps ih =>
    cases i with
    | zero => exact ⟨rfl, rfl⟩
    | succ i =>
      have e : (i + 1) * 2 = i * 2 + 1 + 1 := by omega
      have := ih i (by simpa using h)
      simp only [pcells, List.flatMap_cons, List.getElem_cons_succ] at this ⊢
      rw [e]
      simpa [Pg.cells] using this
theorem pcells_take (ps : List Pg) (n : Nat) : pcells (ps.take n) = (pcells ps).take (n * 2) := by
  induction ps generalizing n with
  | nil => simp [pcells]
  | cons q ps ih =>
    cases n with
    | zero => simp [pcells]
    | succ n =>
      have e : (n + 1) * 2 = n * 2 + 1 + 1 := by omega
      have := ih n
      simp only [pcells, List.take_succ_cons, List.flatMap_cons] at this ⊢
      rw [this, e]
      simp [Pg.cells]

/-- One cell of an owned row turned. -/
theorem owns_set {w : World} {base g n cap size i : Nat} {e : TypeId} {xs : List Value} (h : w.ownsRow base e size (.slice (some ⟨g, 0, none⟩) n cap) n xs) (u : Value) :
    (w.setCell ⟨g, i, none⟩ u).ownsRow base e size (.slice (some ⟨g, 0, none⟩) n cap) n (xs.set i u) := by
  refine ⟨by rw [List.length_set]; exact h.1, ?_⟩
  rcases h.2 with ⟨h0, _⟩ | ⟨g', cap', cur, e1, hb, hh, hn, hc, hs, ht⟩
  · cases h0
  · injection e1 with e1 e2 e3
    injection e1 with e1
    injection e1 with e1
    subst e1; subst e3
    refine .inr ⟨g, cap, cur.setIfInBounds i u, rfl, hb, blk_set hh u, hn, hc, by simpa using hs, ?_⟩
    rw [← ht, Array.toList_setIfInBounds, List.take_set]
/-- An owned row cut short. -/
theorem owns_cut {w : World} {base g n m cap size : Nat} {e : TypeId} {xs : List Value} (h : w.ownsRow base e size (.slice (some ⟨g, 0, none⟩) n cap) n xs) (hm : m ≤ n) :
    w.ownsRow base e size (.slice (some ⟨g, 0, none⟩) m cap) m (xs.take (m * size)) := by
  have hmul : m * size ≤ n * size := Nat.mul_le_mul_right _ hm
  refine ⟨by rw [List.length_take, h.1]; omega, ?_⟩
  rcases h.2 with ⟨h0, _⟩ | ⟨g', cap', cur, e1, hb, hh, hn, hc, hs, ht⟩
  · cases h0
  · injection e1 with e1 e2 e3
    injection e1 with e1
    injection e1 with e1
    subst e1; subst e3
    refine .inr ⟨g, cap, cur, rfl, hb, hh, by omega, hc, hs, ?_⟩
    rw [← ht, List.take_take, Nat.min_eq_left hmul]
theorem owns_cap {w : World} {base g n cap size : Nat} {e : TypeId} {xs : List Value} (h : w.ownsRow base e size (.slice (some ⟨g, 0, none⟩) n cap) n xs) : n ≤ cap ∧ base ≤ g ∧ ∃ cur, w.heap[g]? = some (.cells cur e (0, 0)) ∧ cur.size = cap * size ∧ cur.toList.take (n * size) = xs := by
  rcases h.2 with ⟨h0, _⟩ | ⟨g', cap', cur, e1, hb, hh, hn, hc, hs, ht⟩
  · cases h0
  · injection e1 with e1 e2 e3
    injection e1 with e1
    injection e1 with e1
    subst e1; subst e3
    exact ⟨hn, hb, cur, hh, hs, ht⟩
theorem owns_cell {w : World} {base g n cap size : Nat} {e : TypeId} {xs : List Value} (h : w.ownsRow base e size (.slice (some ⟨g, 0, none⟩) n cap) n xs) {i : Nat} {u : Value} (hu : xs[i]? = some u) :
    w.cell? ⟨g, i, none⟩ = some u ∧ w.frozen? ⟨g, i, none⟩ = false := by
  obtain ⟨-, -, cur, hh, -, ht⟩ := owns_cap h
  refine ⟨?_, by simp [World.frozen?, hh]⟩
  rw [cell_of_row w g i cur e (0, 0) hh]
  rw [← ht, List.getElem?_take] at hu
  split at hu
  · simpa using hu
  · cases hu
theorem trimPs_step (n : Nat) (ps : List Pg) (h : n < ps.length) : trimPs (n + 1) ps = if ps[n].is = 0 then trimPs n ps else n + 1 := by
  show (if (ps.map (·.is)).getD n 1 = 0 then trimPs n ps else n + 1) = _
  have : (ps.map (·.is)).getD n 1 = ps[n].is := by simp [List.getD, h]
  rw [this]
end Go.Proofs.Ytbmodlhnkbohhaa
