/- PlanAll, plain: all units, chain by chain. -/
import Derived.Test.YtplhaghkhedliaaPlanM
namespace Go.Proofs.Ytplhaghkhedliaa
open Go.RowKit
set_option linter.unusedVariables false

/-- The units of i chains one behind the other, from chain r on, in turn. -/
def allP (u c r i : Nat) : List Int := ((List.range i).map (fun j => unitsOf c ((r + j) % c) u)).flatten
theorem allP_step (u c r i : Nat) : allP u c r (i + 1) = allP u c r i ++ unitsOf c ((r + i) % c) u := by
  unfold allP
  rw [List.range_succ, List.map_append, List.flatten_append]
  simp
def okAll (u c r : Nat) : Bool :=
  decide (allP u c r c).Nodup && (allP u c r c).all (fun x => decide (0 ≤ x ∧ x < u)) && decide ((allP u c r c).length = u) && (firstP u c).all (fun l => decide (stayP (allP u c r c) l = l))
theorem okAll_all : ((List.range 8).all fun u => (List.range 8).all fun c => (List.range 8).all fun r => if 1 ≤ c ∧ c ≤ u ∧ r < c then okAll u c r else true) = true := by decide +kernel
theorem allP_all (u : Nat) (hu : u ≤ 7) (c : Nat) (hcu : c ≤ u) (r : Nat) (hr : r < c) (hc : 1 ≤ c) :
    (allP u c r c).Nodup ∧ (∀ x ∈ allP u c r c, 0 ≤ x ∧ x < u) ∧ (allP u c r c).length = u ∧ (∀ l ∈ firstP u c, stayP (allP u c r c) l = l) := by
  have h := List.all_eq_true.1 (List.all_eq_true.1 (List.all_eq_true.1 okAll_all u (List.mem_range.2 (by omega))) c (List.mem_range.2 (by omega))) r (List.mem_range.2 (by omega))
  rw [if_pos ⟨hc, hcu, hr⟩] at h
  unfold okAll at h
  simp only [Bool.and_eq_true, decide_eq_true_eq, List.all_eq_true] at h
  exact ⟨h.1.1.1, h.1.1.2, h.1.2, h.2⟩
theorem allP_pre {u c r i : Nat} : ∀ k, i + k = c → ∃ R, allP u c r c = allP u c r i ++ R := by
  intro k
  induction k generalizing i with
  | zero => intro h; simp at h; subst h; exact ⟨[], by simp⟩
  | succ k ih =>
    intro h
    obtain ⟨R, hR⟩ := ih (i := i + 1) (by omega)
    exact ⟨unitsOf c ((r + i) % c) u ++ R, by rw [hR, allP_step, List.append_assoc]⟩
/-- The next unit is new, and one of them. -/
theorem allP_new {u c q i j : Nat} (hu : u ≤ 7) (hc : 1 ≤ c) (hcu : c ≤ u) (hi : i < c) {l : List Int} (hl : unitsOf c ((q + i) % c) u = l) (hj : j < l.length) :
    l[j] ∉ allP u c (q % c) i ++ l.take j ∧ 0 ≤ l[j] ∧ l[j] < u ∧ (allP u c (q % c) i ++ l.take j).length < u := by
  obtain ⟨h1, h2, h3, -⟩ := allP_all u hu c hcu (q % c) (Nat.mod_lt _ (by omega)) hc
  obtain ⟨R, hR⟩ := allP_pre (u := u) (c := c) (r := q % c) (i := i + 1) (c - (i + 1)) (by omega)
  have hmod : (q % c + i) % c = (q + i) % c := by rw [Nat.mod_add_mod]
  rw [allP_step, hmod, hl] at hR
  have hs : l = l.take j ++ l[j] :: l.drop (j + 1) := by
    have := List.take_append_drop j l
    rw [List.drop_eq_getElem_cons hj] at this
    exact this.symm
  have hA : allP u c (q % c) c = (allP u c (q % c) i ++ l.take j) ++ l[j] :: (l.drop (j + 1) ++ R) := by
    rw [hR]
    conv => lhs; rw [hs]
    simp only [List.append_assoc, List.cons_append]
  have hm : l[j] ∈ allP u c (q % c) c := by rw [hA]; simp
  obtain ⟨h20, h21⟩ := h2 _ hm
  refine ⟨fun h => ?_, h20, h21, ?_⟩
  · rw [hA, List.nodup_append] at h1
    exact h1.2.2 _ h _ (by simp) rfl
  · have h4 := congrArg List.length hA
    rw [h3] at h4
    simp only [List.length_append, List.length_cons] at h4 ⊢
    omega
theorem first_get {u c j : Nat} (hj : j < c) : (firstP u c).getD j [] = unitsOf c j u := by
  unfold firstP
  rw [List.getD_eq_getElem?_getD]
  simp [hj]
theorem place_first {u c q : Nat} (hu : u ≤ 7) (hc : 1 ≤ c) (hcu : c ≤ u) : placeP 0 (firstP u c) q = unitsOf c (q % c) u := by
  rw [place_is (first_right hu hc hcu), first_len]
  exact first_get (Nat.mod_lt _ (by omega))
end Go.Proofs.Ytplhaghkhedliaa
