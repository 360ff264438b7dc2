/- Plans, plain: the next one's parts; counting what stays. -/
import Derived.Test.YtohahhijbneheaaDoorPlanN
namespace Go.Proofs.YtohahhijbneheaaDoor
open Go.RowKit
set_option linter.unusedVariables false

theorem stay_sub (t c : List Int) : (stayP t c).Sublist c := List.filter_sublist
theorem flat_sub (t : List Int) : ∀ cs : List (List Int), ((cs.map (stayP t)).flatten).Sublist cs.flatten
  | [] => List.Sublist.refl _
  | c :: cs => by
    rw [List.map_cons, List.flatten_cons, List.flatten_cons]
    exact (stay_sub t c).append (flat_sub t cs)
/-- The next plan may be, if none of its chains is bare. -/
theorem next_right {e : Int} {cs : List (List Int)} {t : List Int} (h : rightP e cs = true) (he : e ≠ 2147483647) (hn : ∀ c ∈ cs, stayP t c ≠ []) : rightP (e + 1) (cs.map (stayP t)) = true := by
  obtain ⟨h0, h1, h2, h3, h4, h5, h6⟩ := of_decide_eq_true h
  refine decide_eq_true ⟨by omega, by omega, by rw [List.length_map]; exact h2, by rw [List.length_map]; exact h3, ?_, fun n hn => h5 n ((flat_sub t cs).subset hn), h6.sublist (flat_sub t cs)⟩
  intro c hc
  obtain ⟨d, hd, rfl⟩ := List.mem_map.1 hc
  exact hn d hd
theorem place_is {e : Int} {cs : List (List Int)} {q : Nat} (h : rightP e cs = true) : placeP e cs q = cs.getD (q % cs.length) [] := by
  unfold placeP
  rw [if_neg (by rw [h]; rintro (h | h); omega; cases h), Int.toNat_natCast]
theorem place_next {e : Int} {cs : List (List Int)} {t : List Int} {q : Nat} (h : rightP e cs = true) (h2 : rightP (e + 1) (cs.map (stayP t)) = true) : placeP (e + 1) (cs.map (stayP t)) q = stayP t (placeP e cs q) := by
  rw [place_is h, place_is h2, List.length_map]
  simp only [List.getD_eq_getElem?_getD, List.getElem?_map]
  cases cs[q % cs.length]? with
  | none => simp [stayP]
  | some c => simp
theorem place_mem {e : Int} {cs : List (List Int)} {q : Nat} (h : rightP e cs = true) : placeP e cs q ∈ cs := by
  rw [place_is h]
  obtain ⟨_, _, h2, _⟩ := of_decide_eq_true h
  have hq : q % cs.length < cs.length := Nat.mod_lt _ (by omega)
  rw [List.getD_eq_getElem?_getD, List.getElem?_eq_getElem hq]
  exact List.getElem_mem hq
theorem place_small {e : Int} {cs : List (List Int)} {q : Nat} (h : rightP e cs = true) : ∀ x ∈ placeP e cs q, x ≤ 6 := fun x hx =>
  ((of_decide_eq_true h : RightP e cs).2.2.2.2.2.1 x (List.mem_flatten.2 ⟨_, place_mem h, hx⟩)).2
theorem place_ne {e : Int} {cs : List (List Int)} {q : Nat} (h : rightP e cs = true) : placeP e cs q ≠ [] :=
  (of_decide_eq_true h : RightP e cs).2.2.2.2.1 _ (place_mem h)
theorem place_len {e : Int} {cs : List (List Int)} {q : Nat} (h : rightP e cs = true) : (placeP e cs q).length ≤ 7 := chain_len (of_decide_eq_true h) (place_mem h)
theorem stay_snoc (t l : List Int) (x : Int) : stayP t (l ++ [x]) = stayP t l ++ (if x ∈ t then [x] else []) := by
  unfold stayP
  rw [List.filter_append]
  congr 1
  by_cases h : x ∈ t <;> simp [h]
/-- Going through a, the count comes to b's next place just where a's number stays. -/
theorem count_step {t a : List Int} {j : Nat} (hj : j < a.length) :
    ((stayP t (a.take (j + 1))).length = if a[j] ∈ t then (stayP t (a.take j)).length + 1 else (stayP t (a.take j)).length) ∧
    (a[j] ∈ t → ∃ h : (stayP t (a.take j)).length < (stayP t a).length, (stayP t a)[(stayP t (a.take j)).length] = a[j]) ∧
    (a[j] ∉ t → ∀ h : (stayP t (a.take j)).length < (stayP t a).length, (stayP t a)[(stayP t (a.take j)).length] ≠ a[j]) := by
  have e1 : stayP t (a.take (j + 1)) = stayP t (a.take j) ++ (if a[j] ∈ t then [a[j]] else []) := by rw [List.take_succ_eq_append_getElem hj, stay_snoc]
  have e2 : stayP t a = stayP t (a.take j) ++ stayP t (a.drop j) := by
    unfold stayP; rw [← List.filter_append, List.take_append_drop]
  refine ⟨?_, fun h => ?_, fun h hl => ?_⟩
  · rw [e1, List.length_append]
    split <;> rfl
  · have e3 : stayP t (a.drop j) = a[j] :: stayP t (a.drop (j + 1)) := by
      rw [List.drop_eq_getElem_cons hj]; unfold stayP; rw [List.filter_cons_of_pos (by simpa using h)]
    rw [e3] at e2
    have hlt : (stayP t (a.take j)).length < (stayP t a).length := by rw [e2]; simp
    have h0 : (stayP t a)[(stayP t (a.take j)).length]? = some a[j] := by
      rw [e2, List.getElem?_append_right (Nat.le_refl _)]
      simp
    exact ⟨hlt, Option.some.inj ((List.getElem?_eq_getElem hlt).symm.trans h0)⟩
  · intro e
    have hm : (stayP t a)[(stayP t (a.take j)).length] ∈ stayP t a := List.getElem_mem hl
    rw [e] at hm
    unfold stayP at hm
    have := (List.mem_filter.1 hm).2
    exact h (by simpa using this)

/-- A first plan's chains: what they are. -/
theorem units_mem {c j n : Nat} {x : Int} : x ∈ unitsOf c j n ↔ ∃ k : Nat, x = k ∧ k < n ∧ k % c = j := by
  unfold unitsOf
  rw [List.mem_map]
  constructor
  · rintro ⟨k, hk, rfl⟩
    rw [List.mem_filter, List.mem_range] at hk
    exact ⟨k, rfl, hk.1, by simpa using hk.2⟩
  · rintro ⟨k, rfl, h1, h2⟩
    exact ⟨k, List.mem_filter.2 ⟨List.mem_range.2 h1, by simpa using h2⟩, rfl⟩
theorem first_len (u c : Nat) : (firstP u c).length = c := by simp [firstP]
theorem first_right {u c : Nat} (hu : u ≤ 7) (hc : 1 ≤ c) (hcu : c ≤ u) : rightP 0 (firstP u c) = true := by
  have h : ∀ u, u ≤ 7 → ∀ c, c ≤ u → 1 ≤ c → rightP 0 (firstP u c) = true := by decide +kernel
  exact h u hu c hcu hc
end Go.Proofs.YtohahhijbneheaaDoor
