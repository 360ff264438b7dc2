/- Plans, plain: which may be. -/
import Derived.Test.YtohahhijbneheaaDoorInts
namespace Go.Proofs.YtohahhijbneheaaDoor
open Go.RowKit
set_option linter.unusedVariables false

/-- A chain in memory. -/
structure Ch where
  A : Option Addr
  c : Nat
  l : List Int
abbrev Ch.val (r : Ch) : Value := .slice r.A r.l.length r.c
/-- It reads as it stands; its room is no less. -/
def Ch.Ok (w : World) (B : Nat) (r : Ch) : Prop := Sl w B r.A (iv r.l) ∧ r.l.length ≤ r.c ∧ r.c ≤ maxLen
/-- Chains that may be so far. -/
def GoodP (P : List Int) : Prop := (∀ n ∈ P, 0 ≤ n ∧ n ≤ 6) ∧ P.Nodup
def RightP (e : Int) (cs : List (List Int)) : Prop :=
  0 ≤ e ∧ e ≤ 2147483647 ∧ 1 ≤ cs.length ∧ cs.length ≤ 7 ∧ (∀ c ∈ cs, c ≠ []) ∧ (∀ n ∈ cs.flatten, 0 ≤ n ∧ n ≤ 6) ∧ cs.flatten.Nodup
instance (e : Int) (cs : List (List Int)) : Decidable (RightP e cs) := by unfold RightP; exact inferInstance
def rightP (e : Int) (cs : List (List Int)) : Bool := decide (RightP e cs)
theorem GoodP.nil : GoodP [] := ⟨by simp, List.nodup_nil⟩
theorem GoodP.snoc {P : List Int} {n : Int} (h : GoodP P) (h0 : 0 ≤ n) (h6 : n ≤ 6) (hn : n ∉ P) : GoodP (P ++ [n]) := by
  refine ⟨fun m hm => ?_, ?_⟩
  · rcases List.mem_append.1 hm with hm | hm
    · exact h.1 m hm
    · rw [List.mem_singleton.1 hm]; exact ⟨h0, h6⟩
  · rw [List.nodup_append]
    exact ⟨h.2, by simp, fun a ha b hb e => hn (by rw [List.mem_singleton.1 hb] at e; rwa [← e])⟩
theorem flat_at {cs : List (List Int)} {k j : Nat} (hk : k < cs.length) (hj : j < cs[k].length) :
    ∃ R, cs.flatten = ((cs.take k).flatten ++ cs[k].take j) ++ cs[k][j] :: R := by
  refine ⟨cs[k].drop (j + 1) ++ (cs.drop (k + 1)).flatten, ?_⟩
  conv => lhs; rw [← List.take_append_drop k cs, List.drop_eq_getElem_cons hk]
  rw [List.flatten_append, List.flatten_cons]
  have h := List.take_append_drop j cs[k]
  rw [List.drop_eq_getElem_cons hj] at h
  conv => lhs; rw [← h]
  simp only [List.append_assoc, List.cons_append]
/-- A number that may not be, or stands already. -/
theorem bad_number {e : Int} {cs : List (List Int)} {k j : Nat} (hk : k < cs.length) (hj : j < cs[k].length)
    (hb : cs[k][j] < 0 ∨ 6 < cs[k][j] ∨ cs[k][j] ∈ (cs.take k).flatten ++ cs[k].take j) : rightP e cs = false := by
  refine decide_eq_false fun h => ?_
  obtain ⟨_, _, _, _, _, h6, h7⟩ := h
  obtain ⟨R, hR⟩ := flat_at hk hj
  have h8 := h6 cs[k][j] (by rw [hR]; simp)
  rcases hb with hb | hb | hb
  · omega
  · omega
  · rw [hR, List.nodup_append] at h7
    exact h7.2.2 _ hb _ (by simp) rfl
theorem bad_empty {e : Int} {cs : List (List Int)} {k : Nat} (hk : k < cs.length) (hb : cs[k] = []) : rightP e cs = false :=
  decide_eq_false fun h => h.2.2.2.2.1 _ (List.getElem_mem hk) hb
theorem bad_epoch {e : Int} {cs : List (List Int)} (h : e < 0 ∨ 2147483647 < e) : rightP e cs = false := decide_eq_false fun h' => by
  have := h'.1
  have := h'.2.1
  omega
theorem bad_count {e : Int} {cs : List (List Int)} (h : cs.length < 1 ∨ 7 < cs.length) : rightP e cs = false := decide_eq_false fun h' => by
  have := h'.2.2.1
  have := h'.2.2.2.1
  omega
theorem good_all {e : Int} {cs : List (List Int)} (h0 : 0 ≤ e) (h1 : e ≤ 2147483647) (h2 : 1 ≤ cs.length) (h3 : cs.length ≤ 7) (h4 : ∀ c ∈ cs, c ≠ []) (h5 : GoodP cs.flatten) : rightP e cs = true :=
  decide_eq_true ⟨h0, h1, h2, h3, h4, h5.1, h5.2⟩
theorem flat_row {cs : List (List Int)} {k : Nat} (hk : k < cs.length) : (cs.take k).flatten ++ cs[k] = (cs.take (k + 1)).flatten := by
  rw [List.take_succ_eq_append_getElem hk, List.flatten_append]
  simp
theorem nodup_len : ∀ (n : Nat) (l : List Int), l.Nodup → (∀ x ∈ l, 0 ≤ x ∧ x < n) → l.length ≤ n
  | 0, l, _, h => by
    cases l with
    | nil => simp
    | cons x l => have := h x (by simp); omega
  | n + 1, l, hn, h => by
    by_cases hm : (n : Int) ∈ l
    · have h1 := nodup_len n (l.erase n) (hn.erase _) (fun x hx => by
        have := h x (List.mem_of_mem_erase hx)
        have hne : x ≠ n := fun e => by subst e; exact hn.not_mem_erase hx
        omega)
      rw [List.length_erase_of_mem hm] at h1
      omega
    · have := nodup_len n l hn (fun x hx => by
        have := h x hx
        have hne : x ≠ n := fun e => hm (e ▸ hx)
        omega)
      omega
theorem chain_len {e : Int} {cs : List (List Int)} (h : RightP e cs) {c : List Int} (hc : c ∈ cs) : c.length ≤ 7 :=
  nodup_len 7 c (h.2.2.2.2.2.2.sublist (List.sublist_flatten_of_mem hc)) (fun x hx => by
    have := h.2.2.2.2.2.1 x (List.mem_flatten.2 ⟨c, hc, hx⟩)
    omega)
end Go.Proofs.YtohahhijbneheaaDoor
