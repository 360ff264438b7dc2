/- Paths, plain: the parts between slashes, a path's names. -/
import Derived.Test.YtjkilpjdgjijiaaDoorPathN
import Derived.Lib.Split
import Derived.Lib.IndexLaws
namespace Go.Proofs.YtjkilpjdgjijiaaDoor
set_option linter.unusedVariables false

/-- The parts between slashes: at least one. -/
def parts : List UInt8 → List (List UInt8)
  | [] => [[]]
  | b :: l => if b = 47 then [] :: parts l else (match parts l with | [] => [[b]] | p :: ps => (b :: p) :: ps)
theorem parts_ne (l : List UInt8) : parts l ≠ [] := by
  cases l with
  | nil => simp [parts]
  | cons b l =>
    unfold parts
    split
    · simp
    · split <;> simp
theorem parts_none : ∀ (l : List UInt8), (47 : UInt8) ∉ l → parts l = [l]
  | [], _ => rfl
  | b :: l, h => by
    have hb : b ≠ 47 := fun e => h (by simp [e])
    have hl : (47 : UInt8) ∉ l := fun e => h (by simp [e])
    unfold parts
    rw [if_neg hb, parts_none l hl]
theorem parts_app : ∀ (p q : List UInt8), (47 : UInt8) ∉ p → parts (p ++ 47 :: q) = p :: parts q
  | [], q, _ => by simp [parts]
  | b :: p, q, h => by
    have hb : b ≠ 47 := fun e => h (by simp [e])
    have hl : (47 : UInt8) ∉ p := fun e => h (by simp [e])
    have e : (b :: p) ++ 47 :: q = b :: (p ++ 47 :: q) := rfl
    rw [e, parts, if_neg hb, parts_app p q hl]
theorem index_one (c : UInt8) : ∀ (l : List UInt8), Lib.index l [c] = Lib.indexByte l c
  | [] => by simp [Lib.index, Lib.indexByte]
  | b :: l => by
    unfold Lib.index Lib.indexByte
    rw [index_one c l]
    have e : ([c] : List UInt8).isPrefixOf (b :: l) = (b == c) := by
      simp [List.isPrefixOf]
      rw [Bool.eq_iff_iff, beq_iff_eq, beq_iff_eq]
      exact eq_comm
    rw [e]
theorem ixb_split {l : List UInt8} {c : UInt8} {i : Nat} (h : Lib.indexByte l c = i) : l = l.take i ++ c :: l.drop (i + 1) ∧ c ∉ l.take i := by
  obtain ⟨h1, h2⟩ := Lib.indexByte_some h
  have hi : i < l.length := by
    rcases Nat.lt_or_ge i l.length with h3 | h3
    · exact h3
    · rw [List.getElem?_eq_none h3] at h1; cases h1
  have hc : l[i] = c := by rw [List.getElem?_eq_getElem hi] at h1; exact Option.some.inj h1
  refine ⟨?_, ?_⟩
  · conv => lhs; rw [← List.take_append_drop i l]
    rw [List.drop_eq_getElem_cons hi, hc]
  · intro hm
    obtain ⟨k, hk, he⟩ := List.getElem_of_mem hm
    rw [List.length_take] at hk
    refine h2 k (by omega) ?_
    rw [List.getElem?_eq_getElem (by omega), ← he, List.getElem_take]
/-- strings.Split at a slash gives the parts. -/
theorem split_parts : ∀ (n : Nat) (l : List UInt8), l.length ≤ n → Lib.splitK [47] 0 (Lib.count l [47]) l = parts l
  | n, l, hn => by
    by_cases hm : Lib.index l [47] = -1
    · have h2 : (47 : UInt8) ∉ l := by
        refine (ixb_neg l 47).1 ?_
        rw [← index_one, hm]
        decide
      rw [Lib.count_miss hm, parts_none l h2]
      rfl
    · have hge := Lib.indexByte_ge l 47
      rw [index_one] at hm
      obtain ⟨i, hi⟩ : ∃ i : Nat, Lib.indexByte l 47 = i := ⟨(Lib.indexByte l 47).toNat, by omega⟩
      have hix : Lib.index l [47] = i := by rw [index_one]; exact hi
      obtain ⟨h1, h2⟩ := ixb_split hi
      have hil : i < l.length := by
        have := congrArg List.length h1
        rw [List.length_append, List.length_take, List.length_cons, List.length_drop] at this
        omega
      cases n with
      | zero => omega
      | succ n =>
        have ih := split_parts n (l.drop (i + 1)) (by rw [List.length_drop]; omega)
        have hc := Lib.count_hit (s := l) (sub := [47]) (i := i) (by simp) hix
        have e1 : ([47] : List UInt8).length = 1 := rfl
        rw [e1] at hc
        rw [hc, Nat.add_comm 1, Lib.splitK, if_neg (by rw [hix]; simp <;> omega), hix]
        rw [show ((i : Int).toNat + 0) = i by omega, show ((i : Int).toNat + ([47] : List UInt8).length) = i + 1 by rw [e1]; omega, ih]
        conv => rhs; rw [h1]
        rw [parts_app _ _ h2]

/-- A path's names: none where it is none. -/
def pathOf (l : List UInt8) : Option (List (List UInt8)) :=
  if l = [47] then some [] else if l.head? ≠ some 47 then none else if (parts l.tail).length ≤ 8 ∧ (parts l.tail).all isNm = true then some (parts l.tail) else none
/-- The path of names. -/
def joinP (ns : List (List UInt8)) : List UInt8 := if ns = [] then [47] else ns.flatMap fun n => 47 :: n

theorem parts_len : ∀ (l : List UInt8), ((parts l).map (fun p => p.length + 1)).sum = l.length + 1
  | [] => rfl
  | b :: l => by
    have ih := parts_len l
    unfold parts
    by_cases hb : b = 47
    · rw [if_pos hb]
      simp [ih]
      omega
    · rw [if_neg hb]
      cases hp : parts l with
      | nil => exact absurd hp (parts_ne l)
      | cons p ps =>
        rw [hp] at ih
        simp at ih ⊢
        omega
theorem sum_le (ps : List (List UInt8)) (h : ps.all isNm = true) : (ps.map (fun p => p.length + 1)).sum ≤ ps.length * 17 := by
  induction ps with
  | nil => simp
  | cons p ps ih =>
    rw [List.all_cons, Bool.and_eq_true] at h
    have h1 := of_decide_eq_true h.1
    have h2 := ih h.2
    simp at h2 ⊢
    omega
/-- A path that has names is short. -/
theorem path_short {l : List UInt8} (h : (parts l.tail).length ≤ 8 ∧ (parts l.tail).all isNm = true) : l.length ≤ 136 := by
  have h1 := parts_len l.tail
  have h2 := sum_le _ h.2
  rw [List.length_tail] at h1
  have h3 : (parts l.tail).length * 17 ≤ 8 * 17 := Nat.mul_le_mul_right _ h.1
  omega
end Go.Proofs.YtjkilpjdgjijiaaDoor
