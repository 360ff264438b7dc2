/- Paths, plain: what the laws ask of names, paths and what stands above them. -/
import Derived.Test.YtdekpjagkhdfcaaDoorPathI
namespace Go.Proofs.YtdekpjagkhdfcaaDoor
set_option linter.unusedVariables false

theorem nm_slash {l : List UInt8} (h : isNm l = true) : (47 : UInt8) ∉ l := (of_decide_eq_true h).2.2.2.2.1
theorem nm_ne {l : List UInt8} (h : isNm l = true) : l ≠ [] := by
  have := (of_decide_eq_true h).1
  rintro rfl
  simp at this
/-- The names with a slash ahead of each but the first. -/
theorem parts_join : ∀ (n : List UInt8) (ns : List (List UInt8)), isNm n = true → ns.all isNm = true → parts (n ++ ns.flatMap fun n => 47 :: n) = n :: ns
  | n, [], h, _ => by
    rw [List.flatMap_nil, List.append_nil]
    exact parts_none n (nm_slash h)
  | n, m :: ns, h, hs => by
    rw [List.all_cons, Bool.and_eq_true] at hs
    rw [List.flatMap_cons, List.cons_append, parts_app n _ (nm_slash h), parts_join m ns hs.1 hs.2]
/-- The path of names that may be has these names. -/
theorem pathOf_join {ns : List (List UInt8)} (h : ns.all isNm = true) (h8 : ns.length ≤ 8) : pathOf (joinP ns) = some ns := by
  cases ns with
  | nil => rfl
  | cons n ns =>
    rw [List.all_cons, Bool.and_eq_true] at h
    have e : joinP (n :: ns) = 47 :: (n ++ ns.flatMap fun n => 47 :: n) := by simp [joinP]
    rw [e]
    unfold pathOf
    rw [if_neg (by
      intro h2
      have h3 := (List.cons.inj h2).2
      exact nm_ne h.1 (List.append_eq_nil_iff.1 h3).1), if_neg (by simp)]
    rw [List.tail_cons, parts_join n ns h.1 h.2, if_pos ⟨h8, by rw [List.all_cons, h.1, h.2]; rfl⟩]
theorem pathOf_all {l : List UInt8} {ns : List (List UInt8)} (h : pathOf l = some ns) : ns.all isNm = true ∧ ns.length ≤ 8 := by
  unfold pathOf at h
  split at h
  · cases h; exact ⟨rfl, by simp⟩
  · split at h
    · cases h
    · split at h
      · rename_i h1; cases h; exact ⟨h1.2, h1.1⟩
      · cases h
theorem flat_parts : ∀ (l : List UInt8), ((parts l).flatMap fun n => 47 :: n) = 47 :: l
  | [] => rfl
  | b :: l => by
    have ih := flat_parts l
    unfold parts
    by_cases hb : b = 47
    · rw [if_pos hb, List.flatMap_cons, ih, hb]; rfl
    · rw [if_neg hb]
      cases hp : parts l with
      | nil => exact absurd hp (parts_ne l)
      | cons p ps =>
        rw [hp, List.flatMap_cons, List.cons_append] at ih
        have ih2 := (List.cons.inj ih).2
        simp only [List.flatMap_cons, List.cons_append]
        rw [ih2]
/-- A path is the path of its names. -/
theorem join_pathOf {l : List UInt8} {ns : List (List UInt8)} (h : pathOf l = some ns) : joinP ns = l := by
  unfold pathOf at h
  split at h
  · rename_i h0; cases h; rw [h0]; rfl
  · split at h
    · cases h
    · rename_i h0 h1
      split at h
      · cases h
        unfold joinP
        rw [if_neg (parts_ne _), flat_parts]
        cases l with
        | nil => simp at h1
        | cons a l => simp at h1; simp [h1]
      · cases h
/-- The path above one, and its last name. -/
def parentP (l : List UInt8) : Option (List UInt8 × List UInt8) := match pathOf l with
  | none => none
  | some ns => match ns.getLast? with
    | none => none
    | some n => some (joinP ns.dropLast, n)
theorem parentP_some {l : List UInt8} {ns : List (List UInt8)} {n : List UInt8} (h : pathOf l = some (ns ++ [n])) : parentP l = some (joinP ns, n) := by
  unfold parentP; rw [h]; simp
theorem parentP_root {l : List UInt8} (h : pathOf l = some []) : parentP l = none := by
  unfold parentP; rw [h]; rfl
theorem parentP_none {l : List UInt8} (h : pathOf l = none) : parentP l = none := by
  unfold parentP; rw [h]
theorem all_init {ns : List (List UInt8)} {n : List UInt8} (h : (ns ++ [n]).all isNm = true) : ns.all isNm = true ∧ isNm n = true := by
  rw [List.all_append, Bool.and_eq_true] at h
  exact ⟨h.1, by simpa using h.2⟩
/-- What stands above a path has its names but the last. -/
theorem pathOf_above {l : List UInt8} {ns : List (List UInt8)} {n : List UInt8} (h : pathOf l = some (ns ++ [n])) : pathOf (joinP ns) = some ns := by
  obtain ⟨h1, h2⟩ := pathOf_all h
  rw [List.length_append] at h2
  exact pathOf_join (all_init h1).1 (by omega)
theorem above_len {l : List UInt8} {ns : List (List UInt8)} {n : List UInt8} (h : pathOf l = some (ns ++ [n])) : (joinP ns).length ≤ l.length := by
  have := join_pathOf h
  rw [← this]
  unfold joinP
  by_cases h0 : ns = []
  · subst h0; simp
  · rw [if_neg h0, if_neg (by simp)]; simp
theorem inside_self (l : List UInt8) : insideP l l = false := by
  unfold insideP
  cases pathOf l with
  | none => rfl
  | some ns => simp
theorem inside_above {l : List UInt8} {ns : List (List UInt8)} {n : List UInt8} (h : pathOf l = some (ns ++ [n])) : insideP l (joinP ns) = true := by
  unfold insideP; rw [h, pathOf_above h]; simp
theorem inside_more {l o : List UInt8} {ns : List (List UInt8)} {n : List UInt8} (h : pathOf l = some (ns ++ [n])) (hi : insideP (joinP ns) o = true) : insideP l o = true := by
  unfold insideP at hi ⊢
  rw [pathOf_above h] at hi
  rw [h]
  cases ho : pathOf o with
  | none => rw [ho] at hi; cases hi
  | some y =>
    rw [ho] at hi
    simp only [decide_eq_true_eq] at hi ⊢
    refine ⟨by rw [List.length_append]; omega, ?_⟩
    rw [List.take_append_of_le_length (by omega)]
    exact hi.2
/-- Whatever the other one: no path stands beneath, or above, what is none. -/
theorem inside_none {l : List UInt8} (h : pathOf l = none) (o : List UInt8) : insideP l o = false ∧ insideP o l = false := by
  unfold insideP
  rw [h]
  refine ⟨rfl, ?_⟩
  cases pathOf o <;> rfl

theorem parts_one {l p : List UInt8} (h : parts l = [p]) : p = l := by
  have := flat_parts l
  rw [h] at this
  simpa using this
/-- One name alone. -/
theorem one_name (l : List UInt8) : isNm l = true ↔ ∃ p, pathOf (47 :: l) = some [p] := by
  constructor
  · intro h
    refine ⟨l, ?_⟩
    have := pathOf_join (ns := [l]) (by simp [h]) (by simp)
    simpa [joinP] using this
  · rintro ⟨p, h⟩
    have h1 := join_pathOf h
    have h2 := (pathOf_all h).1
    simp [joinP] at h1
    subst h1
    simpa using h2
theorem one_name_eq {l p : List UInt8} (h : pathOf (47 :: l) = some [p]) : p = l := by
  have h1 := join_pathOf h
  simpa [joinP] using h1
/-- A name as the last of a path of two. -/
theorem two_names (l : List UInt8) : isNm l = true ↔ ∃ p q, pathOf (47 :: 97 :: 47 :: l) = some [p, q] := by
  constructor
  · intro h
    refine ⟨[97], l, ?_⟩
    have := pathOf_join (ns := [[97], l]) (by simp [h]; decide) (by simp)
    simpa [joinP] using this
  · rintro ⟨p, q, h⟩
    have h1 := join_pathOf h
    have h2 := (pathOf_all h).1
    unfold pathOf at h
    rw [if_neg (by simp), if_neg (by simp)] at h
    split at h
    · have h3 := Option.some.inj h
      rw [List.tail_cons] at h3
      rw [show (97 :: 47 :: l : List UInt8) = [97] ++ 47 :: l from rfl, parts_app [97] l (by decide)] at h3
      have h4 := (List.cons.inj h3).2
      have h5 := parts_one h4
      subst h5
      simp at h2
      exact h2.2
    · cases h
theorem two_names_eq {l p q : List UInt8} (h : pathOf (47 :: 97 :: 47 :: l) = some [p, q]) : q = l := by
  unfold pathOf at h
  rw [if_neg (by simp), if_neg (by simp)] at h
  split at h
  · have h3 := Option.some.inj h
    rw [List.tail_cons] at h3
    rw [show (97 :: 47 :: l : List UInt8) = [97] ++ 47 :: l from rfl, parts_app [97] l (by decide)] at h3
    exact parts_one (List.cons.inj h3).2
  · cases h
theorem nm_slash_end (l : List UInt8) : isNm (l ++ [47]) = false ∧ isNm (47 :: l) = false :=
  ⟨decide_eq_false fun h => h.2.2.2.2.1 (by simp), decide_eq_false fun h => h.2.2.2.2.1 (by simp)⟩
/-- With a slash between, one ahead: the path. -/
theorem joinP_joinS (zs : List ByteArray) : joinP (zs.map (·.data.toList)) = 47 :: joinS zs := by
  cases zs with
  | nil => rfl
  | cons z zs => simp [joinP, joinS, joinL, List.flatMap_map]
theorem insideP_root_none {l : List UInt8} (h : pathOf l = none) : insideP l [47] = false ∧ insideP [47, 97] l = false := ⟨(inside_none h _).1, (inside_none h _).2⟩

/-- The beginnings of a path's names. -/
theorem all_take {ns : List (List UInt8)} (h : ns.all isNm = true) (k : Nat) : (ns.take k).all isNm = true := by
  rw [List.all_eq_true] at h ⊢
  exact fun x hx => h x (List.mem_of_mem_take hx)
theorem pathOf_take {l : List UInt8} {ns : List (List UInt8)} (h : pathOf l = some ns) (k : Nat) : pathOf (joinP (ns.take k)) = some (ns.take k) := by
  obtain ⟨h1, h2⟩ := pathOf_all h
  exact pathOf_join (all_take h1 k) (by rw [List.length_take]; omega)
theorem inside_take {l : List UInt8} {ns : List (List UInt8)} (h : pathOf l = some ns) {k : Nat} (hk : k < ns.length) : insideP l (joinP (ns.take k)) = true := by
  unfold insideP
  rw [h, pathOf_take h k]
  have e : (ns.take k).length = k := by rw [List.length_take]; omega
  simp [e, hk]
theorem joinP_take {l : List UInt8} {ns : List (List UInt8)} (h : pathOf l = some ns) (k : Nat) : (joinP (ns.take k)).length ≤ 137 := by
  obtain ⟨h1, h2⟩ := pathOf_all h
  have h3 := all_take h1 k
  have h4 : (ns.take k).length ≤ 8 := by rw [List.length_take]; omega
  unfold joinP
  split
  · simp
  · have h5 := sum_le _ h3
    have h6 : ((ns.take k).flatMap fun n => 47 :: n).length = ((ns.take k).map (fun p => p.length + 1)).sum := by
      rw [List.length_flatMap]; simp
    omega
theorem joinP_snoc (ns : List (List UInt8)) (n : List UInt8) : joinP (ns ++ [n]) = if ns = [] then 47 :: n else joinP ns ++ 47 :: n := by
  unfold joinP
  rw [if_neg (by simp)]
  split
  · rename_i h; subst h; simp
  · simp
theorem joinP_root {l : List UInt8} {ns : List (List UInt8)} (h : pathOf l = some ns) (k : Nat) : joinP (ns.take k) = [47] ↔ ns.take k = [] := by
  constructor
  · intro h1
    have h2 := pathOf_take h k
    rw [h1] at h2
    have h3 : pathOf [47] = some [] := rfl
    rw [h3] at h2
    exact (Option.some.inj h2).symm
  · intro h1; rw [h1]; rfl
end Go.Proofs.YtdekpjagkhdfcaaDoor
