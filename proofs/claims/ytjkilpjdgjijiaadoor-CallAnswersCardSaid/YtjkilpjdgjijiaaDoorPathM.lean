/- Splitting by a loop, plain: what tidelineref03.Split's loop has at place i. -/
import Derived.Test.YtjkilpjdgjijiaaDoorPathS
namespace Go.Proofs.YtjkilpjdgjijiaaDoor
set_option linter.unusedVariables false

structure Mid (l : List UInt8) (acc : List (List UInt8)) (st i : Nat) : Prop where
  le : st ≤ i
  bound : i ≤ l.length + 1
  none : ∀ j, st ≤ j → j < i → l[j]? ≠ some 47
  more : st ≤ l.length → acc ++ parts (l.drop st) = parts (l.drop 1)
  done : st = l.length + 1 → acc = parts (l.drop 1)
  few : acc.length ≤ i

theorem Mid.start {l : List UInt8} (h : 1 ≤ l.length) : Mid l [] 1 1 :=
  ⟨Nat.le_refl _, by omega, fun j h1 h2 => by omega, fun _ => rfl, fun h => by omega, by simp⟩

theorem mid_take {l : List UInt8} {acc : List (List UInt8)} {st i : Nat} (h : Mid l acc st i) (hi : i ≤ l.length) : (47 : UInt8) ∉ (l.drop st).take (i - st) := by
  intro hm
  obtain ⟨j, hj⟩ := List.mem_iff_getElem?.1 hm
  rw [List.getElem?_take] at hj
  split at hj
  · rename_i hlt
    rw [List.getElem?_drop] at hj
    exact h.none (st + j) (by omega) (by omega) hj
  · cases hj

theorem Mid.skip {l : List UInt8} {acc : List (List UInt8)} {st i : Nat} (h : Mid l acc st i) (hi : i < l.length) (hne : l[i]? ≠ some 47) : Mid l acc st (i + 1) :=
  ⟨by have := h.le; omega, by omega, fun j h1 h2 => by
    by_cases e : j = i
    · subst e; exact hne
    · exact h.none j h1 (by omega), h.more, h.done, by have := h.few; omega⟩
theorem Mid.cut {l : List UInt8} {acc : List (List UInt8)} {st i : Nat} (h : Mid l acc st i) (hi : i < l.length) (he : l[i]? = some 47) : Mid l (acc ++ [(l.drop st).take (i - st)]) (i + 1) (i + 1) := by
  have hle := h.le
  refine ⟨Nat.le_refl _, by omega, fun j h1 h2 => by omega, fun h1 => ?_, fun h1 => by omega, by have := h.few; simp; omega⟩
  rw [← h.more (by omega)]
  have h2 : l.drop st = (l.drop st).take (i - st) ++ 47 :: l.drop (i + 1) := by
    conv => lhs; rw [← List.take_append_drop (i - st) (l.drop st)]
    rw [List.drop_drop, show st + (i - st) = i by omega]
    congr 1
    rw [List.drop_eq_getElem_cons hi]
    rw [List.getElem?_eq_getElem hi] at he
    rw [Option.some.inj he]
  have h3 := parts_app _ (l.drop (i + 1)) (mid_take h (by omega))
  rw [← h2] at h3
  rw [h3]
  simp
theorem Mid.last {l : List UInt8} {acc : List (List UInt8)} {st : Nat} (h : Mid l acc st l.length) : Mid l (acc ++ [(l.drop st).take (l.length - st)]) (l.length + 1) (l.length + 1) := by
  have hle := h.le
  refine ⟨Nat.le_refl _, by omega, fun j h1 h2 => by omega, fun h1 => by omega, fun _ => ?_, by have := h.few; simp; omega⟩
  rw [← h.more hle]
  have h2 := mid_take h (Nat.le_refl _)
  have h3 : (l.drop st).take (l.length - st) = l.drop st := List.take_of_length_le (by simp)
  rw [h3] at h2 ⊢
  rw [parts_none _ h2]
theorem Mid.end_ {l : List UInt8} {acc : List (List UInt8)} {st i : Nat} (h : Mid l acc st i) (hi : i = l.length + 1) (hs : st = i) : acc = parts l.tail := by
  have := h.done (by omega)
  rw [this, List.drop_one]

/-- A slice of a string of names. -/
theorem ext_data (s : ByteArray) (a b : Nat) : (s.extract a b).data.toList = (s.data.toList.drop a).take (b - a) := by
  simp [ByteArray.data_extract]
end Go.Proofs.YtjkilpjdgjijiaaDoor
