/- What is ahead of a sum: of the program, of the document, at any bytes. -/
import Derived.Test.YtjkilpjdgjijiaaDoorRput
import Derived.Test.YtjkilpjdgjijiaaDoorWrap
import Derived.Test.YtjkilpjdgjijiaaDoorPs
namespace Go.Proofs.YtjkilpjdgjijiaaDoor
open Go.RowKit
set_option linter.unusedVariables false

/-- What is ahead of a sum that is right. -/
def unw (b : List UInt8) : Option (List UInt8) := if b.length < 4 then none else if beVal (b.drop (b.length - 4)) = more 0 (b.take (b.length - 4)) then some (b.take (b.length - 4)) else none
theorem unw_len {b a : List UInt8} (h : unw b = some a) : a.length ≤ b.length := by
  unfold unw at h
  split at h
  · cases h
  · split at h
    · injection h with h
      rw [← h, List.length_take]
      omega
    · cases h
theorem unw_wrapped (b : List UInt8) : unw (wrapped b) = some b := by
  have h1 : (wrapped b).take ((wrapped b).length - 4) = b := by rw [wrapped_len, Nat.add_sub_cancel]; exact List.take_left' rfl
  have h2 : (wrapped b).drop ((wrapped b).length - 4) = beBytes (more 0 b) 4 := by rw [wrapped_len, Nat.add_sub_cancel]; exact List.drop_left' rfl
  unfold unw
  rw [if_neg (by rw [wrapped_len]; omega), h1, h2, if_pos (beVal_be _ (more_lt _ _))]

/-- What Unwrap comes to. -/
def Unw (o : Option (List UInt8)) (w : World) (e : Ending) (w' : World) : Prop :=
  (∃ A c, e = .returned (.tuple #[.slice A (o.getD []).length c, .int .i64 (if o.isSome then 0 else 3)]) ∧ w'.ownsRow w.heap.size 5 1 (.slice A (o.getD []).length c) (o.getD []).length (bv (o.getD []))) ∧ Below w.heap.size w w'

theorem unw_of {a s : List UInt8} {w w' : World} {e : Ending} (hs : s.length = 4) (h : Unwrapped a s w e w') : Unw (unw (a ++ s)) w e w' := by
  have h1 : (a ++ s).take ((a ++ s).length - 4) = a := by rw [List.length_append, hs, Nat.add_sub_cancel]; exact List.take_left' rfl
  have h2 : (a ++ s).drop ((a ++ s).length - 4) = s := by rw [List.length_append, hs, Nat.add_sub_cancel]; exact List.drop_left' rfl
  unfold unw
  rw [if_neg (by rw [List.length_append]; omega), h1, h2]
  unfold Unwrapped at h
  by_cases hq : beVal s = more 0 a
  · rw [if_pos hq] at h ⊢
    obtain ⟨⟨A, c, he, ho⟩, hb⟩ := h
    exact ⟨⟨A, c, he, ho⟩, hb⟩
  · rw [if_neg hq] at h ⊢
    obtain ⟨he, hb⟩ := h
    exact ⟨⟨none, 0, he, World.ownsRow_nil _ _ _ _⟩, hb⟩
theorem unw_short {b : List UInt8} {w : World} (h : b.length < 4) : Unw (unw b) w (.returned (.tuple #[.slice none 0 0, .int .i64 3])) w := by
  unfold unw
  rw [if_pos h]
  exact ⟨⟨none, 0, rfl, World.ownsRow_nil _ _ _ _⟩, Below.refl _ _⟩

theorem unwrap_any (A : Option Addr) (c B : Nat) (b : List UInt8) (w : World) (hT : Tab w) (h : Sl w B A (bv b)) (hc : b.length ≤ c) (hl : b.length ≤ 1099511627776) (hB : B ≤ w.heap.size) :
    Calls Tryd.prog 23 #[.slice A b.length c] w fun e w' => Unw (unw b) w e w' := by
  by_cases h4 : b.length < 4
  · refine (unwrap_short A c b w h4).mono ?_
    rintro e w' ⟨rfl, rfl⟩
    exact unw_short h4
  · obtain ⟨n, hn⟩ : ∃ n, b.length = n + 4 := ⟨b.length - 4, by omega⟩
    have hs : (b.drop n).length = 4 := by rw [List.length_drop]; omega
    have ha : (b.take n).length = n := by rw [List.length_take]; omega
    have hc := unwrap_ok A c B n (b.take n) (b.drop n) w hT (by rw [List.take_append_drop]; exact h) hs ha (by omega) (by omega) hB
    rw [hn]
    refine hc.mono fun e w' hu => ?_
    have := unw_of hs hu
    rwa [List.take_append_drop] at this
theorem runwrap_any (A : Option Addr) (c B : Nat) (b : List UInt8) (w : World) (h : Sl w B A (bv b)) (hc : b.length ≤ c) (hl : b.length ≤ 1099511627776) (hB : B ≤ w.heap.size) :
    Calls Tryd.prog 29 #[.slice A b.length c] w fun e w' => Unw (unw b) w e w' := by
  by_cases h4 : b.length < 4
  · refine (runwrap_short A c b w h4).mono ?_
    rintro e w' ⟨rfl, rfl⟩
    exact unw_short h4
  · obtain ⟨n, hn⟩ : ∃ n, b.length = n + 4 := ⟨b.length - 4, by omega⟩
    have hs : (b.drop n).length = 4 := by rw [List.length_drop]; omega
    have ha : (b.take n).length = n := by rw [List.length_take]; omega
    have hc := runwrap_ok A c B n (b.take n) (b.drop n) w (by rw [List.take_append_drop]; exact h) hs ha (by omega) (by omega) hB
    rw [hn]
    refine hc.mono fun e w' hu => ?_
    have := unw_of hs hu
    rwa [List.take_append_drop] at this

/-- One byte of bytes with their sum behind is turned: they are none. -/
theorem unw_turned (b : List UInt8) (j : Nat) (t : UInt8) (hj : j < (wrapped b).length) (ht : t ≠ 0) : unw ((wrapped b).set j ((wrapped b)[j] ^^^ t)) = none := by
  have h := turned_iff b j t hj
  have hl : ((wrapped b).set j ((wrapped b)[j] ^^^ t)).length = b.length + 4 := by rw [List.length_set, wrapped_len]
  unfold unw
  rw [if_neg (by rw [hl]; omega), hl, Nat.add_sub_cancel, if_neg (fun e => ht (h.1 e))]
end Go.Proofs.YtjkilpjdgjijiaaDoor
