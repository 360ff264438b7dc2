/- Reading bytes one behind the other, plain: what is left, or none where it has gone wrong. -/
import Derived.Test.YtjkilpjdgjijiaaDoorTurnP
namespace Go.Proofs.YtjkilpjdgjijiaaDoor
set_option linter.unusedVariables false

/-- What is left of a reader's bytes; none: it has gone wrong. -/
abbrev PS := Option (List UInt8)
def pnum (n : Nat) : PS → Nat × PS
  | none => (0, none)
  | some l => if l.length < n then (0, none) else (beVal (l.take n), some (l.drop n))
def pcount (most : Nat) (s : PS) : Nat × PS := if most < (pnum 4 s).1 then (0, none) else pnum 4 s
def ptake (n : Nat) : PS → List UInt8 × PS
  | none => ([], none)
  | some l => if l.length < n then ([], none) else (l.take n, some (l.drop n))
def pbytes (most : Nat) (s : PS) : List UInt8 × PS := ptake (pcount most s).1 (pcount most s).2
def pflag (s : PS) : Bool × PS := if 1 < (pnum 1 s).1 then (false, none) else ((pnum 1 s).1 == 1, (pnum 1 s).2)

theorem pnum_none (n : Nat) : pnum n none = (0, none) := rfl
theorem pnum_lt (n : Nat) (s : PS) : (pnum n s).1 < 256 ^ n := by
  have h0 : 0 < 256 ^ n := Nat.pow_pos (by decide)
  cases s with
  | none => exact h0
  | some l =>
    show (if l.length < n then ((0, none) : Nat × PS) else (beVal (l.take n), some (l.drop n))).1 < _
    split
    · exact h0
    · have h := beVal_lt (l.take n)
      rwa [List.length_take, Nat.min_eq_left (by omega)] at h
/-- How much is left. -/
def psLen (s : PS) : Nat := (s.getD []).length
theorem pnum_len (n : Nat) (s : PS) : psLen (pnum n s).2 ≤ psLen s := by
  cases s with
  | none => exact Nat.le_refl _
  | some l =>
    show psLen (if l.length < n then ((0, none) : Nat × PS) else (beVal (l.take n), some (l.drop n))).2 ≤ _
    split
    · exact Nat.zero_le _
    · simp [psLen]
theorem pcount_len (m : Nat) (s : PS) : psLen (pcount m s).2 ≤ psLen s := by
  unfold pcount
  split
  · exact Nat.zero_le _
  · exact pnum_len 4 s
theorem pcount_le (m : Nat) (s : PS) : (pcount m s).1 ≤ m := by
  unfold pcount
  split
  · exact Nat.zero_le _
  · omega
theorem pcount_none (m : Nat) (s : PS) (h : (pcount m s).2 = none) : (pcount m s).1 = 0 := by
  unfold pcount at h ⊢
  split
  · rfl
  · rename_i hm
    rw [if_neg hm] at h
    cases s with
    | none => rfl
    | some l =>
      change (if l.length < 4 then ((0, none) : Nat × PS) else (beVal (l.take 4), some (l.drop 4))).2 = none at h
      show (if l.length < 4 then ((0, none) : Nat × PS) else (beVal (l.take 4), some (l.drop 4))).1 = 0
      split
      · rfl
      · rename_i h2
        rw [if_neg h2] at h
        cases h
theorem ptake_len (n : Nat) (s : PS) : psLen (ptake n s).2 ≤ psLen s := by
  cases s with
  | none => exact Nat.le_refl _
  | some l =>
    show psLen (if l.length < n then (([], none) : List UInt8 × PS) else (l.take n, some (l.drop n))).2 ≤ _
    split
    · exact Nat.zero_le _
    · simp [psLen]
theorem pbytes_len (m : Nat) (s : PS) : psLen (pbytes m s).2 ≤ psLen s := Nat.le_trans (ptake_len _ _) (pcount_len _ _)
theorem ptake_le (n : Nat) (s : PS) : (ptake n s).1.length ≤ n := by
  cases s with
  | none => exact Nat.zero_le _
  | some l =>
    show (if l.length < n then (([], none) : List UInt8 × PS) else (l.take n, some (l.drop n))).1.length ≤ _
    split
    · exact Nat.zero_le _
    · simp; omega
theorem pbytes_le (m : Nat) (s : PS) : (pbytes m s).1.length ≤ m := Nat.le_trans (ptake_le _ _) (pcount_le _ _)
theorem pflag_len (s : PS) : psLen (pflag s).2 ≤ psLen s := by
  unfold pflag
  split
  · exact Nat.zero_le _
  · exact pnum_len 1 s

/-- A number's bytes are that number. -/
theorem beVal_beN : ∀ (n m : Nat), m < 256 ^ n → beVal (beBytes m n) = m
  | 0, m, h => by
    have : m = 0 := by simpa using h
    subst this; rfl
  | n + 1, m, h => by
    have e : beBytes m (n + 1) = beBytes (m / 256) n ++ [UInt8.ofNat m] := by
      unfold beBytes
      rw [List.range_succ, List.map_append]
      congr 1
      · apply List.map_congr_left
        intro i hi
        have hi' := List.mem_range.1 hi
        rw [Nat.div_div_eq_div_mul, show n + 1 - 1 - i = (n - 1 - i) + 1 by omega, Nat.pow_succ, Nat.mul_comm]
      · simp
    rw [e, beVal_snoc, beVal_beN n (m / 256) (by rw [Nat.pow_succ] at h; exact Nat.div_lt_of_lt_mul (by rw [Nat.mul_comm]; exact h))]
    simp
    omega
theorem pnum_be (n m : Nat) (h : m < 256 ^ n) (l : List UInt8) : pnum n (some (beBytes m n ++ l)) = (m, some l) := by
  show (if (beBytes m n ++ l).length < n then ((0, none) : Nat × PS) else (beVal ((beBytes m n ++ l).take n), some ((beBytes m n ++ l).drop n))) = _
  have hl : (beBytes m n).length = n := be_len m n
  rw [if_neg (by rw [List.length_append, hl]; omega), List.take_left' hl, List.drop_left' hl, beVal_beN n m h]
theorem pnum_one (x : UInt8) (l : List UInt8) : pnum 1 (some (x :: l)) = (x.toNat, some l) := by
  show (if (x :: l).length < 1 then ((0, none) : Nat × PS) else (beVal ((x :: l).take 1), some ((x :: l).drop 1))) = _
  rw [if_neg (by simp)]
  simp [beVal]
theorem pbytes_be (m : Nat) (b l : List UInt8) (h : b.length ≤ m) (h4 : b.length < 4294967296) : pbytes m (some (beBytes b.length 4 ++ b ++ l)) = (b, some l) := by
  have e : pcount m (some (beBytes b.length 4 ++ b ++ l)) = (b.length, some (b ++ l)) := by
    unfold pcount
    rw [List.append_assoc, pnum_be 4 b.length h4 (b ++ l), if_neg (by show ¬ m < b.length; omega)]
  unfold pbytes
  rw [e]
  show (if (b ++ l).length < b.length then (([], none) : List UInt8 × PS) else ((b ++ l).take b.length, some ((b ++ l).drop b.length))) = _
  rw [if_neg (by simp), List.take_left, List.drop_left]
theorem pflag_be (x : Bool) (l : List UInt8) : pflag (some ((if x then 1 else 0) :: l)) = (x, some l) := by
  unfold pflag
  rw [pnum_one]
  cases x <;> simp
end Go.Proofs.YtjkilpjdgjijiaaDoor

namespace Go.Proofs.YtjkilpjdgjijiaaDoor
set_option linter.unusedVariables false

/-- k things, one behind the other, while it hasn't gone wrong. -/
def pmany {β : Type} (one : PS → β × PS) : Nat → PS → List β × PS
  | 0, s => ([], s)
  | k + 1, none => ([], none)
  | k + 1, some l => ((one (some l)).1 :: (pmany one k (one (some l)).2).1, (pmany one k (one (some l)).2).2)
/-- As many as are told, at most so many. -/
def plist {β : Type} (most : Nat) (one : PS → β × PS) (s : PS) : List β × PS :=
  let p := pcount most s
  let r := pmany one p.1 p.2
  if r.2 = none then ([], none) else r

theorem pmany_none {β : Type} (one : PS → β × PS) (k : Nat) : pmany one k none = ([], none) := by cases k <;> rfl
theorem pmany_snoc {β : Type} (one : PS → β × PS) : ∀ (k : Nat) (s : PS) (xs : List β) (l : List UInt8), pmany one k s = (xs, some l) → pmany one (k + 1) s = (xs ++ [(one (some l)).1], (one (some l)).2)
  | 0, s, xs, l, h => by
    change (([], s) : List β × PS) = _ at h
    obtain ⟨rfl, rfl⟩ := Prod.mk.inj h
    rfl
  | k + 1, none, xs, l, h => by
    change (([], none) : List β × PS) = _ at h
    have := (Prod.mk.inj h).2
    cases this
  | k + 1, some l0, xs, l, h => by
    have h1 : ((one (some l0)).1 :: (pmany one k (one (some l0)).2).1, (pmany one k (one (some l0)).2).2) = (xs, some l) := h
    obtain ⟨h2, h3⟩ := Prod.mk.inj h1
    have ih := pmany_snoc one k (one (some l0)).2 (pmany one k (one (some l0)).2).1 l (by rw [← h3])
    show ((one (some l0)).1 :: (pmany one (k + 1) (one (some l0)).2).1, (pmany one (k + 1) (one (some l0)).2).2) = _
    rw [ih, ← h2]
    rfl
theorem pmany_gone {β : Type} (one : PS → β × PS) : ∀ (k : Nat) (s : PS) (xs : List β) (q : Nat), pmany one k s = (xs, none) → k ≤ q → pmany one q s = (xs, none)
  | 0, s, xs, q, h, _ => by
    change (([], s) : List β × PS) = _ at h
    obtain ⟨rfl, rfl⟩ := Prod.mk.inj h
    exact pmany_none one q
  | k + 1, none, xs, q, h, _ => by
    change (([], none) : List β × PS) = _ at h
    obtain ⟨rfl, -⟩ := Prod.mk.inj h
    exact pmany_none one q
  | k + 1, some l0, xs, q, h, hq => by
    obtain ⟨q, rfl⟩ : ∃ q', q = q' + 1 := ⟨q - 1, by omega⟩
    have h1 : ((one (some l0)).1 :: (pmany one k (one (some l0)).2).1, (pmany one k (one (some l0)).2).2) = (xs, none) := h
    obtain ⟨h2, h3⟩ := Prod.mk.inj h1
    have ih := pmany_gone one k (one (some l0)).2 (pmany one k (one (some l0)).2).1 q (by rw [← h3]) (by omega)
    show ((one (some l0)).1 :: (pmany one q (one (some l0)).2).1, (pmany one q (one (some l0)).2).2) = _
    rw [ih, h2]
theorem pmany_len {β : Type} (one : PS → β × PS) : ∀ (k : Nat) (s : PS), (pmany one k s).1.length ≤ k
  | 0, s => Nat.le_refl _
  | k + 1, none => Nat.zero_le _
  | k + 1, some l => by
    show (_ :: (pmany one k (one (some l)).2).1).length ≤ _
    have := pmany_len one k (one (some l)).2
    rw [List.length_cons]; omega
theorem pmany_ps {β : Type} (one : PS → β × PS) (h : ∀ l, psLen (one (some l)).2 ≤ psLen (some l)) : ∀ (k : Nat) (s : PS), psLen (pmany one k s).2 ≤ psLen s
  | 0, s => Nat.le_refl _
  | k + 1, none => Nat.le_refl _
  | k + 1, some l => Nat.le_trans (pmany_ps one h k _) (h l)
theorem plist_ps {β : Type} (one : PS → β × PS) (h : ∀ l, psLen (one (some l)).2 ≤ psLen (some l)) (most : Nat) (s : PS) : psLen (plist most one s).2 ≤ psLen s := by
  unfold plist
  dsimp only
  split
  · exact Nat.zero_le _
  · exact Nat.le_trans (pmany_ps one h _ _) (pcount_len _ _)
theorem plist_len {β : Type} (one : PS → β × PS) (most : Nat) (s : PS) : (plist most one s).1.length ≤ most := by
  unfold plist
  dsimp only
  split
  · exact Nat.zero_le _
  · exact Nat.le_trans (pmany_len _ _ _) (pcount_le _ _)
/-- What many puts have put is taken. -/
theorem pmany_back {β : Type} (one : PS → β × PS) (put : β → List UInt8) : ∀ (xs : List β), (∀ x ∈ xs, ∀ l, one (some (put x ++ l)) = (x, some l)) → ∀ l, pmany one xs.length (some ((xs.map put).flatten ++ l)) = (xs, some l)
  | [], _, l => rfl
  | x :: xs, h, l => by
    have h1 := h x (by simp) ((xs.map put).flatten ++ l)
    have ih := pmany_back one put xs (fun y hy => h y (by simp [hy])) l
    show ((one (some (((x :: xs).map put).flatten ++ l))).1 :: (pmany one xs.length (one (some (((x :: xs).map put).flatten ++ l))).2).1, (pmany one xs.length (one (some (((x :: xs).map put).flatten ++ l))).2).2) = _
    rw [List.map_cons, List.flatten_cons, List.append_assoc, h1, ih]
theorem plist_back {β : Type} (one : PS → β × PS) (put : β → List UInt8) (most : Nat) (xs : List β) (hm : xs.length ≤ most) (h4 : xs.length < 4294967296) (h : ∀ x ∈ xs, ∀ l, one (some (put x ++ l)) = (x, some l)) (l : List UInt8) :
    plist most one (some (beBytes xs.length 4 ++ (xs.map put).flatten ++ l)) = (xs, some l) := by
  have e : pcount most (some (beBytes xs.length 4 ++ (xs.map put).flatten ++ l)) = (xs.length, some ((xs.map put).flatten ++ l)) := by
    unfold pcount
    rw [List.append_assoc, pnum_be 4 xs.length h4 _, if_neg (by show ¬ most < xs.length; omega)]
  unfold plist
  dsimp only
  rw [e]
  dsimp only
  rw [pmany_back one put xs h l, if_neg (by simp)]
end Go.Proofs.YtjkilpjdgjijiaaDoor
