/- Streams, plain: each one's last entry, its entries from the last back. -/
import Derived.Test.YtpmanpckkpheeaaDoorLogW
namespace Go.Proofs.YtpmanpckkpheeaaDoor
open Go.RowKit
set_option linter.unusedVariables false

/-- The stream of a number. -/
def s8 (z : Int) : Int := z % 8
theorem s8_range (z : Int) : 0 ≤ s8 z ∧ s8 z ≤ 7 := by unfold s8; omega
/-- The last place at which stream s stands, over so many; -1: none. -/
def lastOf (ss : List Int) (s : Int) : Nat → Int
  | 0 => -1
  | n + 1 => if s8 (ss.getD n 0) = s then (n : Int) else lastOf ss s n
/-- All places at which it stands, the last ahead. -/
def wantOf (ss : List Int) (s : Int) : Nat → List Nat
  | 0 => []
  | n + 1 => if s8 (ss.getD n 0) = s then n :: wantOf ss s n else wantOf ss s n
theorem lastOf_range (ss : List Int) (s : Int) : ∀ n, -1 ≤ lastOf ss s n ∧ lastOf ss s n < n
  | 0 => by simp [lastOf]
  | n + 1 => by
    have := lastOf_range ss s n
    unfold lastOf
    split <;> omega
theorem wantOf_len (ss : List Int) (s : Int) : ∀ n, (wantOf ss s n).length ≤ n
  | 0 => Nat.le_refl _
  | n + 1 => by
    have := wantOf_len ss s n
    unfold wantOf
    split
    · rw [List.length_cons]; omega
    · omega
theorem wantOf_mem (ss : List Int) (s : Int) : ∀ n i, i ∈ wantOf ss s n → i < n ∧ s8 (ss.getD i 0) = s
  | 0, i, h => by simp [wantOf] at h
  | n + 1, i, h => by
    unfold wantOf at h
    split at h
    · rename_i hs
      rcases List.mem_cons.1 h with rfl | h
      · exact ⟨by omega, hs⟩
      · have := wantOf_mem ss s n i h
        exact ⟨by omega, this.2⟩
    · have := wantOf_mem ss s n i h
      exact ⟨by omega, this.2⟩
/-- The entry at a place. -/
def entAt (ss : List Int) (i : Nat) : Ent := ⟨(i : Int), 1, 0, 0, 0, s8 (ss.getD i 0), lastOf ss (s8 (ss.getD i 0)) i⟩
def entsOf (ss : List Int) (s : Int) (n : Nat) : List Ent := (wantOf ss s n).map (entAt ss)
theorem falls_of (ss : List Int) (s : Int) : ∀ n, Falls (lastOf ss s n) (entsOf ss s n)
  | 0 => by show (-1 : Int) < 0; decide
  | n + 1 => by
    have ih := falls_of ss s n
    unfold lastOf entsOf wantOf
    split
    · rename_i hs
      rw [List.map_cons]
      have hr := lastOf_range ss s n
      refine ⟨rfl, by omega, ?_, ?_⟩
      · show lastOf ss (s8 (ss.getD n 0)) n < (n : Int)
        rw [hs]; exact hr.2
      · show Falls (lastOf ss (s8 (ss.getD n 0)) n) _
        rw [hs]; exact ih
    · exact ih
theorem ents_none {ss : List Int} {s : Int} {n : Nat} (h : lastOf ss s n < 0) : wantOf ss s n = [] := by
  have hf := falls_of ss s n
  unfold entsOf at hf
  cases hw : wantOf ss s n with
  | nil => rfl
  | cons i l =>
    rw [hw] at hf
    have := hf.2.1
    omega
/-- A beginning of the entries, of which one more is looked at. -/
theorem ent_match {ss : List Int} {s : Int} {n : Nat} {pre : List Ent} {x : Ent} (h : pre ++ [x] <+: entsOf ss s n) :
    ∃ hk : pre.length < (wantOf ss s n).length, x.n = ((wantOf ss s n)[pre.length] : Int) ∧ x.st = s := by
  obtain ⟨q, hq⟩ := h
  have hl := congrArg List.length hq
  unfold entsOf at hl
  rw [List.length_map, List.length_append, List.length_append, List.length_singleton] at hl
  have hk : pre.length < (wantOf ss s n).length := by omega
  refine ⟨hk, ?_⟩
  have h1 : (entsOf ss s n)[pre.length]? = some x := by
    rw [← hq, List.append_assoc, List.getElem?_append_right (Nat.le_refl _), Nat.sub_self]
    rfl
  unfold entsOf at h1
  rw [List.getElem?_map, List.getElem?_eq_getElem hk] at h1
  have h2 := (Option.some.inj h1).symm
  rw [h2]
  exact ⟨rfl, (wantOf_mem ss s n _ (List.getElem_mem hk)).2⟩
/-- The entries' cells. -/
def entCells (e : Ent) : List Value := [.int .i64 e.k, .int .i64 e.cl, .int .i64 e.bi, .int .i64 e.nu, .int .i64 e.st, .int .i64 e.ba, .slice none 0 0]
def logCells (ss : List Int) (n : Nat) : List Value := (List.range n).flatMap fun i => entCells (entAt ss i)
theorem logCells_succ (ss : List Int) (n : Nat) : logCells ss (n + 1) = logCells ss n ++ entCells (entAt ss n) := by
  unfold logCells
  rw [List.range_succ, List.flatMap_append]
  simp
theorem logCells_len (ss : List Int) : ∀ n, (logCells ss n).length = n * 7
  | 0 => rfl
  | n + 1 => by rw [logCells_succ, List.length_append, logCells_len ss n]; simp [entCells]; omega
theorem logCells_at (ss : List Int) : ∀ n i j (u : Value), i < n → (entCells (entAt ss i))[j]? = some u → (logCells ss n)[i * 7 + j]? = some u
  | 0, i, j, u, hi, _ => absurd hi (Nat.not_lt_zero _)
  | n + 1, i, j, u, hi, hu => by
    have hj : j < 7 := by
      rcases Nat.lt_or_ge j 7 with h | h
      · exact h
      · rw [List.getElem?_eq_none (by simp [entCells]; omega)] at hu; cases hu
    rw [logCells_succ]
    by_cases h : i < n
    · rw [List.getElem?_append_left (by rw [logCells_len]; omega)]
      exact logCells_at ss n i j u h hu
    · obtain rfl : i = n := by omega
      rw [List.getElem?_append_right (by rw [logCells_len]; omega), logCells_len, show i * 7 + j - i * 7 = j by omega]
      exact hu
end Go.Proofs.YtpmanpckkpheeaaDoor
