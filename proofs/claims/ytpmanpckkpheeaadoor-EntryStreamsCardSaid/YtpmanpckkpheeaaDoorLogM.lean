/- api.Log: an entry in memory; entry.right, the document's may. -/
import Derived.Test.YtpmanpckkpheeaaDoorBase
namespace Go.Proofs.YtpmanpckkpheeaaDoor
open Go.RowKit
set_option linter.unusedVariables false

/-- An entry. -/
structure Lg where
  k : Int
  cl : Int
  bi : Int
  nu : Int
  st : Int
  ba : Int
  pl : List UInt8
/-- .. in memory: its payload at A, of capacity c. -/
abbrev Lg.val (x : Lg) (A : Option Addr) (c : Nat) : Value := .agg #[.int .i64 x.k, .int .i64 x.cl, .int .i64 x.bi, .int .i64 x.nu, .int .i64 x.st, .int .i64 x.ba, .slice A x.pl.length c]
def part (n : Int) : Bool := decide (0 ≤ n ∧ n ≤ 2147483647)
/-- May an entry be? -/
def Lg.right (x : Lg) : Bool := decide ((x.k = 1 ∨ x.k = 2) ∧ (0 ≤ x.cl ∧ x.cl ≤ 2147483647) ∧ (0 ≤ x.bi ∧ x.bi ≤ 2147483647) ∧ (0 ≤ x.nu ∧ x.nu ≤ 2147483647) ∧ 0 ≤ x.st ∧ x.st ≤ 7 ∧ -1 ≤ x.ba ∧ x.ba ≤ 4294967296 ∧ x.pl.length ≤ 65506)

set_option maxHeartbeats 1000000 in
theorem part_any (n : Int) (w : World) :
    Calls Tryd.prog 121 #[.int .i64 n] w fun e w' => e = .returned (.bool (part n)) ∧ w' = w := by
  go_enter Tryd.func121, Tryd.ntmps121
  go_wp2
  all_goals
    go_ret
    refine ⟨ret_bool ?_, rfl⟩
    unfold part
    first
      | exact decide_eq_false (by omega)
      | exact (decide_eq_false (by omega)).symm
      | (rw [Bool.eq_iff_iff]; simp; omega)
set_option maxHeartbeats 1000000 in
theorem may_any (n : Int) (w : World) :
    Calls Tryd.prog 73 #[.int .i64 n] w fun e w' => e = .returned (.bool (part n)) ∧ w' = w := by
  go_enter Tryd.func73, Tryd.ntmps73
  go_wp2
  all_goals
    go_ret
    refine ⟨ret_bool ?_, rfl⟩
    unfold part
    first
      | exact decide_eq_false (by omega)
      | exact (decide_eq_false (by omega)).symm
      | (rw [Bool.eq_iff_iff]; simp; omega)

set_option maxRecDepth 100000 in
set_option maxHeartbeats 4000000 in
theorem lright_any (x : Lg) (A : Option Addr) (c : Nat) (w : World) :
    Calls Tryd.prog 75 #[x.val A c] w fun e w' => e = .returned (.bool x.right) ∧ Below w.heap.size w w' := by
  obtain ⟨r, hr⟩ : ∃ r, x.right = r := ⟨_, rfl⟩
  rw [hr]
  have HR := Lib.hid hr
  clear hr
  obtain ⟨a1, a2, a3, a4, a5, a6, a7⟩ := x
  obtain ⟨p2, h2⟩ : ∃ p, part a2 = p := ⟨_, rfl⟩
  obtain ⟨p3, h3⟩ : ∃ p, part a3 = p := ⟨_, rfl⟩
  obtain ⟨p4, h4⟩ : ∃ p, part a4 = p := ⟨_, rfl⟩
  have C2 := Lib.hid (part_any a2)
  have C3 := Lib.hid (part_any a3)
  have C4 := Lib.hid (part_any a4)
  rw [h2] at C2
  rw [h3] at C3
  rw [h4] at C4
  have hR : Hid (r = (decide (a1 = 1 ∨ a1 = 2) && p2 && p3 && p4 && decide (0 ≤ a5 ∧ a5 ≤ 7 ∧ -1 ≤ a6 ∧ a6 ≤ 4294967296 ∧ a7.length ≤ 65506))) := by
    show _ = _
    rw [← HR.out, ← h2, ← h3, ← h4]
    unfold Lg.right part
    rw [Bool.eq_iff_iff]
    simp
    omega
  clear h2 h3 h4
  go_enter Tryd.func75, Tryd.ntmps75
  go_wp2_with (first
    | (go_at_call 121; with_reducible refine (C2.out _).mono ?_; rintro e w' ⟨rfl, rfl⟩)
    | (go_at_call 121; with_reducible refine (C3.out _).mono ?_; rintro e w' ⟨rfl, rfl⟩)
    | (go_at_call 121; with_reducible refine (C4.out _).mono ?_; rintro e w' ⟨rfl, rfl⟩))
  all_goals
    go_ret
    refine ⟨ret_bool ?_, (Below.refl _ _).alloc (Nat.le_refl _) _⟩
    rw [hR.out]
    simp_all
    all_goals (try omega)
    all_goals (have h7 : a5 ≤ 7 := by omega
               rw [decide_eq_true h7, Bool.true_and, decide_eq_decide]
               omega)
end Go.Proofs.YtpmanpckkpheeaaDoor
