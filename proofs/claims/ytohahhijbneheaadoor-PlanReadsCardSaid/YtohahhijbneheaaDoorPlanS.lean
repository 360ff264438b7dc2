/- tidelineref11.SameInts, Same. -/
import Derived.Test.YtohahhijbneheaaDoorPlanP
import Derived.Test.YtohahhijbneheaaDoorInts
namespace Go.Proofs.YtohahhijbneheaaDoor
open Go.RowKit
set_option linter.unusedVariables false
attribute [local go_sem] Oper.semAt_some

set_option maxRecDepth 100000 in
set_option maxHeartbeats 2000000 in
theorem sints_any (A1 A2 : Option Addr) (c1 c2 : Nat) (xs ys : List Int) (B : Nat) (w : World) (h1 : Sl w B A1 (iv xs)) (h2 : Sl w B A2 (iv ys)) (hl : xs.length ≤ maxLen) :
    Calls Tryd.prog 18 #[.slice A1 xs.length c1, .slice A2 ys.length c2] w fun e w' => e = .returned (.bool (decide (xs = ys))) ∧ ∃ q, w' = w.drewN q := by
  unfold maxLen at hl
  by_cases hne : xs.length = ys.length
  · have hn : (xs.length : Int) = (ys.length : Int) := by omega
    obtain ⟨n, hN⟩ : ∃ n, xs.length = n := ⟨_, rfl⟩
    rw [← hne, hN]
    rw [hN] at hl
    have h63 : (n : Int) ≤ 9223372036854775807 := by omega
    go_enter Tryd.func18, Tryd.ntmps18
    go_wp2_with fail
    go_loopw [5] (fun s wr => ∃ j q : Nat, j ≤ n ∧ s = .int .i64 (j : Int) ∧ Hid (xs.take j = ys.take j) ∧ wr = w.drewN q) (fun s _ => n - (intOf s).toNat)
    case atStart => exact ⟨0, 0, Nat.zero_le _, rfl, Lib.hid rfl, rfl⟩
    case round =>
      obtain ⟨j, q, hj, rfl, ht, rfl⟩ := hrel
      by_cases hlt : j < n
      · have hx : j < xs.length := by omega
        have hy : j < ys.length := by omega
        have hi1 : (j : Int) < (n : Int) := by omega
        obtain ⟨b1, o1, rfl, hb1, hc1⟩ := h1.at (k := j) (by simpa [iv] using hx)
        obtain ⟨b2, o2, rfl, hb2, hc2⟩ := h2.at (k := j) (by simpa [iv] using hy)
        have e1 : (iv xs)[j]'(by simpa [iv] using hx) = Value.int .i64 xs[j] := by simp [iv]
        have e2 : (iv ys)[j]'(by simpa [iv] using hy) = Value.int .i64 ys[j] := by simp [iv]
        rw [e1] at hc1
        rw [e2] at hc2
        clear e1 e2
        by_cases he : xs[j] = ys[j]
        · rw [he] at hc1
          have HT : Hid (xs.take (j + 1) = ys.take (j + 1)) := by show _ = _; rw [List.take_succ_eq_append_getElem hx, List.take_succ_eq_append_getElem hy, ht.out, he]
          clear he
          go_wp2_with fail
          go_quiet (fail)
          go_wp2
          go_roundw
          case rel => exact ⟨j + 1, _, by omega, by go_num, HT, by first | rfl | exact World.drewN_drewN _ _ _⟩
          case measure => simp [intOf]; omega
        · have HD : Hid (decide (xs = ys) = false) := decide_eq_false (fun h => he (by subst h; rfl))
          have hq : (xs[j] != ys[j]) = true := by rw [bne_iff_ne]; exact he
          go_wp2_with fail
          go_quiet (fail)
          go_wp2
          go_ret
          exact ⟨ret_bool HD.out.symm, _, by first | rfl | exact World.drewN_drewN _ _ _⟩
      · obtain rfl : j = n := by omega
        have hend : ¬ ((j : Int) < (j : Int)) := by omega
        go_wp2_with fail
        go_ret
        have h := ht.out
        rw [List.take_of_length_le (by omega), List.take_of_length_le (by omega)] at h
        exact ⟨ret_bool (decide_eq_true h).symm, _, rfl⟩
  · have hn : ¬ ((xs.length : Int) = (ys.length : Int)) := by omega
    rw [decide_eq_false (fun h => hne (by rw [h]))]
    go_enter Tryd.func18, Tryd.ntmps18
    go_wp2_with fail
    go_ret
    exact ⟨rfl, 0, rfl⟩
end Go.Proofs.YtohahhijbneheaaDoor
