/- tidelineref01.Same: whether two rows of bytes are one. -/
import Derived.Test.YtjkilpjdgjijiaaDoorBase
namespace Go.Proofs.YtjkilpjdgjijiaaDoor
open Go.RowKit
set_option linter.unusedVariables false

theorem list_ne_of_get {l1 l2 : List UInt8} {k : Nat} (h1 : k < l1.length) (h2 : k < l2.length) (h : l1[k] ≠ l2[k]) : l1 ≠ l2 := by
  intro e; subst e; exact h rfl

set_option maxHeartbeats 400000 in
theorem same_any (A1 A2 : Option Addr) (c1 c2 B : Nat) (l1 l2 : List UInt8) (w : World) (h1 : Sl w B A1 (bv l1)) (h2 : Sl w B A2 (bv l2)) (hl1 : l1.length ≤ maxLen) (hl2 : l2.length ≤ maxLen) :
    Calls Tryd.prog 16 #[.slice A1 l1.length c1, .slice A2 l2.length c2] w fun e w' => e = .returned (.bool (decide (l1 = l2))) ∧ ∃ n, w' = w.drewN n := by
  unfold maxLen at hl1 hl2
  by_cases hl : l1.length = l2.length
  · have hb : (((l1.length : Nat) : Int) != ((l2.length : Nat) : Int)) = false := by simp [hl]
    have HL := Lib.hid hl
    clear hl
    go_enter Tryd.func16, Tryd.ntmps16
    go_wp2
    go_loopw [5] (fun i wr => ∃ k n : Nat, k ≤ l1.length ∧ i = .int .i64 k ∧ Hid (l1.take k = l2.take k) ∧ wr = w.drewN n) (fun i _ => l1.length - (intOf i).toNat)
    case atStart => exact ⟨0, 0, Nat.zero_le _, rfl, by simp [Hid], rfl⟩
    case round =>
      obtain ⟨k, n, hk, rfl, hp, rfl⟩ := hrel
      by_cases hlt : k < l1.length
      · have hlt2 : k < l2.length := by rw [← HL.out]; exact hlt
        obtain ⟨b1, o1, rfl, hb1, hc1⟩ := h1.byte hlt
        obtain ⟨b2, o2, rfl, hb2, hc2⟩ := h2.byte hlt2
        have hi1 : (k : Int) < ((l1.length : Nat) : Int) := by omega
        have hi2 : (k : Int) < ((l2.length : Nat) : Int) := by omega
        clear h1 h2
        by_cases he : l1[k] = l2[k]
        · have hq : ((l1[k].toNat : Int) != (l2[k].toNat : Int)) = false := by simp [he]
          have hnext : Hid (l1.take (k + 1) = l2.take (k + 1)) := by
            show _ = _
            rw [List.take_succ_eq_append_getElem hlt, List.take_succ_eq_append_getElem hlt2, hp.out, he]
          clear he
          go_wp2_with fail
          go_quiet (fail)
          go_wp2
          go_roundw
          case rel => exact ⟨k + 1, _, by omega, by go_num, hnext, by first | rfl | exact World.drewN_drewN _ _ _⟩
          case measure => simp [intOf]; omega
        · have hq : ((l1[k].toNat : Int) != (l2[k].toNat : Int)) = true := by
            rw [bne_iff_ne]; intro h; exact he (UInt8.toNat_inj.1 (by omega))
          have HE := Lib.hid (list_ne_of_get hlt hlt2 he)
          clear he
          go_wp2_with fail
          go_quiet (fail)
          go_wp2
          go_ret
          exact ⟨ret_bool (by simpa using HE.out), _, by first | rfl | exact World.drewN_drewN _ _ _⟩
      · have hge : l1.length ≤ k := by omega
        have HE : Hid (l1 = l2) := by
          have := hp.out
          rw [List.take_of_length_le hge, List.take_of_length_le (by rw [← HL.out]; exact hge)] at this
          exact this
        go_wp2
        go_ret
        exact ⟨ret_bool (by simpa using HE.out), _, by first | rfl | exact World.drewN_drewN _ _ _⟩
  · have hb : (((l1.length : Nat) : Int) != ((l2.length : Nat) : Int)) = true := by rw [bne_iff_ne]; omega
    have he : decide (l1 = l2) = false := by simpa using fun h => hl (by rw [h])
    have HE := Lib.hid he
    clear he hl
    go_enter Tryd.func16, Tryd.ntmps16
    go_wp2
    go_ret
    exact ⟨ret_bool HE.out.symm, 0, rfl⟩
end Go.Proofs.YtjkilpjdgjijiaaDoor
