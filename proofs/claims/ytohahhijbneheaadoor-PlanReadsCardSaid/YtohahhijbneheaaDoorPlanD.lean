/- slices.IndexFunc at numbers, by any function that only tells. -/
import Derived.Test.YtohahhijbneheaaDoorPlanI
import Derived.Deep.LoopGhost
namespace Go.Proofs.YtohahhijbneheaaDoor
open Go.RowKit
set_option linter.unusedVariables false

set_option maxRecDepth 100000 in
set_option maxHeartbeats 2000000 in
theorem ifunc_ints (A : Option Addr) (c : Nat) (l : List Int) (fr : FuncId) (caps : Array Value) (p : Int → Bool) (B : Nat) (w : World) (h : Sl w B A (iv l)) (hl : l.length ≤ maxLen)
    (hent : ∀ args w, (callFunc fr args).run Tryd.prog w = .ok (.enter fr args) w)
    (hp : ∀ v q, Calls Tryd.prog fr (#[.int .i64 v] ++ caps) (w.drewN q) fun en w' => en = .returned (.bool (p v)) ∧ w' = w.drewN q) :
    Calls Tryd.prog 88 #[.slice A l.length c, .func (.func fr) #[] caps] w fun en w' =>
      (∃ k : Nat, k ≤ l.length ∧ (∀ x ∈ l.take k, p x = false) ∧ ((k = l.length ∧ en = .returned (.int .i64 (-1))) ∨ (∃ hk : k < l.length, p l[k] = true ∧ en = .returned (.int .i64 (k : Int))))) ∧ ∃ q, w' = w.drewN q := by
  unfold maxLen at hl
  obtain ⟨n, hN⟩ : ∃ n, l.length = n := ⟨_, rfl⟩
  have HN := Lib.hid hN
  rw [hN] at hl
  have hsl : Value.slice A l.length c = .slice A n c := by rw [hN]
  rw [hsl]
  have h63 : (n : Int) ≤ 9223372036854775807 := by omega
  have HP := Lib.hid hp
  clear hN hsl hp
  go_enter Tryd.func88, Tryd.ntmps88
  go_wp2_with fail
  go_loopw [8] (fun s wr => ∃ k q : Nat, k ≤ n ∧ s = .int .i64 (k : Int) ∧ Hid (∀ x ∈ l.take k, p x = false) ∧ wr = w.drewN q) (fun s _ => n - (intOf s).toNat)
  case atStart => exact ⟨0, 0, Nat.zero_le _, rfl, Lib.hid (by simp), rfl⟩
  case round =>
    obtain ⟨k, q, hk, rfl, hno, rfl⟩ := hrel
    by_cases hlt : k < n
    · have hi1 : (k : Int) < (n : Int) := by omega
      have hkl : k < l.length := by rw [HN.out]; exact hlt
      obtain ⟨b1, o1, rfl, hb1, hc1⟩ := h.at (k := k) (by simpa [iv] using hkl)
      have e1 : (iv l)[k]'(by simpa [iv] using hkl) = Value.int .i64 l[k] := by simp [iv]
      rw [e1] at hc1
      clear e1
      obtain ⟨z, hz⟩ : ∃ z, l[k] = z := ⟨_, rfl⟩
      rw [hz] at hc1
      have HZ := Lib.hid hz
      clear hz
      obtain ⟨r, hr⟩ : ∃ r, p z = r := ⟨_, rfl⟩
      have HR := Lib.hid hr
      have hcall := fun q => HP.out z q
      rw [hr] at hcall
      have HC := Lib.hid hcall
      clear hr hcall
      cases r with
      | true =>
        go_wp2_with fail
        refine (HC.out _).mono ?_
        rintro e w' ⟨rfl, rfl⟩
        go_wp2
        go_ret
        exact ⟨⟨k, by omega, hno.out, .inr ⟨hkl, by rw [HZ.out]; exact HR.out, rfl⟩⟩, _, rfl⟩
      | false =>
        have HNO : Hid (∀ x ∈ l.take (k + 1), p x = false) := by
          show ∀ _, _
          rw [List.take_succ_eq_append_getElem hkl]
          intro x hm
          rcases List.mem_append.1 hm with hm | hm
          · exact hno.out x hm
          · rw [List.mem_singleton.1 hm, HZ.out]; exact HR.out
        go_wp2_with fail
        refine (HC.out _).mono ?_
        rintro e w' ⟨rfl, rfl⟩
        go_wp2
        go_roundw
        case rel => exact ⟨k + 1, _, by omega, by go_num, HNO, by first | rfl | trivial⟩
        case measure => simp [intOf]; omega
    · obtain rfl : k = n := by omega
      have hend : ¬ ((k : Int) < (k : Int)) := by omega
      go_wp2_with fail
      go_ret
      exact ⟨⟨k, by rw [HN.out]; exact Nat.le_refl _, hno.out, .inl ⟨HN.out.symm, rfl⟩⟩, _, rfl⟩
end Go.Proofs.YtohahhijbneheaaDoor
