/- tidelinelaw11.great: what it says no to is small. -/
import Derived.Test.YtohahhijbneheaaDoorPlanN
namespace Go.Proofs.YtohahhijbneheaaDoor
open Go.RowKit
set_option linter.unusedVariables false

/-- What great says. -/
def GreatQ (cs : List (List Int)) (e : Ending) : Prop := ∃ b, e = .returned (.bool b) ∧ (b = false → cs.length ≤ 12 ∧ ∀ c ∈ cs, c.length ≤ 12)
set_option maxRecDepth 100000 in
set_option maxHeartbeats 4000000 in
theorem great_plan (e : Int) (A : Option Addr) (c : Nat) (rs : List Ch) (B : Nat) (w : World) (hm : Mem w B A rs) (hB : B ≤ w.heap.size) :
    Calls Tryd.prog 10 #[.agg #[.int .i64 e, .slice A rs.length c]] w fun en w' => GreatQ (rs.map (·.l)) en ∧ Below w.heap.size w w' := by
  have HM := Lib.hid hm
  obtain ⟨n, hN⟩ : ∃ n, rs.length = n := ⟨_, rfl⟩
  have HN := Lib.hid hN
  rw [hN]
  clear hm hN
  by_cases hbig : 12 < n
  · have hbi : (12 : Int) < (n : Int) := by omega
    go_enter Tryd.func10, Tryd.ntmps10
    go_wp2_with fail
    go_ret
    exact ⟨⟨true, rfl, fun h => by cases h⟩, (Below.refl _ _).alloc (Nat.le_refl _) _⟩
  have hbi : ¬ ((12 : Int) < (n : Int)) := by omega
  have HN12 : Hid (n ≤ 12) := by show _ ≤ _; omega
  clear hbig
  go_enter Tryd.func10, Tryd.ntmps10
  go_wp2_with fail
  have HB1 : Hid (Below w.heap.size w (w.alloc (.cells #[.int .i64 e, .slice A n c] 24))) := (Below.refl _ _).alloc (Nat.le_refl _) _
  obtain ⟨W1, hW1⟩ : ∃ X, w.alloc (.cells #[.int .i64 e, .slice A n c] 24) = X := ⟨_, rfl⟩
  rw [hW1] at HB1 ⊢
  have HM1 := Lib.hid (HM.out.below (HB1.out.mono hB))
  clear hW1
  go_loopw [12] (fun s wr => ∃ (i : Nat), i ≤ n ∧ s = .int .i64 (i : Int) ∧ wr = W1 ∧ Hid (∀ r ∈ rs.take i, r.l.length ≤ 12)) (fun s _ => n - (intOf s).toNat)
  case atStart => exact ⟨0, Nat.zero_le _, rfl, rfl, by simp [Hid]⟩
  case round =>
    obtain ⟨i, hi, rfl, rfl, HS⟩ := hrel
    by_cases hlt : i < n
    · have hi1 : (i : Int) < (n : Int) := by omega
      have hil : i < rs.length := by rw [HN.out]; exact hlt
      obtain ⟨b1, o1, rfl, hb1, hc1⟩ := HM1.out.sl.at (k := i) (by simpa using hil)
      have e1 : (rs.map Ch.val)[i]'(by simpa using hil) = rs[i].val := by simp
      rw [e1] at hc1
      obtain ⟨⟨A2, c2, l2⟩, hr⟩ : ∃ r, rs[i] = r := ⟨_, rfl⟩
      rw [hr] at hc1
      replace hc1 : _ = some (Value.slice A2 l2.length c2) := hc1
      obtain ⟨m, hm⟩ : ∃ m, l2.length = m := ⟨_, rfl⟩
      rw [hm] at hc1
      have HTK : Hid (rs.take (i + 1) = rs.take i ++ [⟨A2, c2, l2⟩]) := by rw [← hr]; exact List.take_succ_eq_append_getElem hil
      have HMM := Lib.hid hm
      clear e1 hr hm
      by_cases h12 : (12 : Int) < (m : Int)
      · go_wp2_with fail
        go_ret
        exact ⟨⟨true, rfl, fun h => by cases h⟩, HB1.out⟩
      · have HM12 : Hid (m ≤ 12) := by show _ ≤ _; omega
        go_wp2_with fail
        go_roundw
        case rel =>
          refine ⟨i + 1, by omega, by go_num, by trivial, ?_⟩
          show ∀ r ∈ _, _
          intro r hr
          rw [HTK.out] at hr
          rcases List.mem_append.1 hr with hr | hr
          · exact HS.out r hr
          · rw [List.mem_singleton.1 hr]
            show l2.length ≤ 12
            rw [HMM.out]
            exact HM12.out
        case measure => simp [intOf]; omega
    · obtain rfl : i = n := by omega
      have hend : ¬ ((i : Int) < (i : Int)) := by omega
      go_wp2_with fail
      go_ret
      refine ⟨⟨false, rfl, fun _ => ⟨by rw [List.length_map, HN.out]; exact HN12.out, fun x hx => ?_⟩⟩, HB1.out⟩
      obtain ⟨r, hr, rfl⟩ := List.mem_map.1 hx
      have h := HS.out
      rw [List.take_of_length_le (Nat.le_of_eq HN.out)] at h
      exact h r hr
end Go.Proofs.YtohahhijbneheaaDoor
