/- slices.Index, Contains at numbers. -/
import Derived.Test.YtohahhijbneheaaDoorInts
import Derived.Deep.RegionLaw
namespace Go.Proofs.YtohahhijbneheaaDoor
open Go.RowKit
set_option linter.unusedVariables false

/-- The first place of a number; -1: none. -/
def indexI (v : Int) (l : List Int) : Int := match l.findIdx? (· == v) with
  | some i => (i : Int)
  | none => -1
theorem indexI_none {v : Int} {l : List Int} (h : v ∉ l) : indexI v l = -1 := by
  unfold indexI
  rw [List.findIdx?_eq_none_iff.2 (fun x hx => by simpa using fun e => h (by subst e; exact hx))]
theorem indexI_neg (v : Int) (l : List Int) : (0 ≤ indexI v l) ↔ v ∈ l := by
  constructor
  · intro h
    refine Classical.byContradiction fun hn => ?_
    rw [indexI_none hn] at h
    exact absurd h (by decide)
  · intro h
    unfold indexI
    cases he : l.findIdx? (· == v) with
    | some i => exact Int.natCast_nonneg i
    | none => exact absurd (List.findIdx?_eq_none_iff.1 he v h) (by simp)

set_option maxRecDepth 100000 in
set_option maxHeartbeats 2000000 in
theorem index_ints (A : Option Addr) (c : Nat) (l : List Int) (v : Int) (B : Nat) (w : World) (h : Sl w B A (iv l)) (hl : l.length ≤ maxLen) :
    Calls Tryd.prog 87 #[.slice A l.length c, .int .i64 v] w fun en w' => (∃ i : Int, en = .returned (.int .i64 i) ∧ (0 ≤ i ↔ v ∈ l)) ∧ w' = w := by
  unfold maxLen at hl
  obtain ⟨n, hN⟩ : ∃ n, l.length = n := ⟨_, rfl⟩
  have HN := Lib.hid hN
  rw [hN] at hl ⊢
  have h63 : (n : Int) ≤ 9223372036854775807 := by omega
  clear hN
  go_enter Tryd.func87, Tryd.ntmps87
  go_wp2_with fail
  go_loopw [8] (fun s wr => ∃ k : Nat, k ≤ n ∧ s = .int .i64 (k : Int) ∧ Hid (v ∉ l.take k) ∧ wr = w) (fun s _ => n - (intOf s).toNat)
  case atStart => exact ⟨0, Nat.zero_le _, rfl, Lib.hid (by simp), rfl⟩
  case round =>
    obtain ⟨k, hk, rfl, hno, rfl⟩ := hrel
    by_cases hlt : k < n
    · have hi1 : (k : Int) < (n : Int) := by omega
      have hkl : k < l.length := by rw [HN.out]; exact hlt
      obtain ⟨b1, o1, rfl, hb1, hc1⟩ := h.at (k := k) (by simpa [iv] using hkl)
      have e1 : (iv l)[k]'(by simpa [iv] using hkl) = Value.int .i64 l[k] := by simp [iv]
      rw [e1] at hc1
      clear e1
      by_cases he : v = l[k]
      · have HM : Hid (v ∈ l) := by rw [he]; exact List.getElem_mem hkl
        rw [← he] at hc1
        clear he
        go_wp2_with fail
        go_ret
        exact ⟨⟨_, rfl, ⟨fun _ => HM.out, fun _ => Int.natCast_nonneg k⟩⟩, rfl⟩
      · have HNO : Hid (v ∉ l.take (k + 1)) := by
          show ¬ _
          rw [List.take_succ_eq_append_getElem hkl]
          intro hm
          rcases List.mem_append.1 hm with hm | hm
          · exact hno.out hm
          · exact he (List.mem_singleton.1 hm)
        go_wp2_with fail
        go_roundw
        case rel => exact ⟨k + 1, by omega, by go_num, HNO, by first | rfl | trivial⟩
        case measure => simp [intOf]; omega
    · obtain rfl : k = n := by omega
      have hend : ¬ ((k : Int) < (k : Int)) := by omega
      have hnl := hno.out
      rw [List.take_of_length_le (Nat.le_of_eq HN.out)] at hnl
      have HNL := Lib.hid hnl
      clear hnl
      go_wp2_with fail
      go_ret
      exact ⟨⟨_, rfl, ⟨fun h => absurd h (by decide), fun h => absurd h HNL.out⟩⟩, rfl⟩

set_option maxHeartbeats 1000000 in
theorem contains_ints (A : Option Addr) (c : Nat) (l : List Int) (v : Int) (B : Nat) (w : World) (h : Sl w B A (iv l)) (hl : l.length ≤ maxLen) :
    Calls Tryd.prog 43 #[.slice A l.length c, .int .i64 v] w fun en w' => en = .returned (.bool (decide (v ∈ l))) ∧ w' = w := by
  have hx := index_ints A c l v B w h hl
  have HX := Lib.hid hx
  clear hx
  go_enter Tryd.func43, Tryd.ntmps43
  go_wp2_with fail
  refine HX.out.mono ?_
  rintro en W1 ⟨⟨i, rfl, hi⟩, rfl⟩
  go_wp2_with fail
  go_ret
  exact ⟨ret_bool (by first | rfl | exact decide_eq_decide.2 hi), rfl⟩

set_option maxRecDepth 100000 in
set_option maxHeartbeats 1000000 in
theorem goes_any (b : Nat) (A : Option Addr) (c : Nat) (l : List Int) (v : Int) (B : Nat) (w : World) (hb : w.cell? ⟨b, 0, none⟩ = some (.slice A l.length c)) (h : Sl w B A (iv l)) (hl : l.length ≤ maxLen) :
    Calls Tryd.prog 42 #[.int .i64 v, .pointer (some ⟨b, 0, none⟩)] w fun en w' => en = .returned (.bool (!decide (v ∈ l))) ∧ w' = w := by
  have hx := contains_ints A c l v B w h hl
  have HX := Lib.hid hx
  clear hx
  go_enter Tryd.func42, Tryd.ntmps42
  go_wp2_with fail
  refine HX.out.mono ?_
  rintro en W1 ⟨rfl, rfl⟩
  go_wp2_with fail
  go_ret
  exact ⟨rfl, rfl⟩
end Go.Proofs.YtohahhijbneheaaDoor
