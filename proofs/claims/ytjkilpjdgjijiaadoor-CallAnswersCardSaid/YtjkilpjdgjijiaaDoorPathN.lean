/- Names: path.Name, tidelineref03.Name. -/
import Derived.Test.YtjkilpjdgjijiaaDoorBase
import Derived.Test.YtjkilpjdgjijiaaDoorShelf
import Derived.Lib.Bytealg
import Derived.Lib.Strings
namespace Go.Proofs.YtjkilpjdgjijiaaDoor
open Go.RowKit
set_option linter.unusedVariables false

/-- May bytes be a name? -/
def isNm (l : List UInt8) : Bool := decide (1 ≤ l.length ∧ l.length ≤ 16 ∧ l ≠ [46] ∧ l ≠ [46, 46] ∧ (47 : UInt8) ∉ l ∧ (0 : UInt8) ∉ l)
theorem ixb_neg (l : List UInt8) (c : UInt8) : Lib.indexByte l c < 0 ↔ c ∉ l := by
  induction l with
  | nil => simp [Lib.indexByte]
  | cons b l ih =>
    have hge := Lib.indexByte_ge l c
    unfold Lib.indexByte
    by_cases h : b = c
    · simp [h]
    · have h1 : (b == c) = false := by simpa using h
      rw [h1]
      by_cases h2 : Lib.indexByte l c = -1
      · have : c ∉ l := ih.1 (by omega)
        simp [h2, this]
        exact fun e => h e.symm
      · have h3 : (Lib.indexByte l c == -1) = false := by simpa using h2
        rw [h3]
        have h4 : ¬ (c ∉ l) := fun hc => by have := ih.2 hc; omega
        simp only [Bool.false_eq_true, if_false, List.mem_cons, not_or]
        constructor
        · intro h5; omega
        · intro h5; exact absurd h5.2 h4
set_option maxRecDepth 100000 in
set_option maxHeartbeats 2000000 in
theorem name_any (s : ByteArray) (w : World) (hs : s.size ≤ maxLen) :
    Calls Tryd.prog 78 #[.string s] w fun e w' => e = .returned (.bool (isNm s.data.toList)) ∧ w' = w := by
  obtain ⟨r, hr⟩ : ∃ r, isNm s.data.toList = r := ⟨_, rfl⟩
  rw [hr]
  have HR := Lib.hid hr
  have hz : s.data.toList.length = s.size := by simp
  unfold maxLen at hs
  by_cases h1 : s.size < 1
  · have hi : (s.size : Int) < 1 := by omega
    have hrf : Hid (r = false) := by show _ = _; rw [← hr]; exact decide_eq_false (by omega)
    clear hr h1 hz
    go_enter Tryd.func78, Tryd.ntmps78
    go_wp2
    go_ret
    exact ⟨ret_bool hrf.out.symm, rfl⟩
  · by_cases h2 : 16 < s.size
    · have hi : ¬ ((s.size : Int) < 1) := by omega
      have hj : (16 : Int) < (s.size : Int) := by omega
      have hrf : Hid (r = false) := by show _ = _; rw [← hr]; exact decide_eq_false (by omega)
      clear hr h1 h2 hz
      go_enter Tryd.func78, Tryd.ntmps78
      go_wp2
      go_ret
      exact ⟨ret_bool hrf.out.symm, rfl⟩
    · have hi : ¬ ((s.size : Int) < 1) := by omega
      have hj : ¬ ((16 : Int) < (s.size : Int)) := by omega
      by_cases h3 : s.data.toList = [46]
      · have p3 : s.toList = [46] := by rw [Lib.toList_data]; exact h3
        have hrf : Hid (r = false) := by show _ = _; rw [← hr]; exact decide_eq_false (fun h => h.2.2.1 h3)
        clear hr h1 h2 h3 hz
        go_enter Tryd.func78, Tryd.ntmps78
        go_wp2
        go_ret
        exact ⟨ret_bool hrf.out.symm, rfl⟩
      · have p3 : ¬ s.toList = [46] := by rw [Lib.toList_data]; exact h3
        have q3 : (s.toList == [46]) = false := by simpa using p3
        by_cases h4 : s.data.toList = [46, 46]
        · have p4 : s.toList = [46, 46] := by rw [Lib.toList_data]; exact h4
          have hrf : Hid (r = false) := by show _ = _; rw [← hr]; exact decide_eq_false (fun h => h.2.2.2.1 h4)
          clear hr h1 h2 h3 h4 hz
          go_enter Tryd.func78, Tryd.ntmps78
          go_wp2
          go_ret
          exact ⟨ret_bool hrf.out.symm, rfl⟩
        · have p4 : ¬ s.toList = [46, 46] := by rw [Lib.toList_data]; exact h4
          have q4 : (s.toList == [46, 46]) = false := by simpa using p4
          have hfin : Hid (r = (decide (Lib.indexByte s.data.toList 47 < 0) && decide (Lib.indexByte s.data.toList 0 < 0))) := by
            show _ = _
            rw [← hr, ← Bool.decide_and]
            exact decide_eq_decide.2 ⟨fun h => ⟨(ixb_neg _ _).2 h.2.2.2.2.1, (ixb_neg _ _).2 h.2.2.2.2.2⟩, fun h => ⟨by omega, by omega, h3, h4, (ixb_neg _ _).1 h.1, (ixb_neg _ _).1 h.2⟩⟩
          obtain ⟨i1, hi1⟩ : ∃ i, Lib.indexByte s.data.toList 47 = i := ⟨_, rfl⟩
          obtain ⟨i2, hi2⟩ : ∃ i, Lib.indexByte s.data.toList 0 = i := ⟨_, rfl⟩
          rw [hi1, hi2] at hfin
          have HI1 : Hid (∀ W, Calls Tryd.prog 84 #[.string s, .int .u8 47] W fun e w' => e = .returned (.int .i64 i1) ∧ w' = W) := fun W => by
            have h := Tryd.strings_IndexByte s 47 W
            rw [show (47 : Int).toNat.toUInt8 = 47 from rfl, hi1] at h
            exact h
          have HI2 : Hid (∀ W, Calls Tryd.prog 84 #[.string s, .int .u8 0] W fun e w' => e = .returned (.int .i64 i2) ∧ w' = W) := fun W => by
            have h := Tryd.strings_IndexByte s 0 W
            rw [show (0 : Int).toNat.toUInt8 = 0 from rfl, hi2] at h
            exact h
          clear hr h1 h2 h3 h4 hz hi1 hi2
          by_cases g1 : i1 < 0
          · go_enter Tryd.func78, Tryd.ntmps78
            go_wp2_with fail
            refine (HI1.out w).mono ?_
            rintro e w' ⟨rfl, rfl⟩
            go_wp2_with fail
            refine (HI2.out _).mono ?_
            rintro e w2 ⟨rfl, rfl⟩
            go_wp2
            go_ret
            exact ⟨ret_bool (by rw [hfin.out]; simp [g1]), rfl⟩
          · have g2 : decide (i1 < 0) = false := by simpa using g1
            go_enter Tryd.func78, Tryd.ntmps78
            go_wp2_with fail
            refine (HI1.out w).mono ?_
            rintro e w' ⟨rfl, rfl⟩
            go_wp2
            go_ret
            exact ⟨ret_bool (by rw [hfin.out, g2]; rfl), rfl⟩

theorem nm_take (l : List UInt8) (k : Nat) (h : k < l.length) (c : UInt8) (hk : c ∉ l.take k) (hc : l[k] ≠ c) : c ∉ l.take (k + 1) := by
  rw [List.take_succ_eq_append_getElem h]
  simp only [List.mem_append, List.mem_singleton, not_or]
  exact ⟨hk, fun e => hc e.symm⟩

set_option maxRecDepth 100000 in
set_option maxHeartbeats 2000000 in
theorem rname_any (s : ByteArray) (w : World) (hs : s.size ≤ maxLen) :
    Calls Tryd.prog 63 #[.string s] w fun e w' => e = .returned (.bool (isNm s.data.toList)) ∧ w' = w := by
  obtain ⟨r, hr⟩ : ∃ r, isNm s.data.toList = r := ⟨_, rfl⟩
  rw [hr]
  have HR := Lib.hid hr
  have hz : s.data.toList.length = s.size := by simp
  have HZ := Lib.hid hz
  have hs0 := hs
  unfold maxLen at hs
  clear hr hz
  go_enter Tryd.func63, Tryd.ntmps63
  go_wp2_with fail
  go_loop [3] (fun i => ∃ k : Nat, k ≤ s.size ∧ i = .int .i64 k ∧ Hid ((47 : UInt8) ∉ s.data.toList.take k ∧ (0 : UInt8) ∉ s.data.toList.take k)) (fun i => s.size - (intOf i).toNat)
  case atStart => exact ⟨0, Nat.zero_le _, rfl, by simp, by simp⟩
  case round =>
    obtain ⟨k, hk, rfl, hh⟩ := hrel
    by_cases hlt : k < s.size
    · have hkl : k < s.data.toList.length := by rw [HZ.out]; exact hlt
      have hi : (k : Int) < (s.size : Int) := by omega
      have hmem : s[k] ∈ s.data.toList := Array.getElem_mem_toList _
      have hge : s.data.toList[k] = s[k] := rfl
      by_cases h47 : s[k] = 47
      · have e1 : ((s[k].toNat : Int) == 47) = true := by rw [h47]; rfl
        have hrf : Hid (r = false) := by
          show _ = _
          rw [← HR.out]
          exact decide_eq_false (fun h => h.2.2.2.2.1 (by rw [← h47]; exact hmem))
        clear h47 hmem hge
        go_wp2
        go_ret
        exact ⟨ret_bool hrf.out.symm, rfl⟩
      · have e1 : ((s[k].toNat : Int) == 47) = false := by
          rw [beq_eq_false_iff_ne]
          intro e
          exact h47 (UInt8.toNat_inj.1 (by show _ = 47; omega))
        by_cases h0 : s[k] = 0
        · have e2 : ((s[k].toNat : Int) == 0) = true := by rw [h0]; rfl
          have hrf : Hid (r = false) := by
            show _ = _
            rw [← HR.out]
            exact decide_eq_false (fun h => h.2.2.2.2.2 (by rw [← h0]; exact hmem))
          clear h47 h0 hmem hge
          go_wp2
          go_ret
          exact ⟨ret_bool hrf.out.symm, rfl⟩
        · have e2 : ((s[k].toNat : Int) == 0) = false := by
            rw [beq_eq_false_iff_ne]
            intro e
            exact h0 (UInt8.toNat_inj.1 (by show _ = 0; omega))
          have hn : Hid ((47 : UInt8) ∉ s.data.toList.take (k + 1) ∧ (0 : UInt8) ∉ s.data.toList.take (k + 1)) :=
            ⟨nm_take _ k hkl _ hh.out.1 (by rw [hge]; exact h47), nm_take _ k hkl _ hh.out.2 (by rw [hge]; exact h0)⟩
          clear h47 h0 hmem hge
          go_wp2
          go_round
          case rel => exact ⟨k + 1, by omega, by go_num, hn⟩
          case measure => simp [intOf]; omega
    · have hkn : k = s.size := by omega
      have hno : Hid ((47 : UInt8) ∉ s.data.toList ∧ (0 : UInt8) ∉ s.data.toList) := by
        have := hh.out
        rw [List.take_of_length_le (by rw [HZ.out]; omega)] at this
        exact this
      have hfin : Hid (r = (decide (1 ≤ s.size) && decide (s.size ≤ 16) && !(s.toList == [46]) && !(s.toList == [46, 46]))) := by
        show _ = _
        rw [← HR.out, Lib.toList_data]
        unfold isNm
        rw [Bool.eq_iff_iff]
        simp only [decide_eq_true_eq, Bool.and_eq_true, Bool.not_eq_true', beq_eq_false_iff_ne, HZ.out]
        exact ⟨fun h => ⟨⟨⟨h.1, h.2.1⟩, h.2.2.1⟩, h.2.2.2.1⟩, fun h => ⟨h.1.1.1, h.1.1.2, h.1.2, h.2, hno.out.1, hno.out.2⟩⟩
      subst hkn
      clear hlt
      go_wp2
      all_goals
        go_ret
        refine ⟨ret_bool ?_, rfl⟩
        rw [hfin.out]
        first
          | (have h : ¬ (1 ≤ s.size) := by omega
             rw [decide_eq_false h]; rfl)
          | (have h : ¬ (s.size ≤ 16) := by omega
             rw [decide_eq_false h, Bool.and_false]; rfl)
          | (have h1 : 1 ≤ s.size := by omega
             have h2 : s.size ≤ 16 := by omega
             have h3 : s.toList = [46] := by assumption
             rw [decide_eq_true h1, decide_eq_true h2, h3]; rfl)
          | (have h1 : 1 ≤ s.size := by omega
             have h2 : s.size ≤ 16 := by omega
             rw [decide_eq_true h1, decide_eq_true h2, Bool.true_and, Bool.true_and])
end Go.Proofs.YtjkilpjdgjijiaaDoor
