/- tidelineref11.Same: are two plans one? -/
import Derived.Test.YtohahhijbneheaaDoorPlanR
import Derived.Test.YtohahhijbneheaaDoorPlanS
import Derived.Deep.RegionLaw
namespace Go.Proofs.YtohahhijbneheaaDoor
open Go.RowKit
set_option linter.unusedVariables false

set_option maxRecDepth 100000 in
set_option maxHeartbeats 4000000 in
theorem splan_any (e1 e2 : Int) (A1 A2 : Option Addr) (c1 c2 : Nat) (rs ts : List Ch) (B : Nat) (w : World) (h1 : Sl w B A1 (rs.map Ch.val)) (h2 : Sl w B A2 (ts.map Ch.val)) (k1 : ∀ r ∈ rs, r.Ok w B) (k2 : ∀ r ∈ ts, r.Ok w B) (hB : B ≤ w.heap.size) (hl : rs.length ≤ maxLen) :
    Calls Tryd.prog 15 #[.agg #[.int .i64 e1, .slice A1 rs.length c1], .agg #[.int .i64 e2, .slice A2 ts.length c2]] w fun en w' => en = .returned (.bool (decide (e1 = e2 ∧ rs.map (·.l) = ts.map (·.l)))) ∧ Below w.heap.size w w' := by
  unfold maxLen at hl
  have H1 := Lib.hid h1
  have H2 := Lib.hid h2
  have K1 := Lib.hid k1
  have K2 := Lib.hid k2
  clear h1 h2 k1 k2
  by_cases t1 : e1 = e2
  · by_cases t2 : rs.length = ts.length
    · have hn : (rs.length : Int) = (ts.length : Int) := by omega
      obtain ⟨n, hN⟩ : ∃ n, rs.length = n := ⟨_, rfl⟩
      have HN1 := Lib.hid hN
      have HN2 : Hid (ts.length = n) := by rw [← hN]; exact t2.symm
      rw [← t2, hN]
      rw [hN] at hl
      have h63 : (n : Int) ≤ 9223372036854775807 := by omega
      subst t1
      clear hn t2 hN
      go_enter Tryd.func15, Tryd.ntmps15
      go_wp2_with fail
      have hb0 : Below w.heap.size w ((w.alloc (.cells #[.int .i64 e1, .slice A1 n c1] 24)).alloc (.cells #[.int .i64 e1, .slice A2 n c2] 24)) := ((Below.refl _ _).alloc (Nat.le_refl _) _).alloc (by simp) _
      have hcA := ((Blk.new w #[.int .i64 e1, .slice A1 n c1] 24).alloc (.cells #[.int .i64 e1, .slice A2 n c2] 24)).cell 1
      have hcB := (Blk.new (w.alloc (.cells #[.int .i64 e1, .slice A1 n c1] 24)) #[.int .i64 e1, .slice A2 n c2] 24).cell 1
      rw [World.size_alloc] at hcB
      obtain ⟨W0, hW0⟩ : ∃ X, (w.alloc (.cells #[.int .i64 e1, .slice A1 n c1] 24)).alloc (.cells #[.int .i64 e1, .slice A2 n c2] 24) = X := ⟨_, rfl⟩
      rw [hW0] at hb0 hcA hcB ⊢
      clear hW0
      go_loopw [5] (fun s wr => ∃ j q : Nat, j ≤ n ∧ s = .int .i64 (j : Int) ∧ Hid ((rs.map (·.l)).take j = (ts.map (·.l)).take j) ∧ wr = W0.drewN q) (fun s _ => n - (intOf s).toNat)
      case atStart => exact ⟨0, 0, Nat.zero_le _, rfl, Lib.hid rfl, rfl⟩
      case round =>
        obtain ⟨j, q, hj, rfl, ht, rfl⟩ := hrel
        by_cases hlt : j < n
        · have hi1 : (j : Int) < (n : Int) := by omega
          have hjr : j < rs.length := by rw [HN1.out]; exact hlt
          have hjt : j < ts.length := by rw [HN2.out]; exact hlt
          obtain ⟨b1, o1, rfl, hb1, hr1⟩ := (H1.out.below (hb0.mono hB)).at (k := j) (by simpa using hjr)
          obtain ⟨b2, o2, rfl, hb2, hr2⟩ := (H2.out.below (hb0.mono hB)).at (k := j) (by simpa using hjt)
          rw [List.getElem_map] at hr1 hr2
          obtain ⟨g1, g2, g3⟩ := K1.out _ (List.getElem_mem hjr)
          obtain ⟨f1, f2, f3⟩ := K2.out _ (List.getElem_mem hjt)
          have hd : (rs.map (·.l)).take (j + 1) = (rs.map (·.l)).take j ++ [rs[j].l] := by rw [List.take_succ_eq_append_getElem (by simpa using hjr), List.getElem_map]
          have hd2 : (ts.map (·.l)).take (j + 1) = (ts.map (·.l)).take j ++ [ts[j].l] := by rw [List.take_succ_eq_append_getElem (by simpa using hjt), List.getElem_map]
          have hno : rs[j].l ≠ ts[j].l → ¬ (rs.map (·.l) = ts.map (·.l)) := fun hne e => hne (by
            have h := congrArg (fun x => x[j]?) e
            simpa [hjr, hjt] using h)
          obtain ⟨⟨P1, p1, l1⟩, hP1⟩ : ∃ r, rs[j] = r := ⟨_, rfl⟩
          obtain ⟨⟨P2, p2, l2⟩, hP2⟩ : ∃ r, ts[j] = r := ⟨_, rfl⟩
          rw [hP1] at hr1 g1 g2 g3 hd hno
          rw [hP2] at hr2 f1 f2 f3 hd2 hno
          replace hr1 : W0.cell? ⟨b1, o1 + j, none⟩ = some (.slice P1 l1.length p1) := hr1
          replace hr2 : W0.cell? ⟨b2, o2 + j, none⟩ = some (.slice P2 l2.length p2) := hr2
          have hsi := fun (x : Nat) => sints_any P1 P2 p1 p2 l1 l2 B (W0.drewN x) ((g1.below (hb0.mono hB)).drewN x) ((f1.below (hb0.mono hB)).drewN x) (Nat.le_trans g2 g3)
          have HD := Lib.hid hd
          have HD2 := Lib.hid hd2
          clear hP1 hP2 g1 g2 g3 f1 f2 f3 hd hd2
          by_cases he : l1 = l2
          · rw [decide_eq_true he] at hsi
            have HSI := Lib.hid hsi
            have HT : Hid ((rs.map (·.l)).take (j + 1) = (ts.map (·.l)).take (j + 1)) := by show _ = _; rw [HD.out, HD2.out, ht.out]; show _ ++ [l1] = _ ++ [l2]; rw [he]
            clear hsi he hno
            go_wp2_with fail
            go_region_law (go_simp; go_at_call 18; refine (HSI.out _).mono ?_; rintro en X ⟨rfl, x, rfl⟩)
            all_goals
              go_wp2
              go_roundw
              case rel => exact ⟨j + 1, _, by omega, by go_num, HT, by first | rfl | exact World.drewN_drewN _ _ _⟩
              case measure => simp [intOf]; omega
          · rw [decide_eq_false he] at hsi
            have HSI := Lib.hid hsi
            have HF : Hid (decide (e1 = e1 ∧ rs.map (·.l) = ts.map (·.l)) = false) := decide_eq_false (fun h => hno he h.2)
            clear hsi he hno
            go_wp2_with fail
            go_region_law (go_simp; go_at_call 18; refine (HSI.out _).mono ?_; rintro en X ⟨rfl, x, rfl⟩)
            all_goals
              go_wp2
              go_ret
              exact ⟨ret_bool HF.out.symm, by first | exact hb0.trans (bdrewN_refl _ _ _) | exact (hb0.trans (bdrewN_refl _ _ _)).trans (bdrewN_refl _ _ _)⟩
        · obtain rfl : j = n := by omega
          have hend : ¬ ((j : Int) < (j : Int)) := by omega
          have h := ht.out
          rw [List.take_of_length_le (by rw [List.length_map, HN1.out]; exact Nat.le_refl _), List.take_of_length_le (by rw [List.length_map, HN2.out]; exact Nat.le_refl _)] at h
          have HF : Hid (decide (e1 = e1 ∧ rs.map (·.l) = ts.map (·.l)) = true) := decide_eq_true ⟨rfl, h⟩
          clear h
          go_wp2_with fail
          go_ret
          exact ⟨ret_bool (by simpa using HF.out.symm), hb0.trans (bdrewN_refl _ _ _)⟩
    · have hn : ¬ ((rs.length : Int) = (ts.length : Int)) := by omega
      have HF : Hid (decide (e1 = e2 ∧ rs.map (·.l) = ts.map (·.l)) = false) := decide_eq_false (fun h => t2 (by have := congrArg List.length h.2; simpa using this))
      subst t1
      go_enter Tryd.func15, Tryd.ntmps15
      go_wp2_with fail
      go_ret
      exact ⟨ret_bool (by simpa using HF.out.symm), ((Below.refl _ _).alloc (Nat.le_refl _) _).alloc (by simp) _⟩
  · have HF : Hid (decide (e1 = e2 ∧ rs.map (·.l) = ts.map (·.l)) = false) := decide_eq_false (fun h => t1 h.1)
    go_enter Tryd.func15, Tryd.ntmps15
    go_wp2_with fail
    go_ret
    exact ⟨ret_bool HF.out.symm, ((Below.refl _ _).alloc (Nat.le_refl _) _).alloc (by simp) _⟩
end Go.Proofs.YtohahhijbneheaaDoor
