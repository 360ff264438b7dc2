/- tidelineref11.First. -/
import Derived.Test.YtohahhijbneheaaDoorPlanB
namespace Go.Proofs.YtohahhijbneheaaDoor
open Go.RowKit
set_option linter.unusedVariables false
attribute [local go_sem] Oper.semAt_some

set_option maxRecDepth 100000 in
set_option maxHeartbeats 1000000 in
theorem rfirst_bad (u c : Int) (h : u < 1 ∨ 7 < u ∨ c < 1 ∨ u < c) (w : World) :
    Calls Tryd.prog 12 #[.int .i64 u, .int .i64 c] w fun e w' => NewPlan w.heap.size 0 [] 1 e w' ∧ Below w.heap.size w w' := by
  have hz := (Obj1.new w 24 #[.int .i64 0, .slice none 0 0]).alloc (.cells #[.int .i64 0, .slice none 0 0] 24)
  have HZ := Lib.hid hz
  have HB : Hid (Below w.heap.size w ((w.alloc (.cells #[.int .i64 0, .slice none 0 0] 24)).alloc (.cells #[.int .i64 0, .slice none 0 0] 24))) := ((Below.refl _ _).alloc (Nat.le_refl _) _).alloc (by simp) _
  clear hz
  by_cases t1 : u < 1
  · go_enter Tryd.func12, Tryd.ntmps12
    go_wp2_with fail
    refine bodyPost_ret (v := .tuple #[.agg #[.int .i64 0, .slice none 0 0], .int .i64 1]) (results_row_tmp Tryd.results12 _ _ w.heap.size 24 #[.int .i64 0, .slice none 0 0] (0, 0) _ _ rfl rfl HZ.out Tryd.underlying24 rfl (by kernel_rfl)) rfl ?_
    exact ⟨NewPlan.nil _ 1 _, HB.out⟩
  by_cases t2 : 7 < u
  · go_enter Tryd.func12, Tryd.ntmps12
    go_wp2_with fail
    refine bodyPost_ret (v := .tuple #[.agg #[.int .i64 0, .slice none 0 0], .int .i64 1]) (results_row_tmp Tryd.results12 _ _ w.heap.size 24 #[.int .i64 0, .slice none 0 0] (0, 0) _ _ rfl rfl HZ.out Tryd.underlying24 rfl (by kernel_rfl)) rfl ?_
    exact ⟨NewPlan.nil _ 1 _, HB.out⟩
  by_cases t3 : c < 1
  · go_enter Tryd.func12, Tryd.ntmps12
    go_wp2_with fail
    refine bodyPost_ret (v := .tuple #[.agg #[.int .i64 0, .slice none 0 0], .int .i64 1]) (results_row_tmp Tryd.results12 _ _ w.heap.size 24 #[.int .i64 0, .slice none 0 0] (0, 0) _ _ rfl rfl HZ.out Tryd.underlying24 rfl (by kernel_rfl)) rfl ?_
    exact ⟨NewPlan.nil _ 1 _, HB.out⟩
  have t4 : u < c := by omega
  go_enter Tryd.func12, Tryd.ntmps12
  go_wp2_with fail
  refine bodyPost_ret (v := .tuple #[.agg #[.int .i64 0, .slice none 0 0], .int .i64 1]) (results_row_tmp Tryd.results12 _ _ w.heap.size 24 #[.int .i64 0, .slice none 0 0] (0, 0) _ _ rfl rfl HZ.out Tryd.underlying24 rfl (by kernel_rfl)) rfl ?_
  exact ⟨NewPlan.nil _ 1 _, HB.out⟩
theorem unit_step (j c : Nat) (m : Nat) : (List.range (m + 1)).map (fun i => Int.ofNat (j + i * c)) = (List.range m).map (fun i => Int.ofNat (j + i * c)) ++ [((j + m * c : Nat) : Int)] := by
  rw [List.range_succ, List.map_append]
  rfl

set_option maxRecDepth 100000 in
set_option maxHeartbeats 4000000 in
theorem rfirst_ok (u c : Nat) (hu : u ≤ 7) (hc : 1 ≤ c) (hcu : c ≤ u) (w : World) :
    Calls Tryd.prog 12 #[.int .i64 (u : Int), .int .i64 (c : Int)] w fun e w' => NewPlan w.heap.size 0 (firstP u c) 0 e w' ∧ Below w.heap.size w w' := by
  have c1 : ¬ ((u : Int) < 1) := by omega
  have c2 : ¬ ((7 : Int) < (u : Int)) := by omega
  have c3 : ¬ ((c : Int) < 1) := by omega
  have c4 : ¬ ((u : Int) < (c : Int)) := by omega
  have HC := Lib.hid hc
  have HU := Lib.hid hu
  have HCU := Lib.hid hcu
  clear hc hu hcu
  go_enter Tryd.func12, Tryd.ntmps12
  go_wp2_with fail
  have HST : Hid (ColZ w 0 (w.heap.size + 1) w.heap.size (.slice none 0 0) [] ((w.alloc (.cells #[.int .i64 0, .slice none 0 0] 24)).alloc (.cells #[.int .i64 0, .slice none 0 0] 24))) := by
    have h1 := ColS.start (base := w.heap.size) (e := 0) (w.alloc (.cells #[.int .i64 0, .slice none 0 0] 24)) (by simp)
    rw [World.size_alloc] at h1
    exact ⟨h1, (Obj1.new w _ _).alloc _, by omega, ((Below.refl _ _).alloc (Nat.le_refl _) _).alloc (by simp) _⟩
  go_loopw [7] (fun s wr => ∃ (k : Nat) (v : Value) (rs : List Ch), k ≤ c ∧ s = .int .i64 (k : Int) ∧ Hid (rs.map (·.l) = (List.range k).map (fun j => unitsOf c j u)) ∧ Hid (ColZ w 0 (w.heap.size + 1) w.heap.size v rs wr)) (fun s _ => c - (intOf s).toNat)
  case atStart => exact ⟨0, _, [], Nat.zero_le _, rfl, Lib.hid rfl, HST⟩
  case round =>
    clear HST
    obtain ⟨k, v, rs, hk, rfl, hls, hS⟩ := hrel
    obtain ⟨A0, c0, rfl⟩ := own_form hS.out.col.row
    by_cases hlt : k < c
    · have hi1 : (k : Int) < (c : Int) := by omega
      have hrl : rs.length = k := by have h := congrArg List.length hls.out; simpa using h
      have HRL := Lib.hid hrl
      clear hrl
      go_wp2_with fail
      have HIN := Lib.hid (InnS.start wr)
      obtain ⟨W0, hW0⟩ : ∃ X, wr = X := ⟨_, rfl⟩
      rw [hW0] at hS HIN ⊢
      clear hW0 wr
      go_loopw [8, 9] (fun s8 s9 wr => ∃ m : Nat, m ≤ 7 ∧ (m = 0 ∨ k + (m - 1) * c < u) ∧ s9 = .int .i64 ((k + m * c : Nat) : Int) ∧ Hid (InnS W0 ((List.range m).map (fun i => Int.ofNat (k + i * c))) s8 wr)) (fun _ s9 _ => u - (intOf s9).toNat)
      case atStart => exact ⟨0, Nat.zero_le _, .inl rfl, by simp, HIN⟩
      case round =>
        clear HIN
        obtain ⟨m, hm, hml, rfl, hI⟩ := hrel
        obtain ⟨A1, cc1, rfl⟩ := own_form hI.out.row
        obtain ⟨x, hx⟩ : ∃ x, k + m * c = x := ⟨_, rfl⟩
        obtain ⟨L, hL⟩ : ∃ L, (List.range m).map (fun i => Int.ofNat (k + i * c)) = L := ⟨_, rfl⟩
        have hLl : L.length = m := by rw [← hL]; simp
        have HX := Lib.hid hx
        have HLL := Lib.hid hLl
        rw [hx]
        rw [hL] at hI ⊢
        rw [hLl]
        have hc7 : c ≤ 7 := Nat.le_trans HCU.out HU.out
        by_cases hlt2 : x < u
        · have hi2 : (x : Int) < (u : Int) := by omega
          have hu7 := HU.out
          have hm7 : m + 1 ≤ 7 := by
            rw [← hx] at hlt2
            have h1 := HC.out
            have h2 : m * 1 ≤ m * c := Nat.mul_le_mul_left m h1
            omega
          have hx7 : ¬ ((7 : Int) < (x : Int)) := by omega
          have hc7i : ¬ ((7 : Int) < (c : Int)) := by omega
          have HM7 := Lib.hid hm7
          have HXU := Lib.hid hlt2
          have HNX : Hid ((List.range (m + 1)).map (fun i => Int.ofNat (k + i * c)) = L ++ [(x : Int)]) := by
            show _ = _
            rw [unit_step, hL, hx]
          have H63 : Hid (m + 1 ≤ maxLen) := by show _ ≤ _; unfold maxLen; omega
          have HBY : Hid ((m + 1) * 8 ≤ 140737488355328) := by show _ ≤ _; omega
          have HSZ : Hid (W0.heap.size ≤ wr.heap.size) := hI.out.bel.size
          have HROW := Lib.hid hI.out.row
          rw [hLl] at HROW
          clear hx hL hLl hml hm hm7 hlt2
          go_wp2_with (at_builtin; obtain ⟨i0, hi, hz0, hz1, hz2⟩ := info_parts info_int; refine wpList_append_own _ rfl _ _ 25 rfl W0.heap.size 3 i0 (.int .i64 0) 1 8 Tryd.underlying25 hi hz0 hz1 hz2 rfl (by decide) (.slice A1 m cc1) m (iv L) rfl (HROW.out.alloc _) ⟨wr.heap.size, 0, none⟩ 1 1 [.int .i64 (x : Int)] rfl rfl (World.news_of_block (cs := #[.int .i64 (x : Int)]) (t := 3) (fr := (0, 0)) (heap_alloc_new wr _)) (by simp [Value.oneCell']) H63.out HBY.out (by have := HSZ.out; simp; omega) ?_; intro v' w2 hown5 hgrow5 hnil5; have HG5 := Lib.hid hgrow5; have HO5 := Lib.hid hown5; clear hi hz0 hz1 hz2 i0 hgrow5 hown5 hnil5)
          rw [← HLL.out] at HO5 HG5
          have HIX := Lib.hid (hI.out.snoc HO5.out HG5.out)
          rw [← HNX.out] at HIX
          have hxc : Hid ((x : Int) + (c : Int) = ((k + (m + 1) * c : Nat) : Int)) := by
            show _ = _
            have h1 := HX.out
            rw [Nat.add_mul, Nat.one_mul]
            omega
          go_roundw
          case rel => exact ⟨m + 1, HM7.out, .inr (by rw [Nat.add_sub_cancel, HX.out]; exact HXU.out), by first | rw [← hxc.out] | (rw [← hxc.out]; rfl), HIX⟩
          case measure => simp [intOf]; omega
        · have hend : ¬ ((x : Int) < (u : Int)) := by omega
          have hu7 := HU.out
          have hm8 : m < 8 := by omega
          have hun := arith_units (u := u) (c := c) (j := k) (m := m) (by omega) (by omega) (by omega) hm8 HC.out hlt (by rw [hx]; omega) hml
          rw [hL] at hun
          have HUN := Lib.hid hun
          have H63 : Hid (rs.length + 1 ≤ maxLen) := by show _ ≤ _; rw [HRL.out]; unfold maxLen; omega
          have HBY : Hid ((rs.length + 1) * 24 ≤ 140737488355328) := by show _ ≤ _; rw [HRL.out]; omega
          have HCB := Lib.hid (hS.out.below hI.out.bel)
          have HSZ : Hid (w.heap.size ≤ wr.heap.size) := HCB.out.bel.size
          have HROW := Lib.hid HCB.out.col.row
          have hbn := HCB.out.col.n.blk
          have hbn1 := hbn.cell 1
          have hbnf := hbn.free 1
          have hbnl := hbn.lt
          have hm7i : ¬ ((7 : Int) < (m : Int)) := by omega
          clear hx hL hLl hml hm hun hbn hm8
          go_wp2_with (at_builtin; obtain ⟨i0, hi, hz0, hz1, hz2⟩ := info_parts info_ints; refine wpList_append_own _ rfl _ _ 22 rfl w.heap.size 25 i0 (.slice none 0 0) 1 24 Tryd.underlying22 hi hz0 hz1 hz2 rfl (by decide) (.slice A0 rs.length c0) rs.length (rs.map Ch.val) rfl (HROW.out.alloc _) ⟨wr.heap.size, 0, none⟩ 1 1 [.slice A1 m cc1] rfl rfl (cell_one_new wr _ _) (by simp [Value.oneCell']) H63.out HBY.out (by have := HSZ.out; simp; omega) ?_; intro v' w2 hown5 hgrow5 hnil5; obtain ⟨A5, c5, rfl⟩ := own_form hown5; have HQ := HCB.out.col.bn2 hgrow5; have hq1 := HQ.1; have hq2 := HQ.2; have HG5 := Lib.hid hgrow5; have HO5 := Lib.hid hown5; clear hi hz0 hz1 hz2 i0 hgrow5 hown5 hnil5 HQ)
          rw [← HLL.out] at HO5
          have HCL := Lib.hid (hS.out.close hI.out HG5.out HO5.out)
          have HLN : Hid ((rs ++ [(⟨A1, cc1, L⟩ : Ch)]).map (·.l) = (List.range (k + 1)).map (fun j => unitsOf c j u)) := by
            show _ = _
            rw [List.map_append, hls.out, List.range_succ, List.map_append]
            show _ ++ [L] = _
            rw [HUN.out]
            rfl
          go_roundw
          case rel => exact ⟨k + 1, _, _, by omega, by go_num, HLN, HCL⟩
          case measure => simp [intOf]; omega
    · obtain rfl : k = c := by omega
      have hend : ¬ ((k : Int) < (k : Int)) := by omega
      have hzb := hS.out.z.blk
      have hz0 := hzb.cell 0
      have hz1 := hzb.cell 1
      have hzf := hzb.free
      have hzl := hzb.lt
      have hnb := hS.out.col.n.blk
      have hn0 := hnb.cell 0
      have hn1 := hnb.cell 1
      have HZO := Lib.hid hS.out.z
      have HDN := Lib.hid (hS.out.done (k := 0) (.int .i64 0) (.slice A0 rs.length c0))
      rw [hls.out] at HDN
      clear hzb hnb
      go_wp2_with fail
      refine bodyPost_ret (v := .tuple #[.agg #[.int .i64 0, .slice A0 rs.length c0], .int .i64 0]) (results_row_tmp Tryd.results12 _ _ w.heap.size 24 #[.int .i64 0, .slice A0 rs.length c0] (0, 0) _ _ rfl rfl (blk_set (blk_set HZO.out _) _) Tryd.underlying24 rfl (by kernel_rfl)) rfl ?_
      exact ⟨HDN.out, (hS.out.bel.setCell (p := ⟨w.heap.size, 0, none⟩) (Nat.le_refl _) _).setCell (p := ⟨w.heap.size, 1, none⟩) (Nat.le_refl _) _⟩
end Go.Proofs.YtohahhijbneheaaDoor
