/- tidelineref11.Next; plan.Next of a plan that has none. -/
import Derived.Test.YtohahhijbneheaaDoorPrA
namespace Go.Proofs.YtohahhijbneheaaDoor
open Go.RowKit
set_option linter.unusedVariables false
attribute [local go_sem] Oper.semAt_some

theorem NewPlan.mono {n0 n1 : Nat} {e k : Int} {cs : List (List Int)} {en : Ending} {w' : World} (h : NewPlan n0 e cs k en w') (hn : n1 ≤ n0) : NewPlan n1 e cs k en w' := by
  obtain ⟨A, c, rs, h1, h2, h3, h4⟩ := h
  exact ⟨A, c, rs, h1, h2, h3, h4.1.mono hn, fun r hr => (h4.2 r hr).mono hn⟩
theorem nextP_bad {e : Int} {cs : List (List Int)} {t : List Int} (h : rightP e cs = false ∨ e = 2147483647) : nextP e cs t = (0, [], 1) := if_pos h
theorem stay_snoc2 (t l : List Int) (x : Int) : stayP t (l ++ [x]) = if x ∈ t then stayP t l ++ [x] else stayP t l := by
  unfold stayP
  rw [List.filter_append]
  by_cases h : x ∈ t
  · simp [h]
  · simp [h]
theorem stay_len (t l : List Int) : (stayP t l).length ≤ l.length := List.length_filter_le _ _
theorem mem_snoc {x y : Int} {l m : List Int} (h : m = l ++ [y]) : decide (x ∈ m) = (decide (x ∈ l) || decide (y = x)) := by
  rw [Bool.eq_iff_iff]
  subst h
  simp
  constructor
  · rintro (h | h)
    · exact .inl h
    · exact .inr h.symm
  · rintro (h | h)
    · exact .inl h
    · exact .inr h.symm

set_option maxRecDepth 100000 in
set_option maxHeartbeats 4000000 in
theorem rnext_bad (e : Int) (A : Option Addr) (c : Nat) (rs : List Ch) (B : Nat) (TA : Option Addr) (tc tn : Nat) (w : World) (hm : Mem w B A rs) (hB : B ≤ w.heap.size)
    (hr : rightP e (rs.map (·.l)) = false ∨ e = 2147483647) :
    Calls Tryd.prog 14 #[.agg #[.int .i64 e, .slice A rs.length c], .slice TA tn tc] w fun en w' => NewPlan w.heap.size 0 [] 1 en w' ∧ Below w.heap.size w w' := by
  have hright := fun (W : World) (hb : Below B w W) (h : B ≤ W.heap.size) => rright_any e A c rs B W (hm.below hb).sl (hm.below hb).ok h
  have HRT := Lib.hid hright
  obtain ⟨ls, hls⟩ : ∃ ls, rs.map (·.l) = ls := ⟨_, rfl⟩
  rw [hls] at HRT hr
  clear hm hright hls
  have hb0 : Below w.heap.size w ((w.alloc (.cells #[.int .i64 e, .slice A rs.length c] 24)).alloc (.cells #[.int .i64 0, .slice none 0 0] 24)) := ((Below.refl _ _).alloc (Nat.le_refl _) _).alloc (by simp) _
  have hbx := (Blk.new w #[.int .i64 e, .slice A rs.length c] 24).alloc (.cells #[.int .i64 0, .slice none 0 0] 24)
  have hz := Obj1.new (w.alloc (.cells #[.int .i64 e, .slice A rs.length c] 24)) 24 #[.int .i64 0, .slice none 0 0]
  rw [World.size_alloc] at hz
  have HB0 := Lib.hid hb0
  have HBX := Lib.hid hbx
  have HZ := Lib.hid hz
  clear hb0 hbx hz
  by_cases t1 : rightP e ls = true
  · have he : e = 2147483647 := by
      rcases hr with h | h
      · rw [h] at t1; cases t1
      · exact h
    subst he
    rw [t1] at HRT
    clear t1 hr
    go_enter Tryd.func14, Tryd.ntmps14
    go_wp2_with fail
    refine (HRT.out _ (HB0.out.mono hB) (by simp only [World.size_alloc]; omega)).mono ?_
    rintro en W1 ⟨rfl, hb1⟩
    have hp0 := (HBX.out.belowAll hb1).cell 0
    have hz1 := HZ.out.below hb1 HZ.out.lt
    have hz0 := hz1.blk.cell 0
    have hz2 := hz1.blk.cell 1
    have hzf := hz1.blk.free
    have hzl := hz1.lt
    have HZ1 := Lib.hid hz1
    have HB1 := Lib.hid (HB0.out.trans (hb1.mono HB0.out.size))
    clear hz1 hb1
    go_wp2_with fail
    refine bodyPost_ret (v := .tuple #[.agg #[.int .i64 0, .slice none 0 0], .int .i64 1]) (results_row_tmp Tryd.results14 _ _ (w.heap.size + 1) 24 #[.int .i64 0, .slice none 0 0] (0, 0) _ _ rfl rfl (blk_set (blk_set HZ1.out _) _) Tryd.underlying24 rfl (by kernel_rfl)) rfl ?_
    exact ⟨NewPlan.nil _ 1 _, (HB1.out.setCell (p := ⟨w.heap.size + 1, 0, none⟩) (Nat.le_succ _) _).setCell (p := ⟨w.heap.size + 1, 1, none⟩) (Nat.le_succ _) _⟩
  · have t2 : rightP e ls = false := by simpa using t1
    rw [t2] at HRT
    clear t1 t2 hr
    go_enter Tryd.func14, Tryd.ntmps14
    go_wp2_with fail
    refine (HRT.out _ (HB0.out.mono hB) (by simp only [World.size_alloc]; omega)).mono ?_
    rintro en W1 ⟨rfl, hb1⟩
    have hz1 := HZ.out.below hb1 HZ.out.lt
    have hz0 := hz1.blk.cell 0
    have hz2 := hz1.blk.cell 1
    have hzf := hz1.blk.free
    have hzl := hz1.lt
    have HZ1 := Lib.hid hz1
    have HB1 := Lib.hid (HB0.out.trans (hb1.mono HB0.out.size))
    clear hz1 hb1
    go_wp2_with fail
    refine bodyPost_ret (v := .tuple #[.agg #[.int .i64 0, .slice none 0 0], .int .i64 1]) (results_row_tmp Tryd.results14 _ _ (w.heap.size + 1) 24 #[.int .i64 0, .slice none 0 0] (0, 0) _ _ rfl rfl (blk_set (blk_set HZ1.out _) _) Tryd.underlying24 rfl (by kernel_rfl)) rfl ?_
    exact ⟨NewPlan.nil _ 1 _, (HB1.out.setCell (p := ⟨w.heap.size + 1, 0, none⟩) (Nat.le_succ _) _).setCell (p := ⟨w.heap.size + 1, 1, none⟩) (Nat.le_succ _) _⟩

set_option maxRecDepth 100000 in
set_option maxHeartbeats 4000000 in
theorem next_bad (e : Int) (A : Option Addr) (c : Nat) (rs : List Ch) (B : Nat) (TA : Option Addr) (tc tn : Nat) (w : World) (hm : Mem w B A rs) (hB : B ≤ w.heap.size)
    (hr : rightP e (rs.map (·.l)) = false ∨ e = 2147483647) :
    Calls Tryd.prog 13 #[.agg #[.int .i64 e, .slice A rs.length c], .slice TA tn tc] w fun en w' => NewPlan w.heap.size 0 [] 1 en w' ∧ Below w.heap.size w w' := by
  have hright := fun (W : World) (hb : Below B w W) (h : B ≤ W.heap.size) => right_any e A c rs B W (hm.below hb).sl (hm.below hb).ok h
  have HRT := Lib.hid hright
  obtain ⟨ls, hls⟩ : ∃ ls, rs.map (·.l) = ls := ⟨_, rfl⟩
  rw [hls] at HRT hr
  clear hm hright hls
  have hb0 : Below w.heap.size w (((w.alloc (.cells #[.int .i64 e, .slice A rs.length c] 24)).alloc (.cells #[.slice TA tn tc] 25)).alloc (.cells #[.int .i64 0, .slice none 0 0] 24)) := (((Below.refl _ _).alloc (Nat.le_refl _) _).alloc (by simp) _).alloc (by simp; omega) _
  have hbx := ((Blk.new w #[.int .i64 e, .slice A rs.length c] 24).alloc (.cells #[.slice TA tn tc] 25)).alloc (.cells #[.int .i64 0, .slice none 0 0] 24)
  have hz := Obj1.new ((w.alloc (.cells #[.int .i64 e, .slice A rs.length c] 24)).alloc (.cells #[.slice TA tn tc] 25)) 24 #[.int .i64 0, .slice none 0 0]
  rw [World.size_alloc, World.size_alloc] at hz
  have HB0 := Lib.hid hb0
  have HBX := Lib.hid hbx
  have HZ := Lib.hid hz
  clear hb0 hbx hz
  by_cases t1 : rightP e ls = true
  · have he : e = 2147483647 := by
      rcases hr with h | h
      · rw [h] at t1; cases t1
      · exact h
    subst he
    rw [t1] at HRT
    clear t1 hr
    go_enter Tryd.func13, Tryd.ntmps13
    go_wp2_with fail
    refine (HRT.out _ (HB0.out.mono hB) (by simp only [World.size_alloc]; omega)).mono ?_
    rintro en W1 ⟨rfl, hb1⟩
    have hp0 := (HBX.out.belowAll hb1).cell 0
    have hz1 := HZ.out.below hb1 HZ.out.lt
    have hz0 := hz1.blk.cell 0
    have hz2 := hz1.blk.cell 1
    have hzf := hz1.blk.free
    have hzl := hz1.lt
    have HZ1 := Lib.hid hz1
    have HB1 := Lib.hid (HB0.out.trans (hb1.mono HB0.out.size))
    clear hz1 hb1
    go_wp2_with fail
    refine bodyPost_ret (v := .tuple #[.agg #[.int .i64 0, .slice none 0 0], .int .i64 1]) (results_row_tmp Tryd.results13 _ _ (w.heap.size + 1 + 1) 24 #[.int .i64 0, .slice none 0 0] (0, 0) _ _ rfl rfl (blk_set (blk_set HZ1.out _) _) Tryd.underlying24 rfl (by kernel_rfl)) rfl ?_
    exact ⟨NewPlan.nil _ 1 _, (HB1.out.setCell (p := ⟨w.heap.size + 1 + 1, 0, none⟩) (by show _ ≤ w.heap.size + 1 + 1; omega) _).setCell (p := ⟨w.heap.size + 1 + 1, 1, none⟩) (by show _ ≤ w.heap.size + 1 + 1; omega) _⟩
  · have t2 : rightP e ls = false := by simpa using t1
    rw [t2] at HRT
    clear t1 t2 hr
    go_enter Tryd.func13, Tryd.ntmps13
    go_wp2_with fail
    refine (HRT.out _ (HB0.out.mono hB) (by simp only [World.size_alloc]; omega)).mono ?_
    rintro en W1 ⟨rfl, hb1⟩
    have hz1 := HZ.out.below hb1 HZ.out.lt
    have hz0 := hz1.blk.cell 0
    have hz2 := hz1.blk.cell 1
    have hzf := hz1.blk.free
    have hzl := hz1.lt
    have HZ1 := Lib.hid hz1
    have HB1 := Lib.hid (HB0.out.trans (hb1.mono HB0.out.size))
    clear hz1 hb1
    go_wp2_with fail
    refine bodyPost_ret (v := .tuple #[.agg #[.int .i64 0, .slice none 0 0], .int .i64 1]) (results_row_tmp Tryd.results13 _ _ (w.heap.size + 1 + 1) 24 #[.int .i64 0, .slice none 0 0] (0, 0) _ _ rfl rfl (blk_set (blk_set HZ1.out _) _) Tryd.underlying24 rfl (by kernel_rfl)) rfl ?_
    exact ⟨NewPlan.nil _ 1 _, (HB1.out.setCell (p := ⟨w.heap.size + 1 + 1, 0, none⟩) (by show _ ≤ w.heap.size + 1 + 1; omega) _).setCell (p := ⟨w.heap.size + 1 + 1, 1, none⟩) (by show _ ≤ w.heap.size + 1 + 1; omega) _⟩
/-- plan.Next of any plan. -/
theorem next_any (e : Int) (A : Option Addr) (c : Nat) (rs : List Ch) (B : Nat) (TA : Option Addr) (tc : Nat) (t : List Int) (w : World) (hm : Mem w B A rs) (hB : B ≤ w.heap.size) (ht : Sl w B TA (iv t)) (htl : t.length ≤ maxLen) :
    Calls Tryd.prog 13 #[.agg #[.int .i64 e, .slice A rs.length c], .slice TA t.length tc] w fun en w' =>
      NewPlan w.heap.size (nextP e (rs.map (·.l)) t).1 (nextP e (rs.map (·.l)) t).2.1 (nextP e (rs.map (·.l)) t).2.2 en w' ∧ Below w.heap.size w w' := by
  by_cases h : rightP e (rs.map (·.l)) = false ∨ e = 2147483647
  · rw [nextP_bad h]
    exact next_bad e A c rs B TA tc t.length w hm hB h
  · exact next_ok e A c rs B TA tc t w hm hB ht htl (by cases q : rightP e (rs.map (·.l)); exact absurd (.inl q) h; rfl) (fun q => h (.inr q))
end Go.Proofs.YtohahhijbneheaaDoor
