/- PlanTold: the walk. -/
import Derived.Test.YtohahhijbneheaaDoorPrB
import Derived.Test.YtohahhijbneheaaDoorPrC
import Derived.Test.YtohahhijbneheaaDoorPrE
import Derived.Test.YtohahhijbneheaaDoorPrG
import Derived.Test.YtohahhijbneheaaDoorPlanK
import Derived.Test.YtohahhijbneheaaDoorPlanG
import Derived.Test.YtohahhijbneheaaDoorPlanT
import Derived.Test.YtohahhijbneheaaDoorAppI
import Derived.Deep.CutRange
namespace Go.Proofs.YtohahhijbneheaaDoor
open Go.RowKit
set_option linter.unusedVariables false
attribute [local go_sem] Oper.semAt_some

/-- A plan in a block, its chains in memory. -/
structure PlanAt (W : World) (b : Nat) (e : Int) (A : Option Addr) (c : Nat) (rs : List Ch) : Prop where
  o : Obj1 W b 24 #[.int .i64 e, .slice A rs.length c]
  m : Mem W W.heap.size A rs
theorem PlanAt.below {W W' : World} {b : Nat} {e : Int} {A : Option Addr} {c : Nat} {rs : List Ch} (h : PlanAt W b e A c rs) (hb : Below W.heap.size W W') : PlanAt W' b e A c rs :=
  ⟨h.o.below hb h.o.lt, (h.m.below hb).more hb.size⟩
theorem PlanAt.new {W : World} {e : Int} {A : Option Addr} {c : Nat} {rs : List Ch} (h : Mem W W.heap.size A rs) : PlanAt (W.alloc (.cells #[.int .i64 e, .slice A rs.length c] 24)) W.heap.size e A c rs :=
  ⟨Obj1.new _ _ _, (h.below ((Below.refl _ _).alloc (Nat.le_refl _) _)).more (by simp)⟩
/-- First's answer. -/
def firstR (u c : Int) : List (List Int) × Int := if u < 1 ∨ 7 < u ∨ c < 1 ∨ u < c then ([], 1) else (firstP u.toNat c.toNat, 0)
theorem first_any (u c : Int) (w : World) : Calls Tryd.prog 11 #[.int .i64 u, .int .i64 c] w fun e w' => NewPlan w.heap.size 0 (firstR u c).1 (firstR u c).2 e w' ∧ Below w.heap.size w w' := by
  unfold firstR
  by_cases h : u < 1 ∨ 7 < u ∨ c < 1 ∨ u < c
  · rw [if_pos h]
    exact first_bad u c h w
  · rw [if_neg h]
    obtain ⟨p, rfl⟩ : ∃ p : Nat, u = (p : Int) := ⟨u.toNat, by omega⟩
    obtain ⟨q, rfl⟩ : ∃ q : Nat, c = (q : Int) := ⟨c.toNat, by omega⟩
    exact first_ok p q (by omega) (by omega) (by omega) w
theorem rfirst_any (u c : Int) (w : World) : Calls Tryd.prog 12 #[.int .i64 u, .int .i64 c] w fun e w' => NewPlan w.heap.size 0 (firstR u c).1 (firstR u c).2 e w' ∧ Below w.heap.size w w' := by
  unfold firstR
  by_cases h : u < 1 ∨ 7 < u ∨ c < 1 ∨ u < c
  · rw [if_pos h]
    exact rfirst_bad u c h w
  · rw [if_neg h]
    obtain ⟨p, rfl⟩ : ∃ p : Nat, u = (p : Int) := ⟨u.toNat, by omega⟩
    obtain ⟨q, rfl⟩ : ∃ q : Nat, c = (q : Int) := ⟨c.toNat, by omega⟩
    exact rfirst_ok p q (by omega) (by omega) (by omega) w
theorem same_plans {e : Int} {A1 A2 : Option Addr} {c1 c2 b1 b2 : Nat} {rs ts : List Ch} {W : World} (h1 : PlanAt W b1 e A1 c1 rs) (h2 : PlanAt W b2 e A2 c2 ts) (hl : rs.map (·.l) = ts.map (·.l)) (hn : rs.length ≤ maxLen) :
    Calls Tryd.prog 15 #[.agg #[.int .i64 e, .slice A1 rs.length c1], .agg #[.int .i64 e, .slice A2 ts.length c2]] W fun en w' => en = .returned (.bool true) ∧ Below W.heap.size W w' :=
  (splan_any e e A1 A2 c1 c2 rs ts W.heap.size W h1.m.sl h2.m.sl h1.m.ok h2.m.ok (Nat.le_refl _) hn).mono fun en w' ⟨he, hb⟩ => ⟨by rw [he, decide_eq_true ⟨rfl, hl⟩], hb⟩

set_option maxRecDepth 100000 in
set_option maxHeartbeats 8000000 in
theorem ptol_walk (u c e : Int) (A : Option Addr) (cc : Nat) (rs : List Ch) (z : Int) (TA : Option Addr) (tc : Nat) (t : List Int) (w : World) (hT : Tab w) (hm : Mem w w.heap.size A rs) (ht : Sl w w.heap.size TA (iv t)) (htn : TA = none → tc = 0) (htl : t.length ≤ maxLen) :
    Calls Tryd.prog 3 #[.int .i64 u, .int .i64 c, .agg #[.int .i64 e, .slice A rs.length cc], .int .i64 z, .slice TA t.length tc] w fun en w' => en = .returned (.bool true) ∧ Below w.heap.size w w' := by
  have HT := Lib.hid hT
  have HTS := Lib.hid ht
  have HTN := Lib.hid htn
  have HP0 := Lib.hid (PlanAt.new (e := e) (c := cc) hm)
  have HB0 : Hid (Below w.heap.size w (w.alloc (.cells #[.int .i64 e, .slice A rs.length cc] 24))) := (Below.refl _ _).alloc (Nat.le_refl _) _
  obtain ⟨n, hN⟩ : ∃ n, rs.length = n := ⟨_, rfl⟩
  have HN := Lib.hid hN
  obtain ⟨tn, hTL⟩ : ∃ n, t.length = n := ⟨_, rfl⟩
  have HTL := Lib.hid hTL
  rw [hN] at HB0 ⊢
  rw [hTL] at htl ⊢
  obtain ⟨W0, hW0⟩ : ∃ X, w.alloc (.cells #[.int .i64 e, .slice A n cc] 24) = X := ⟨_, rfl⟩
  rw [hN, hW0] at HP0
  rw [hW0] at HB0
  have HW0 := Lib.hid hW0
  clear hT hm ht htn hN hTL hW0
  go_enter Tryd.func3, Tryd.ntmps3
  go_wp2_with fail
  rw [HW0.out]
  have hpl0 := HP0.out.o.lt
  refine (speaks11 W0).mono ?_
  rintro en W1 ⟨rfl, hb1⟩
  have HP1 := Lib.hid (HP0.out.below hb1)
  have HB1 := Lib.hid (HB0.out.trans (hb1.mono HB0.out.size))
  have hc0 := HP1.out.o.blk.cell 0
  have hc1 := HP1.out.o.blk.cell 1
  rw [HN.out] at hc1
  clear hb1
  go_wp2_with fail
  have HG := Lib.hid (great_plan e A cc rs W1.heap.size W1 HP1.out.m (Nat.le_refl _))
  rw [HN.out] at HG
  refine HG.out.mono ?_
  rintro en W2 ⟨⟨b, rfl, hgr⟩, hb2⟩
  have HP2 := Lib.hid (HP1.out.below hb2)
  have HB2 := Lib.hid (HB1.out.trans (hb2.mono HB1.out.size))
  have HGR := Lib.hid hgr
  clear HG hgr hb2 hc0 hc1
  cases b with
  | true =>
    go_wp2_with fail
    go_ret
    exact ⟨rfl, HB2.out⟩
  | false =>
    by_cases ht30 : (30 : Int) < (tn : Int)
    · go_wp2_with fail
      go_ret
      exact ⟨rfl, HB2.out⟩
    obtain ⟨hg1, hg2⟩ := HGR.out rfl
    have HR12 : Hid (rs.length ≤ 12) := by rw [List.length_map] at hg1; exact hg1
    have H12 : Hid (∀ r ∈ rs, r.l.length ≤ 12) := fun r hr => hg2 _ (List.mem_map.2 ⟨r, hr, rfl⟩)
    have HT30 : Hid (tn ≤ 30) := by show _ ≤ _; omega
    clear hg1 hg2 HGR
    go_wp2_with fail
    refine (first_any u c W2).mono ?_
    rintro en W3 ⟨⟨A1, c1, rs1, rfl, hl1, hm1, -⟩, hb3⟩
    obtain ⟨k1, hk1⟩ : ∃ k, (firstR u c).2 = k := ⟨_, rfl⟩
    have HK1 := Lib.hid hk1
    have HL1 := Lib.hid hl1
    rw [hk1]
    have HPA := Lib.hid (PlanAt.new (e := 0) (c := c1) hm1)
    obtain ⟨n1, hN1⟩ : ∃ n, rs1.length = n := ⟨_, rfl⟩
    have HN1 := Lib.hid hN1
    have hbw3 : Below W2.heap.size W2 (W3.alloc (.cells #[.int .i64 0, .slice A1 rs1.length c1] 24)) := hb3.alloc hb3.size _
    have HP3 := Lib.hid (HP2.out.below hbw3)
    have HB3 := Lib.hid (HB2.out.trans (hbw3.mono HB2.out.size))
    rw [hN1] at HPA HP3 HB3 ⊢
    clear hl1 hm1 hb3 hbw3 hN1 hk1
    go_wp2_with fail
    obtain ⟨X3, hX3⟩ : ∃ X, W3.alloc (.cells #[.int .i64 0, .slice A1 n1 c1] 24) = X := ⟨_, rfl⟩
    rw [hX3] at HPA HP3 HB3 ⊢
    clear hX3
    refine (rfirst_any u c X3).mono ?_
    rintro en W4 ⟨⟨A2, c2, rs2, rfl, hl2, hm2, -⟩, hb4⟩
    have HL2 : Hid (rs1.map (·.l) = rs2.map (·.l)) := HL1.out.trans hl2.symm
    rw [HK1.out]
    have HPB := Lib.hid (PlanAt.new (e := 0) (c := c2) hm2)
    obtain ⟨n2, hN2⟩ : ∃ n, rs2.length = n := ⟨_, rfl⟩
    have HN2 := Lib.hid hN2
    have hbw4 : Below X3.heap.size X3 (W4.alloc (.cells #[.int .i64 0, .slice A2 rs2.length c2] 24)) := hb4.alloc hb4.size _
    have HP4 := Lib.hid (HP3.out.below hbw4)
    have HPA4 := Lib.hid (HPA.out.below hbw4)
    have HB4 := Lib.hid (HB3.out.trans (hbw4.mono HB3.out.size))
    rw [hN2] at HPB HP4 HPA4 HB4 ⊢
    obtain ⟨X4, hX4⟩ : ∃ X, W4.alloc (.cells #[.int .i64 0, .slice A2 n2 c2] 24) = X := ⟨_, rfl⟩
    rw [hX4] at HPB HP4 HPA4 HB4
    have HX4 := Lib.hid hX4
    have HIVL : Hid ((iv t).length = tn) := by show _ = _; rw [iv_len]; exact HTL.out
    have HT4 := Lib.hid (HTS.out.below HB4.out)
    obtain ⟨⟨e3, L3, k3⟩, hnx⟩ : ∃ q, nextP e (rs.map (·.l)) t = q := ⟨_, rfl⟩
    have HNX : Hid (∀ (W : World) (A5 : Option Addr) (c5 : Nat), Below X4.heap.size X4 W → W.ownsRow X4.heap.size 3 1 (.slice A5 tn c5) tn (iv t) → Calls Tryd.prog 13 #[.agg #[.int .i64 e, .slice A n cc], .slice A5 tn c5] W fun en w' => NewPlan W.heap.size e3 L3 k3 en w' ∧ Below W.heap.size W w') := by
      intro W A5 c5 hb ho
      have h := next_any e A cc rs W.heap.size A5 c5 t W ((HP4.out.m.below hb).more hb.size) (Nat.le_refl _) (Sl.of_own ho) (by rw [HTL.out]; have := HT30.out; unfold maxLen; omega)
      rw [HN.out, HTL.out, hnx] at h
      exact h
    have HRN : Hid (∀ (W : World), Below X4.heap.size X4 W → Calls Tryd.prog 14 #[.agg #[.int .i64 e, .slice A n cc], .slice TA tn tc] W fun en w' => NewPlan W.heap.size e3 L3 k3 en w' ∧ Below W.heap.size W w') := by
      intro W hb
      have hs : w.heap.size ≤ X4.heap.size := HB4.out.size
      have h := rnext_any e A cc rs W.heap.size TA tc t W ((HP4.out.m.below hb).more hb.size) (Nat.le_refl _) ((HT4.out.below (hb.mono hs)).more (Nat.le_trans hs hb.size)) (by rw [HTL.out]; have := HT30.out; unfold maxLen; omega)
      rw [HN.out, HTL.out, hnx] at h
      exact h
    have hp40 := HP4.out.o.blk.cell 0
    have hp41 := HP4.out.o.blk.cell 1
    rw [HN.out] at hp41
    have HL3E : Hid ((nextP e (rs.map (·.l)) t).2.1 = L3) := by show _ = _; rw [hnx]
    clear hl2 hm2 hb4 hbw4 hN2 hnx hX4
    go_wp2_with fail
    rw [HX4.out]
    have hpl4 := HP4.out.o.lt
    have bD : Below X4.heap.size X4 X4.drew := (Below.refl _ _).drew
    have bDA : Below X4.heap.size X4 (X4.drew.alloc (.cells #[] 3)) := bD.alloc (Nat.le_refl _) _
    have bDP : Below X4.heap.size X4 (X4.drew.alloc (.cells #[.int .i64 0, .slice none 0 0] 24)) := bD.alloc (Nat.le_refl _) _
    have bDAP := bDA.alloc (by simp) (.cells #[.int .i64 0, .slice none 0 0] 24)
    have bDPA := bDP.alloc (by simp) (.cells #[] 3)
    have oDA : (X4.drew.alloc (.cells #[] 3)).ownsRow X4.heap.size 3 1 (.slice (some ⟨X4.heap.size, 0, none⟩) 0 0) 0 [] := World.ownsRow_made X4.drew #[] 0 (Nat.le_refl _) (Nat.zero_le _) rfl
    have oDAP := oDA.alloc (.cells #[.int .i64 0, .slice none 0 0] 24)
    have oDPA : ((X4.drew.alloc (.cells #[.int .i64 0, .slice none 0 0] 24)).alloc (.cells #[] 3)).ownsRow X4.heap.size 3 1 (.slice (some ⟨X4.heap.size + 1, 0, none⟩) 0 0) 0 [] := by
      have h := World.ownsRow_made (X4.drew.alloc (.cells #[.int .i64 0, .slice none 0 0] 24)) (e := 3) (size := 1) (base := X4.heap.size) #[] 0 (by simp) (Nat.zero_le _) rfl
      rw [World.size_alloc] at h
      exact h
    have pDAP : Obj1 ((X4.drew.alloc (.cells #[] 3)).alloc (.cells #[.int .i64 0, .slice none 0 0] 24)) (X4.heap.size + 1) 24 #[.int .i64 0, .slice none 0 0] := by
      have h := Obj1.new (X4.drew.alloc (.cells #[] 3)) 24 #[.int .i64 0, .slice none 0 0]
      rw [World.size_alloc] at h
      exact h
    have pDPA : Obj1 ((X4.drew.alloc (.cells #[.int .i64 0, .slice none 0 0] 24)).alloc (.cells #[] 3)) X4.heap.size 24 #[.int .i64 0, .slice none 0 0] := (Obj1.new X4.drew 24 #[.int .i64 0, .slice none 0 0]).alloc _
    have hone : ∀ u ∈ iv t, u.oneCell' = true := iv_one t
    have H30 : Hid (0 + (iv t).length ≤ maxLen) := by show _ ≤ _; rw [HIVL.out]; have := HT30.out; unfold maxLen; omega
    have H8 : Hid ((0 + (iv t).length) * 8 ≤ 140737488355328) := by show _ ≤ _; rw [HIVL.out]; have := HT30.out; omega
    have HONE := Lib.hid hone
    have HTX : Hid (∀ W, Below X4.heap.size X4 W → Sl W X4.heap.size TA (iv t)) := fun W hb => (HT4.out.below (hb.mono HB4.out.size)).more HB4.out.size
    have FDA := Lib.hid (And.intro bDA oDA)
    have FDAP := Lib.hid (And.intro bDAP (And.intro oDAP pDAP))
    have FDPA := Lib.hid (And.intro bDPA (And.intro oDPA pDPA))
    clear hone bD bDA bDP bDAP bDPA oDA oDAP oDPA pDAP pDPA
    go_cut [15, 16] from 40 to 47 (fun s15 s16 wx => ∃ b A3 c3 rs3, s15 = .pointer (some ⟨b, 0, none⟩) ∧ s16 = .int .i64 k3 ∧ Hid (rs3.map (·.l) = L3) ∧ Hid (PlanAt wx b e3 A3 c3 rs3) ∧ Hid (Below X4.heap.size X4 wx))
    case first =>
      go_region_law (first
        | (refine step_append_any (by rfl) _ _ 25 (by rfl) X4.heap.size 3 (.int .i64 0) 8 Tryd.underlying25 info_int rfl (.slice (some ⟨X4.heap.size, 0, none⟩) 0 0) 0 [] (by rfl) FDA.out.2 TA tc X4.heap.size (iv t) (by rw [HIVL.out]; rfl) HTN.out (HTX.out _ FDA.out.1) HONE.out H30.out H8.out (by simp) ?_
           intro v5 w5 hown5 hb5 hkp5
           rw [List.nil_append, Nat.zero_add, HIVL.out] at hown5
           have hb5x := Lib.hid (FDA.out.1.trans hb5)
           obtain ⟨A5, c5, rfl⟩ := own_form hown5
           have hown5x := Lib.hid hown5
           have h5l : w.heap.size < w5.heap.size := Nat.lt_of_lt_of_le hpl4 hb5x.out.size
           have h50 := (hb5x.out.cell (p := ⟨w.heap.size, 0, none⟩) hpl4).trans hp40
           have h51 := (hb5x.out.cell (p := ⟨w.heap.size, 1, none⟩) hpl4).trans hp41
           clear hown5 hb5 hkp5)
        | (refine step_append_any (by rfl) _ _ 25 (by rfl) X4.heap.size 3 (.int .i64 0) 8 Tryd.underlying25 info_int rfl (.slice (some ⟨X4.heap.size, 0, none⟩) 0 0) 0 [] (by rfl) FDAP.out.2.1 TA tc X4.heap.size (iv t) (by rw [HIVL.out]; rfl) HTN.out (HTX.out _ FDAP.out.1) HONE.out H30.out H8.out (by simp; omega) ?_
           intro v5 w5 hown5 hb5 hkp5
           rw [List.nil_append, Nat.zero_add, HIVL.out] at hown5
           have hb5x := Lib.hid (FDAP.out.1.trans hb5)
           obtain ⟨A5, c5, rfl⟩ := own_form hown5
           have hown5x := Lib.hid hown5
           have h5l : w.heap.size < w5.heap.size := Nat.lt_of_lt_of_le hpl4 hb5x.out.size
           have h50 := (hb5x.out.cell (p := ⟨w.heap.size, 0, none⟩) hpl4).trans hp40
           have h51 := (hb5x.out.cell (p := ⟨w.heap.size, 1, none⟩) hpl4).trans hp41
           have o5 := Lib.hid (show Obj1 w5 _ 24 _ from (hkp5 _ (by simp) (by simp [Value.ownBlock])).trans FDAP.out.2.2)
           clear hown5 hb5 hkp5)
        | (refine step_append_any (by rfl) _ _ 25 (by rfl) X4.heap.size 3 (.int .i64 0) 8 Tryd.underlying25 info_int rfl (.slice (some ⟨X4.heap.size + 1, 0, none⟩) 0 0) 0 [] (by rfl) FDPA.out.2.1 TA tc X4.heap.size (iv t) (by rw [HIVL.out]; rfl) HTN.out (HTX.out _ FDPA.out.1) HONE.out H30.out H8.out (by simp; omega) ?_
           intro v5 w5 hown5 hb5 hkp5
           rw [List.nil_append, Nat.zero_add, HIVL.out] at hown5
           have hb5x := Lib.hid (FDPA.out.1.trans hb5)
           obtain ⟨A5, c5, rfl⟩ := own_form hown5
           have hown5x := Lib.hid hown5
           have h5l : w.heap.size < w5.heap.size := Nat.lt_of_lt_of_le hpl4 hb5x.out.size
           have h50 := (hb5x.out.cell (p := ⟨w.heap.size, 0, none⟩) hpl4).trans hp40
           have h51 := (hb5x.out.cell (p := ⟨w.heap.size, 1, none⟩) hpl4).trans hp41
           have o5 := Lib.hid (show Obj1 w5 _ 24 _ from (hkp5 _ (by simp; omega) (by simp [Value.ownBlock])).trans FDPA.out.2.2)
           clear hown5 hb5 hkp5)
        | (go_simp; go_at_call 13
           with_reducible refine (HNX.out w5 A5 c5 hb5x.out hown5x.out).mono ?_
           rintro en W6 ⟨⟨A3, c3, rs3, rfl, hl3, hm3, hlo3⟩, hb6⟩
           have o6 := Lib.hid (Obj1.below o5.out hb6 o5.out.lt)
           have hb6x := Lib.hid (hb5x.out.trans (hb6.mono hb5x.out.size))
           have hz60 := o6.out.blk.cell 0
           have hz61 := o6.out.blk.cell 1
           have hz6f := o6.out.blk.free
           have hz6l := o6.out.lt
           have hz5l := o5.out.lt
           have hl3x := Lib.hid hl3
           have hm3x := Lib.hid hm3
           have hlo3x := Lib.hid hlo3
           clear hl3 hm3 hlo3 hb6)
        | (go_simp; go_at_call 13
           with_reducible refine (HNX.out w5 A5 c5 hb5x.out hown5x.out).mono ?_
           rintro en W6 ⟨⟨A3, c3, rs3, rfl, hl3, hm3, hlo3⟩, hb6⟩
           have hb6x := Lib.hid (hb5x.out.trans (hb6.mono hb5x.out.size))
           have hl3x := Lib.hid hl3
           have hm3x := Lib.hid hm3
           have hlo3x := Lib.hid hlo3
           clear hl3 hm3 hlo3 hb6)
        | (go_simp; go_at_call 13
           with_reducible refine (HNX.out _ A5 c5 (hb5x.out.alloc hb5x.out.size _) (hown5x.out.alloc _)).mono ?_
           rintro en W6 ⟨⟨A3, c3, rs3, rfl, hl3, hm3, hlo3⟩, hb6⟩
           have o5 := Lib.hid (Obj1.new w5 24 #[.int .i64 0, .slice none 0 0])
           have o6 := Lib.hid (Obj1.below o5.out hb6 o5.out.lt)
           have hb6x := Lib.hid ((hb5x.out.alloc hb5x.out.size (.cells #[.int .i64 0, .slice none 0 0] 24)).trans (hb6.mono (hb5x.out.alloc hb5x.out.size (.cells #[.int .i64 0, .slice none 0 0] 24)).size))
           have hz60 := o6.out.blk.cell 0
           have hz61 := o6.out.blk.cell 1
           have hz6f := o6.out.blk.free
           have hz6l := o6.out.lt
           have hz5l := o5.out.lt
           have hl3x := Lib.hid hl3
           have hm3x := Lib.hid hm3
           have hlo3x := Lib.hid hlo3
           clear hl3 hm3 hlo3 hb6))
      all_goals
        go_wp2_with fail
        go_meet
        case rel =>
          first
            | exact ⟨_, A3, c3, rs3, rfl, rfl, hl3x, Lib.hid (PlanAt.new hm3x.out), Lib.hid (hb6x.out.alloc hb6x.out.size _)⟩
            | exact ⟨_, A3, c3, rs3, rfl, rfl, hl3x, Lib.hid ⟨blk_set (blk_set o6.out _) _, ((hm3x.out.far hlo3x.out (p := ⟨_, 0, none⟩) hz5l _).far hlo3x.out (p := ⟨_, 1, none⟩) hz5l _).more (by simp [World.setCell])⟩,
                Lib.hid ((hb6x.out.setCell (p := ⟨_, 0, none⟩) (by first | exact Nat.le_refl _ | exact Nat.le_succ _ | exact hb5x.out.size) _).setCell (p := ⟨_, 1, none⟩) (by first | exact Nat.le_refl _ | exact Nat.le_succ _ | exact hb5x.out.size) _)⟩
    case rest =>
      obtain ⟨b15, A3, c3, rs3, rfl, rfl, hl3, hPC, hBC⟩ := hcut
      have HP5 := Lib.hid (HP4.out.below hBC.out)
      have hp50 := HP5.out.o.blk.cell 0
      have hp51 := HP5.out.o.blk.cell 1
      rw [HN.out] at hp51
      obtain ⟨n3, hN3⟩ : ∃ n, rs3.length = n := ⟨_, rfl⟩
      have HN3 := Lib.hid hN3
      clear hN3 hp40 hp41 HNX FDA FDAP FDPA HTX HONE H30 H8
      go_wp2_with fail
      refine (HRN.out wc hBC.out).mono ?_
      rintro en W7 ⟨⟨A4, c4, rs4, rfl, hl4, hm4, -⟩, hb7⟩
      have HL4 : Hid (rs3.map (·.l) = rs4.map (·.l)) := hl3.out.trans hl4.symm
      have HPD := Lib.hid (PlanAt.new (e := e3) (c := c4) hm4)
      obtain ⟨n4, hN4⟩ : ∃ n, rs4.length = n := ⟨_, rfl⟩
      have HN4 := Lib.hid hN4
      have hbw7 : Below wc.heap.size wc (W7.alloc (.cells #[.int .i64 e3, .slice A4 rs4.length c4] 24)) := hb7.alloc hb7.size _
      have HP7 := Lib.hid (HP5.out.below hbw7)
      have hbw4 : Below X4.heap.size X4 (W7.alloc (.cells #[.int .i64 e3, .slice A4 rs4.length c4] 24)) := hBC.out.trans (hbw7.mono hBC.out.size)
      have HPA7 := Lib.hid (HPA4.out.below hbw4)
      have HPB7 := Lib.hid (HPB.out.below hbw4)
      have HPC7 := Lib.hid (hPC.out.below hbw7)
      have HB7 := Lib.hid (HB4.out.trans (hbw4.mono HB4.out.size))
      rw [hN4] at HPD HP7 HPA7 HPB7 HPC7 HB7 ⊢
      clear hl4 hm4 hb7 hbw7 hbw4 hN4 hp50 hp51 HRN
      go_wp2_with fail
      obtain ⟨X7, hX7⟩ : ∃ X, W7.alloc (.cells #[.int .i64 e3, .slice A4 n4 c4] 24) = X := ⟨_, rfl⟩
      rw [hX7] at HPD HP7 HPA7 HPB7 HPC7 HB7 ⊢
      have hl17 : rs1.length ≤ 7 := by
        have h1 := congrArg List.length HL1.out
        rw [List.length_map] at h1
        rw [h1]
        unfold firstR
        split
        · simp
        · rename_i hh
          rw [first_len]
          omega
      have hl37 : rs3.length ≤ 12 := by
        have h1 := congrArg List.length hl3.out
        rw [List.length_map] at h1
        rw [h1, ← HL3E.out]
        unfold nextP
        split
        · simp
        · split
          · simp
          · simpa using HR12.out
      have HS1 : Hid (∀ W, Below X7.heap.size X7 W → Calls Tryd.prog 15 #[.agg #[.int .i64 0, .slice A1 n1 c1], .agg #[.int .i64 0, .slice A2 n2 c2]] W fun en w' => en = .returned (.bool true) ∧ Below X7.heap.size X7 w') := fun W hb => by
        have h := same_plans (HPA7.out.below hb) (HPB7.out.below hb) HL2.out (Nat.le_trans hl17 (by unfold maxLen; omega))
        rw [HN1.out, HN2.out] at h
        exact h.mono fun en w' ⟨he, hb2⟩ => ⟨he, hb.trans (hb2.mono hb.size)⟩
      have HS2 : Hid (∀ W, Below X7.heap.size X7 W → Calls Tryd.prog 15 #[.agg #[.int .i64 e3, .slice A3 n3 c3], .agg #[.int .i64 e3, .slice A4 n4 c4]] W fun en w' => en = .returned (.bool true) ∧ Below X7.heap.size X7 w') := fun W hb => by
        have h := same_plans (HPC7.out.below hb) (HPD.out.below hb) HL4.out (Nat.le_trans hl37 (by unfold maxLen; omega))
        rw [HN3.out, HN4.out] at h
        exact h.mono fun en w' ⟨he, hb2⟩ => ⟨he, hb.trans (hb2.mono hb.size)⟩
      obtain ⟨r, hr⟩ : ∃ r, rightP e (rs.map (·.l)) = r := ⟨_, rfl⟩
      have HR1 : Hid (∀ W, Below X7.heap.size X7 W → Calls Tryd.prog 16 #[.agg #[.int .i64 e, .slice A n cc]] W fun en w' => en = .returned (.bool r) ∧ Below X7.heap.size X7 w') := fun W hb => by
        have hm := (HP7.out.below hb).m
        have h := right_any e A cc rs W.heap.size W hm.sl hm.ok (Nat.le_refl _)
        rw [HN.out, hr] at h
        exact h.mono fun en w' ⟨he, hb2⟩ => ⟨he, hb.trans (hb2.mono hb.size)⟩
      have HR2 : Hid (∀ W, Below X7.heap.size X7 W → Calls Tryd.prog 17 #[.agg #[.int .i64 e, .slice A n cc]] W fun en w' => en = .returned (.bool r) ∧ Below X7.heap.size X7 w') := fun W hb => by
        have hm := (HP7.out.below hb).m
        have h := rright_any e A cc rs W.heap.size W hm.sl hm.ok (Nat.le_refl _)
        rw [HN.out, hr] at h
        exact h.mono fun en w' ⟨he, hb2⟩ => ⟨he, hb.trans (hb2.mono hb.size)⟩
      obtain ⟨lp, hlp⟩ : ∃ l, placeP e (rs.map (·.l)) z = l := ⟨_, rfl⟩
      have hlpl : lp.length ≤ maxLen := by
        rw [← hlp]
        unfold placeP
        split
        · simp
        · rename_i hh
          have h1 : rightP e (rs.map (·.l)) = true := by
            cases q : rightP e (rs.map (·.l))
            · exact absurd (.inr q) hh
            · rfl
          have hrp : RightP e (rs.map (·.l)) := of_decide_eq_true h1
          have h2 : z.toNat % (rs.map (·.l)).length < (rs.map (·.l)).length := Nat.mod_lt _ (by have := hrp.2.2.1; omega)
          rw [List.getD_eq_getElem?_getD, List.getElem?_eq_getElem h2, Option.getD_some]
          have := chain_len hrp (List.getElem_mem h2)
          unfold maxLen
          omega
      have HP1x : Hid (∀ W, Below X7.heap.size X7 W → Calls Tryd.prog 19 #[.agg #[.int .i64 e, .slice A n cc], .int .i64 z] W fun en w' => NewInts W.heap.size lp en w' ∧ Below W.heap.size W w' ∧ Below X7.heap.size X7 w') := fun W hb => by
        have hm := (HP7.out.below hb).m
        have h := place_any e A cc rs W.heap.size z W hm.sl hm.ok (Nat.le_refl _)
        rw [HN.out, hlp] at h
        exact h.mono fun en w' ⟨he, hb2⟩ => ⟨he, hb2, hb.trans (hb2.mono hb.size)⟩
      have HP2x : Hid (∀ W, Below X7.heap.size X7 W → Calls Tryd.prog 20 #[.agg #[.int .i64 e, .slice A n cc], .int .i64 z] W fun en w' => ReadsInts lp en w' ∧ Below W.heap.size W w' ∧ Below X7.heap.size X7 w') := fun W hb => by
        have hm := (HP7.out.below hb).m
        have h := rplace_any e A cc rs W.heap.size z W hm.sl hm.ok (Nat.le_refl _)
        rw [HN.out, hlp] at h
        exact h.mono fun en w' ⟨he, hb2⟩ => ⟨he, hb2, hb.trans (hb2.mono hb.size)⟩
      obtain ⟨E, hE⟩ : ∃ E, wrapped (encPlan e (rs.map (·.l))) = E := ⟨_, rfl⟩
      have hEl : E.length ≤ maxLen := by
        rw [← hE, wrapped_len]
        have := encPlan_len (e := e) (cs := rs.map (·.l)) (by rw [List.length_map]; exact HR12.out) (fun d hd => by obtain ⟨r, hr, rfl⟩ := List.mem_map.1 hd; exact H12.out r hr)
        unfold maxLen
        omega
      have HE1 : Hid (∀ W, Below X7.heap.size X7 W → Calls Tryd.prog 22 #[.agg #[.int .i64 e, .slice A n cc]] W fun en w' => NewBytes W.heap.size E en w' ∧ Below W.heap.size W w' ∧ Below X7.heap.size X7 w') := fun W hb => by
        have hm := (HP7.out.below hb).m
        have h := pencode_ok e A cc rs W.heap.size W (HT.out.below HT.out.1 (HB7.out.trans (hb.mono HB7.out.size))) hm (Nat.le_refl _) HR12.out H12.out
        rw [HN.out, hE] at h
        exact h.mono fun en w' ⟨he, hb2⟩ => ⟨he, hb2, hb.trans (hb2.mono hb.size)⟩
      have HE2 : Hid (∀ W, Below X7.heap.size X7 W → Calls Tryd.prog 23 #[.agg #[.int .i64 e, .slice A n cc]] W fun en w' => NewBytes W.heap.size E en w' ∧ Below W.heap.size W w' ∧ Below X7.heap.size X7 w') := fun W hb => by
        have hm := (HP7.out.below hb).m
        have h := rpencode_ok e A cc rs W.heap.size W hm (Nat.le_refl _) HR12.out H12.out
        rw [HN.out, hE] at h
        exact h.mono fun en w' ⟨he, hb2⟩ => ⟨he, hb2, hb.trans (hb2.mono hb.size)⟩
      have HSI : Hid (∀ (W : World) (A5 c5 A6 c6), Sl W W.heap.size A5 (iv lp) → Sl W W.heap.size A6 (iv lp) → Below X7.heap.size X7 W → Calls Tryd.prog 18 #[.slice A5 lp.length c5, .slice A6 lp.length c6] W fun en w' => en = .returned (.bool true) ∧ Below X7.heap.size X7 w') := fun W A5 c5 A6 c6 h1 h2 hb =>
        (sints_any A5 A6 c5 c6 lp lp W.heap.size W h1 h2 hlpl).mono fun en w' ⟨he, q, hq⟩ => ⟨by rw [he, decide_eq_true rfl], by rw [hq]; exact bdrewN hb q⟩
      have HSB : Hid (∀ (W : World) (A5 c5 A6 c6), Sl W W.heap.size A5 (bv E) → Sl W W.heap.size A6 (bv E) → Below X7.heap.size X7 W → Calls Tryd.prog 21 #[.slice A5 E.length c5, .slice A6 E.length c6] W fun en w' => en = .returned (.bool true) ∧ Below X7.heap.size X7 w') := fun W A5 c5 A6 c6 h1 h2 hb =>
        (same_any A5 A6 c5 c6 W.heap.size E E W h1 h2 hEl hEl).mono fun en w' ⟨he, q, hq⟩ => ⟨by rw [he, decide_eq_true rfl], by rw [hq]; exact bdrewN hb q⟩
      have HS : Hid (∀ w', Below X7.heap.size X7 w' → (w'.cell? ⟨W3.heap.size, 0, none⟩ = some (.int .i64 0) ∧ w'.cell? ⟨W3.heap.size, 1, none⟩ = some (.slice A1 n1 c1) ∧ w'.cell? ⟨W4.heap.size, 0, none⟩ = some (.int .i64 0) ∧ w'.cell? ⟨W4.heap.size, 1, none⟩ = some (.slice A2 n2 c2) ∧
          w'.cell? ⟨b15, 0, none⟩ = some (.int .i64 e3) ∧ w'.cell? ⟨b15, 1, none⟩ = some (.slice A3 n3 c3) ∧ w'.cell? ⟨W7.heap.size, 0, none⟩ = some (.int .i64 e3) ∧ w'.cell? ⟨W7.heap.size, 1, none⟩ = some (.slice A4 n4 c4) ∧
          w'.cell? ⟨w.heap.size, 0, none⟩ = some (.int .i64 e) ∧ w'.cell? ⟨w.heap.size, 1, none⟩ = some (.slice A n cc))) := fun w' hb => by
        have a1 := (HPA7.out.below hb).o.blk
        have a2 := (HPB7.out.below hb).o.blk
        have a3 := (HPC7.out.below hb).o.blk
        have a4 := (HPD.out.below hb).o.blk
        have a5 := (HP7.out.below hb).o.blk
        rw [HN1.out] at a1
        rw [HN2.out] at a2
        rw [HN3.out] at a3
        rw [HN4.out] at a4
        rw [HN.out] at a5
        exact ⟨a1.cell 0, a1.cell 1, a2.cell 0, a2.cell 1, a3.cell 0, a3.cell 1, a4.cell 0, a4.cell 1, a5.cell 0, a5.cell 1⟩
      have HBX7 := HB7.out
      have HFIN := Lib.hid HBX7
      have bD : Below X7.heap.size X7 X7.drew := (Below.refl _ _).drew
      clear hX7 hl17 hl37 hr hlp hlpl hE hEl HBX7 HPD HP7 HPA7 HPB7 HPC7 HB7
      go_region_held3 (fun w' => w'.cell? ⟨W3.heap.size, 0, none⟩ = some (.int .i64 0) ∧ w'.cell? ⟨W3.heap.size, 1, none⟩ = some (.slice A1 n1 c1) ∧ w'.cell? ⟨W4.heap.size, 0, none⟩ = some (.int .i64 0) ∧ w'.cell? ⟨W4.heap.size, 1, none⟩ = some (.slice A2 n2 c2) ∧
          w'.cell? ⟨b15, 0, none⟩ = some (.int .i64 e3) ∧ w'.cell? ⟨b15, 1, none⟩ = some (.slice A3 n3 c3) ∧ w'.cell? ⟨W7.heap.size, 0, none⟩ = some (.int .i64 e3) ∧ w'.cell? ⟨W7.heap.size, 1, none⟩ = some (.slice A4 n4 c4) ∧
          w'.cell? ⟨w.heap.size, 0, none⟩ = some (.int .i64 e) ∧ w'.cell? ⟨w.heap.size, 1, none⟩ = some (.slice A n cc))
        (exact HS.out _ (by assumption))
        (first
          | (go_at_call 15; (with_reducible refine (HS1.out _ (by assumption)).mono ?_); rintro en w8 ⟨rfl, hb8⟩)
          | (go_at_call 15; (with_reducible refine (HS2.out _ (by assumption)).mono ?_); rintro en w8 ⟨rfl, hb8⟩)
          | (go_at_call 16; (with_reducible refine (HR1.out _ (by assumption)).mono ?_); rintro en w8 ⟨rfl, hb8⟩)
          | (go_at_call 17; (with_reducible refine (HR2.out _ (by assumption)).mono ?_); rintro en w8 ⟨rfl, hb8⟩)
          | (go_at_call 19; (with_reducible refine (HP1x.out _ (by assumption)).mono ?_); rintro en w8 ⟨⟨A5, c5, rfl, hoP⟩, hbP, hb8⟩)
          | (go_at_call 20; (with_reducible refine (HP2x.out _ (by assumption)).mono ?_); rintro en w8 ⟨⟨A6, c6, rfl, hoR⟩, hbR, hb8⟩)
          | (go_at_call 18; (with_reducible refine (HSI.out _ _ _ _ _ ((Sl.of_own hoP).below hbR |>.more hbR.size) hoR (by assumption)).mono ?_); rintro en w8 ⟨rfl, hb8⟩)
          | (go_at_call 18; (with_reducible refine (HSI.out _ _ _ _ _ (Sl.of_own hoP) ((hoR.below hbP).more hbP.size) (by assumption)).mono ?_); rintro en w8 ⟨rfl, hb8⟩)
          | (go_at_call 22; (with_reducible refine (HE1.out _ (by assumption)).mono ?_); rintro en w8 ⟨⟨A7, c7, rfl, hoE⟩, hbE, hb8⟩)
          | (go_at_call 23; (with_reducible refine (HE2.out _ (by assumption)).mono ?_); rintro en w8 ⟨⟨A8, c8, rfl, hoF⟩, hbF, hb8⟩)
          | (go_at_call 21; (with_reducible refine (HSB.out _ _ _ _ _ ((Sl.of_own hoE).below hbF |>.more hbF.size) (Sl.of_own hoF) (by assumption)).mono ?_); rintro en w8 ⟨rfl, hb8⟩)
          | (go_at_call 21; (with_reducible refine (HSB.out _ _ _ _ _ (Sl.of_own hoE) ((Sl.of_own hoF).below hbE |>.more hbE.size) (by assumption)).mono ?_); rintro en w8 ⟨rfl, hb8⟩))
      all_goals
        go_wp2
        go_ret
        exact ⟨rfl, HFIN.out.trans (hb8.mono HFIN.out.size)⟩
end Go.Proofs.YtohahhijbneheaaDoor
