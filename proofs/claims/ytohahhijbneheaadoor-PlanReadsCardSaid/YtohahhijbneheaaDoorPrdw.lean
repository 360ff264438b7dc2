/- PlanReads: the walk. -/
import Derived.Test.YtohahhijbneheaaDoorPrI
import Derived.Test.YtohahhijbneheaaDoorPrF
import Derived.Test.YtohahhijbneheaaDoorPlanK
import Derived.Test.YtohahhijbneheaaDoorPlanG
import Derived.Test.YtohahhijbneheaaDoorPlanT
namespace Go.Proofs.YtohahhijbneheaaDoor
open Go.RowKit
set_option linter.unusedVariables false
attribute [local go_sem] Oper.semAt_some

/-- A plan in a block, its chains in memory. -/
structure PlanAt (W : World) (b : Nat) (e : Int) (A : Option Addr) (c : Nat) (rs : List Ch) : Prop where
  o : Obj1 W b 24 #[.int .i64 e, .slice A rs.length c]
  m : Mem W W.heap.size A rs
theorem PlanAt.below {W W' : World} {b : Nat} {e : Int} {A : Option Addr} {c : Nat} {rs : List Ch} (h : PlanAt W b e A c rs) (hb : Below W.heap.size W W') : PlanAt W' b e A c rs :=
  ⟨h.o.below hb h.o.lt, (h.m.below hb).more hb.size⟩
theorem PlanAt.new {W : World} {e : Int} {A : Option Addr} {c : Nat} {rs : List Ch} (h : Mem W W.heap.size A rs) : PlanAt (W.alloc (.cells #[.int .i64 e, .slice A rs.length c] 24)) W.heap.size e A c rs :=
  ⟨Obj1.new _ _ _, (h.below ((Below.refl _ _).alloc (Nat.le_refl _) _)).more (by simp)⟩
theorem same_plans {e : Int} {A1 A2 : Option Addr} {c1 c2 b1 b2 : Nat} {rs ts : List Ch} {W : World} (h1 : PlanAt W b1 e A1 c1 rs) (h2 : PlanAt W b2 e A2 c2 ts) (hl : rs.map (·.l) = ts.map (·.l)) (hn : rs.length ≤ maxLen) :
    Calls Tryd.prog 15 #[.agg #[.int .i64 e, .slice A1 rs.length c1], .agg #[.int .i64 e, .slice A2 ts.length c2]] W fun en w' => en = .returned (.bool true) ∧ Below W.heap.size W w' :=
  (splan_any e e A1 A2 c1 c2 rs ts W.heap.size W h1.m.sl h2.m.sl h1.m.ok h2.m.ok (Nat.le_refl _) hn).mono fun en w' ⟨he, hb⟩ => ⟨by rw [he, decide_eq_true ⟨rfl, hl⟩], hb⟩

theorem oneU_put (z : Int) (hz : 0 ≤ z ∧ z ≤ 6) (l : List UInt8) : oneU (some ([b8 z] ++ l)) = (z, some l) := by
  unfold oneU
  rw [List.singleton_append, pnum_one]
  have := b8_nat z
  exact Prod.ext (by show ((b8 z).toNat : Int) = z; omega) rfl
theorem flat_one (c : List Int) : (c.map (fun z => [b8 z])).flatten = c.map b8 := by
  induction c with
  | nil => rfl
  | cons z c ih => rw [List.map_cons, List.flatten_cons, ih]; rfl
theorem oneC_put (c : List Int) (h7 : c.length ≤ 7) (hz : ∀ z ∈ c, 0 ≤ z ∧ z ≤ 6) (l : List UInt8) : oneC (some (putI c ++ l)) = (c, some l) := by
  have h := plist_back oneU (fun z => [b8 z]) 7 c h7 (by omega) (fun z hm l => oneU_put z (hz z hm) l) l
  rw [flat_one] at h
  exact h
theorem decPlan_enc (e : Int) (cs : List (List Int)) (h : rightP e cs = true) : decPlan (encPlan e cs) = some (e, cs) := by
  have hr : RightP e cs := of_decide_eq_true h
  have h7 : cs.length ≤ 7 := hr.2.2.2.1
  have h0 := hr.1
  have h1 := hr.2.1
  have hu : u64of e < 256 ^ 4 := by unfold u64of; omega
  have hue : ((u64of e : Nat) : Int) = e := by unfold u64of; omega
  have hp : plist 7 oneC (some (beBytes cs.length 4 ++ (cs.map putI).flatten)) = (cs, some []) := by
    have := plist_back oneC putI 7 cs h7 (by omega) (fun c hc l => oneC_put c (chain_len hr hc) (fun z hz => hr.2.2.2.2.2.1 z (List.mem_flatten.2 ⟨c, hc, hz⟩)) l) []
    rwa [List.append_nil] at this
  have e1 : readPlan (some (encPlan e cs)) = (e, cs, some []) := by
    unfold readPlan encPlan
    rw [List.append_assoc, pnum_be 4 _ hu]
    dsimp only
    rw [hp, hue]
  unfold decPlan
  rw [e1, if_pos ⟨rfl, h⟩]
theorem own_capP {w : World} {base n c : Nat} {A : Option Addr} {xs : List Value} (h : w.ownsRow base 5 1 (.slice A n c) n xs) : n ≤ c := by
  rcases h.2 with ⟨e, h0⟩ | ⟨g, cap, cur, e, hb, hh, hn, hc, _⟩
  · omega
  · injection e with e1 e2 e3
    omega
theorem dec_rows {a : List UInt8} {x : Int × List (List Int)} (h : decPlan a = some x) : x.2.length ≤ 7 := by
  unfold decPlan at h
  split at h
  · injection h with h
    rw [← h]
    exact plist_len oneC 7 _
  · cases h
theorem dec_rows2 (b : List UInt8) : (((unw b).bind decPlan).getD (0, [])).2.length ≤ 7 := by
  cases hu : unw b with
  | none => exact Nat.zero_le _
  | some a =>
    rw [Option.bind_some]
    cases hd : decPlan a with
    | none => exact Nat.zero_le _
    | some x => exact dec_rows hd

set_option maxRecDepth 100000 in
set_option maxHeartbeats 8000000 in
theorem prd_walk (Ab : Option Addr) (cb : Nat) (b : List UInt8) (e : Int) (A : Option Addr) (cc : Nat) (rs : List Ch) (w : World) (hT : Tab w) (hs : Sl w w.heap.size Ab (bv b)) (hn : Ab = none → cb = 0) (hbc : b.length ≤ cb) (hm : Mem w w.heap.size A rs) :
    Calls Tryd.prog 4 #[.slice Ab b.length cb, .agg #[.int .i64 e, .slice A rs.length cc]] w fun en w' => en = .returned (.bool true) ∧ Below w.heap.size w w' := by
  have HT := Lib.hid hT
  have HS := Lib.hid hs
  have HNN := Lib.hid hn
  have HBC := Lib.hid hbc
  have HP0 := Lib.hid (PlanAt.new (e := e) (c := cc) hm)
  have HB0 : Hid (Below w.heap.size w (w.alloc (.cells #[.int .i64 e, .slice A rs.length cc] 24))) := (Below.refl _ _).alloc (Nat.le_refl _) _
  obtain ⟨n, hN⟩ : ∃ n, rs.length = n := ⟨_, rfl⟩
  have HN := Lib.hid hN
  rw [hN] at HB0 ⊢
  obtain ⟨q, hQ⟩ : ∃ n, b.length = n := ⟨_, rfl⟩
  have HQ := Lib.hid hQ
  rw [hQ]
  obtain ⟨W0, hW0⟩ : ∃ X, w.alloc (.cells #[.int .i64 e, .slice A n cc] 24) = X := ⟨_, rfl⟩
  rw [hN, hW0] at HP0
  rw [hW0] at HB0
  have HW0 := Lib.hid hW0
  clear hT hm hs hn hbc hN hW0 hQ
  go_enter Tryd.func4, Tryd.ntmps4
  go_wp2_with fail
  rw [HW0.out]
  have hpl0 := HP0.out.o.lt
  refine (speaks11 W0).mono ?_
  rintro en W1 ⟨rfl, hb1⟩
  have HP1 := Lib.hid (HP0.out.below hb1)
  have HB1 := Lib.hid (HB0.out.trans (hb1.mono HB0.out.size))
  have hc0 := HP1.out.o.blk.cell 0
  have hc1 := HP1.out.o.blk.cell 1
  rw [HN.out] at hc1
  clear hb1
  by_cases hq : (1000 : Int) < (q : Int)
  · go_wp2_with fail
    go_ret
    exact ⟨rfl, HB1.out⟩
  have hq1000 : q ≤ 1000 := by omega
  have HG := Lib.hid (great_plan e A cc rs W1.heap.size W1 HP1.out.m (Nat.le_refl _))
  rw [HN.out] at HG
  go_wp2_with fail
  refine HG.out.mono ?_
  rintro en W2 ⟨⟨gb, rfl, hgr⟩, hb2⟩
  have HP2 := Lib.hid (HP1.out.below hb2)
  have HB2 := Lib.hid (HB1.out.trans (hb2.mono HB1.out.size))
  have HGR := Lib.hid hgr
  clear HG hgr hb2 hc0 hc1
  cases gb with
  | true =>
    go_wp2_with fail
    go_ret
    exact ⟨rfl, HB2.out⟩
  | false =>
    obtain ⟨hg1, hg2⟩ := HGR.out rfl
    have HR12 : Hid (rs.length ≤ 12) := by rw [List.length_map] at hg1; exact hg1
    have H12 : Hid (∀ r ∈ rs, r.l.length ≤ 12) := fun r hr => hg2 _ (List.mem_map.2 ⟨r, hr, rfl⟩)
    obtain ⟨o, hoo⟩ : ∃ o, (unw b).bind decPlan = o := ⟨_, rfl⟩
    have HO7 : Hid ((o.getD (0, [])).2.length ≤ 7) := Lib.hid (by rw [← hoo]; exact dec_rows2 b)
    have HOO := Lib.hid hoo
    obtain ⟨kk, hkk⟩ : ∃ kk : Int, (if o.isSome then 0 else 3) = kk := ⟨_, rfl⟩
    have HKK := Lib.hid hkk
    obtain ⟨xe, hxe⟩ : ∃ z, (o.getD (0, [])).1 = z := ⟨_, rfl⟩
    have HXE := Lib.hid hxe
    have LL : Hid (0 + b.length ≤ 70368744177664) := by show _ ≤ _; rw [HQ.out]; omega
    have HSL : Hid (Sl (W2.alloc (.cells #[] 5)) w.heap.size Ab (bv b)) := Lib.hid (HS.out.below (HB2.out.alloc HB2.out.size _))
    clear hg1 hg2 HGR hoo hkk hxe
    go_wp2_with (at_builtin; refine wpList_append_bytes rfl _ _ rfl W2.heap.size _ 0 [] rfl (World.ownsRow_made W2 #[] 0 (Nat.le_refl _) (Nat.zero_le _) rfl) Ab cb w.heap.size b (by rw [HQ.out]; rfl) HNN.out HSL.out LL.out (by simp) ?_; intro v3 W3 ho3 hb3)
    have hb3 : Below W2.heap.size W2 W3 := ((Below.refl _ _).alloc (Nat.le_refl _) _).trans hb3
    obtain ⟨A3, c3, rfl⟩ := own_form ho3
    rw [Nat.zero_add, List.nil_append] at ho3
    rw [Nat.zero_add]
    have HP3 := Lib.hid (HP2.out.below hb3)
    have HB3 := Lib.hid (HB2.out.trans (hb3.mono HB2.out.size))
    refine (pdec_any A3 c3 W3.heap.size b W3 (HT.out.below HT.out.1 HB3.out) (Sl.of_own ho3) (own_capP ho3) (by rw [HQ.out]; omega) (Nat.le_refl _)).mono ?_
    rw [HOO.out]
    rintro en W4 ⟨⟨A4, c4, xs, rfl, hxs, hmx, -⟩, hb4⟩
    rw [HXE.out, HKK.out]
    have hx7 : xs.length ≤ 7 := by have := congrArg List.length hxs; rw [List.length_map] at this; have := HO7.out; omega
    have HPX := Lib.hid (PlanAt.new (e := xe) (c := c4) hmx)
    have HXS := Lib.hid hxs
    have hbw4 : Below W3.heap.size W3 (W4.alloc (.cells #[.int .i64 xe, .slice A4 xs.length c4] 24)) := hb4.alloc hb4.size _
    have HP4 := Lib.hid (HP3.out.below hbw4)
    have HB4 := Lib.hid (HB3.out.trans (hbw4.mono HB3.out.size))
    obtain ⟨n1, hN1⟩ : ∃ n, xs.length = n := ⟨_, rfl⟩
    have HN1 := Lib.hid hN1
    have HX7 := Lib.hid hx7
    rw [hN1] at HPX HP4 HB4 ⊢
    clear ho3 hb3 hb4 hmx hxs hbw4 hx7 hN1
    go_wp2_with fail
    obtain ⟨X4, hX4⟩ : ∃ X, W4.alloc (.cells #[.int .i64 xe, .slice A4 n1 c4] 24) = X := ⟨_, rfl⟩
    obtain ⟨bx, hbx⟩ : ∃ b, W4.heap.size = b := ⟨_, rfl⟩
    rw [hX4] at HPX HP4 HB4 ⊢
    rw [hbx] at HPX ⊢
    clear hX4 hbx
    have HRD : Hid (Calls Tryd.prog 25 #[.slice Ab q cb] X4 (DecP o X4)) := Lib.hid (by
      have h := rpdec_any Ab cb w.heap.size b X4 (HS.out.below HB4.out) HBC.out (by rw [HQ.out]; omega) HB4.out.size
      rwa [HOO.out, HQ.out] at h)
    refine HRD.out.mono ?_
    rintro en W5 ⟨⟨A5, c5, ys, rfl, hys, hmy, -⟩, hb5⟩
    rw [HXE.out, HKK.out]
    have HPY := Lib.hid (PlanAt.new (e := xe) (c := c5) hmy)
    have HXY : Hid (xs.map (·.l) = ys.map (·.l)) := Lib.hid (HXS.out.trans hys.symm)
    have hbw5 : Below X4.heap.size X4 (W5.alloc (.cells #[.int .i64 xe, .slice A5 ys.length c5] 24)) := hb5.alloc hb5.size _
    have HP5 := Lib.hid (HP4.out.below hbw5)
    have HPX5 := Lib.hid (HPX.out.below hbw5)
    have HB5 := Lib.hid (HB4.out.trans (hbw5.mono HB4.out.size))
    obtain ⟨n2, hN2⟩ : ∃ n, ys.length = n := ⟨_, rfl⟩
    have HN2 := Lib.hid hN2
    rw [hN2] at HPY HP5 HPX5 HB5 ⊢
    have HSM := Lib.hid (same_plans HPX5.out HPY.out HXY.out (by have := HX7.out; unfold maxLen; omega))
    rw [HN1.out, HN2.out] at HSM
    have hxo := HPX.out.o.below hb5 HPX.out.o.lt
    have hx0 := hxo.blk.cell 0
    have hx1 := hxo.blk.cell 1
    rw [HN1.out] at hx1
    have hxl := hxo.lt
    clear hb5 hmy hys hbw5 hN2 HRD hxo HPX HPX5
    go_wp2_with fail
    refine HSM.out.mono ?_
    rintro en W6 ⟨rfl, hb6⟩
    have HP6 := Lib.hid (HP5.out.below hb6)
    have HB6 := Lib.hid (HB5.out.trans (hb6.mono HB5.out.size))
    have hp0 := HP6.out.o.blk.cell 0
    have hp1 := HP6.out.o.blk.cell 1
    rw [HN.out] at hp1
    clear hb6 hx0 hx1 hxl HSM HP5 HPY
    obtain ⟨E, hE⟩ : ∃ E, encPlan e (rs.map (·.l)) = E := ⟨_, rfl⟩
    have hEl : E.length ≤ 1000 := by
      rw [← hE]
      exact encPlan_len (by rw [List.length_map]; exact HR12.out) (fun d hd => by obtain ⟨r, hr, rfl⟩ := List.mem_map.1 hd; exact H12.out r hr)
    have HEN := Lib.hid (pencode_ok e A cc rs W6.heap.size W6 (HT.out.below HT.out.1 HB6.out) HP6.out.m (Nat.le_refl _) HR12.out H12.out)
    rw [hE, HN.out] at HEN
    have HE := Lib.hid hE
    clear hE
    go_wp2_with fail
    refine HEN.out.mono ?_
    rintro en W7 ⟨⟨A7, c7, rfl, ho7⟩, hb7⟩
    have HP7 := Lib.hid (HP6.out.below hb7)
    have HB7 := Lib.hid (HB6.out.trans (hb7.mono HB6.out.size))
    have hLl : (wrapped E).length ≤ 1004 := by rw [wrapped_len]; omega
    have hun := unw_wrapped E
    obtain ⟨L, hL⟩ : ∃ L, wrapped E = L := ⟨_, rfl⟩
    rw [hL] at ho7 hLl hun ⊢
    obtain ⟨ld, hld⟩ : ∃ n, L.length = n := ⟨_, rfl⟩
    have HDE := Lib.hid (pdec_any A7 c7 W7.heap.size L W7 (HT.out.below HT.out.1 HB7.out) (Sl.of_own ho7) (own_capP ho7) (by omega) (Nat.le_refl _))
    rw [hun, Option.bind_some, hld] at HDE
    obtain ⟨o2, ho2⟩ : ∃ o, decPlan E = o := ⟨_, rfl⟩
    rw [ho2] at HDE
    have HO2 := Lib.hid ho2
    obtain ⟨rt, hrt⟩ : ∃ r, rightP e (rs.map (·.l)) = r := ⟨_, rfl⟩
    have HRT := Lib.hid hrt
    rw [hld]
    clear hL hun ho7 hb7 hp0 hp1 HEN hld hLl ho2 hrt
    go_wp2_with fail
    refine HDE.out.mono ?_
    rintro en W8 ⟨⟨A8, c8, zs, rfl, hzs, hmz, -⟩, hb8⟩
    obtain ⟨ze, hze⟩ : ∃ z, (o2.getD (0, [])).1 = z := ⟨_, rfl⟩
    obtain ⟨k2, hk2⟩ : ∃ kk : Int, (if o2.isSome then 0 else 3) = kk := ⟨_, rfl⟩
    rw [hze, hk2]
    have HZE := Lib.hid hze
    have HK2 := Lib.hid hk2
    have HZS := Lib.hid hzs
    have HPZ := Lib.hid (PlanAt.new (e := ze) (c := c8) hmz)
    have hbw8 : Below W7.heap.size W7 (W8.alloc (.cells #[.int .i64 ze, .slice A8 zs.length c8] 24)) := hb8.alloc hb8.size _
    have HP8 := Lib.hid (HP7.out.below hbw8)
    have HB8 := Lib.hid (HB7.out.trans (hbw8.mono HB7.out.size))
    have hpo := HP7.out.o.below hb8 HP7.out.o.lt
    have hp0 := hpo.blk.cell 0
    have hp1 := hpo.blk.cell 1
    rw [HN.out] at hp1
    have hpl := hpo.lt
    obtain ⟨n8, hn8⟩ : ∃ n, zs.length = n := ⟨_, rfl⟩
    have HN8 := Lib.hid hn8
    have HRR := Lib.hid (rright_any e A cc rs (W8.alloc (.cells #[.int .i64 ze, .slice A8 zs.length c8] 24)).heap.size (W8.alloc (.cells #[.int .i64 ze, .slice A8 zs.length c8] 24)) HP8.out.m.sl HP8.out.m.ok (Nat.le_refl _))
    rw [HRT.out, HN.out] at HRR
    rw [hn8] at HP8 HB8 HPZ HRR ⊢
    clear hb8 hmz hzs hbw8 hpo hn8 hze hk2 HDE
    go_wp2_with fail
    refine HRR.out.mono ?_
    rintro en W9 ⟨rfl, hb9⟩
    have HB9 := Lib.hid (HB8.out.trans (hb9.mono HB8.out.size))
    have HP9 := Lib.hid (HP8.out.below hb9)
    have HPZ9 := Lib.hid (HPZ.out.below hb9)
    clear hp0 hp1 hpl HRR hb9
    cases rt with
    | false =>
      go_wp2_with fail
      go_ret
      exact ⟨rfl, HB9.out⟩
    | true =>
      have HOS : Hid (o2 = some (e, rs.map (·.l))) := Lib.hid (by rw [← HO2.out, ← HE.out]; exact decPlan_enc e _ HRT.out)
      have hze2 : e = ze := by have h := HZE.out; rw [HOS.out] at h; exact h
      have hk20 : k2 = 0 := by have h := HK2.out; rw [HOS.out] at h; exact h.symm
      have HZR : Hid (zs.map (·.l) = rs.map (·.l)) := Lib.hid (by have h := HZS.out; rw [HOS.out] at h; exact h)
      subst hk20 hze2
      have HSZ := Lib.hid (same_plans HPZ9.out HP9.out HZR.out (by
        have h := congrArg List.length HZR.out
        rw [List.length_map, List.length_map] at h
        have := HR12.out
        unfold maxLen
        omega))
      rw [HN8.out, HN.out] at HSZ
      have hz0 := HPZ9.out.o.blk.cell 0
      have hz1 := HPZ9.out.o.blk.cell 1
      have hp0 := HP9.out.o.blk.cell 0
      have hp1 := HP9.out.o.blk.cell 1
      rw [HN8.out] at hz1
      rw [HN.out] at hp1
      go_wp2_with fail
      refine HSZ.out.mono ?_
      rintro en WA ⟨rfl, hbA⟩
      go_wp2
      go_ret
      exact ⟨rfl, HB9.out.trans (hbA.mono HB9.out.size)⟩
end Go.Proofs.YtohahhijbneheaaDoor
