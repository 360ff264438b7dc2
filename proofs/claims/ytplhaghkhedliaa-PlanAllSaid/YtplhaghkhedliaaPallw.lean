/- PlanAll: the walk. -/
import Derived.Test.YtplhaghkhedliaaPallM
import Derived.Test.YtplhaghkhedliaaPlanK
import Derived.Test.YtplhaghkhedliaaPlanT
namespace Go.Proofs.Ytplhaghkhedliaa
open Go.RowKit
set_option linter.unusedVariables false
attribute [local go_sem] Oper.semAt_some

set_option maxRecDepth 100000 in
set_option maxHeartbeats 8000000 in
theorem pall_main (u c q : Nat) (hu : u ≤ 7) (hc : 1 ≤ c) (hcu : c ≤ u) (hq : q ≤ 1099511627776) (w : World) :
    Calls Try.prog 4 #[.int .i64 (u : Int), .int .i64 (c : Int), .int .i64 (q : Int)] w fun e w' => e = .returned (.bool true) ∧ Below w.heap.size w w' := by
  have HU := Lib.hid hu
  have HC := Lib.hid hc
  have HCU := Lib.hid hcu
  have HF := Lib.hid (fun W : World => first_ok u c hu hc hcu W)
  have HSP := Lib.hid (fun W : World => speaks11 W)
  have hq0 : ¬ ((q : Int) < 0) := by omega
  have hq1 : ¬ ((1099511627776 : Int) < (q : Int)) := by omega
  have hu7 : ¬ ((7 : Int) < (u : Int)) := by omega
  have hc7 : ¬ ((7 : Int) < (c : Int)) := by omega
  clear hu hc hcu hq
  go_enter Try.func4, Try.ntmps4
  go_wp2_with fail
  refine (HSP.out _).mono ?_
  rintro en W1 ⟨rfl, hb1⟩
  go_wp2_with fail
  refine (HF.out _).mono ?_
  rintro en2 W2 ⟨⟨A, cc, rs, rfl, hls, hmem, -⟩, hb2⟩
  have hbw : Below w.heap.size w W2 := hb1.trans (hb2.mono hb1.size)
  obtain ⟨m0, hm0⟩ : ∃ m, rs.length = m := ⟨_, rfl⟩
  have hS : Hid (AllS W2 W2.heap.size (W2.heap.size + 1) (.slice A m0 cc) [] (.slice (some ⟨W2.heap.size + 1 + 1, 0, none⟩) 0 0) (((W2.alloc (.cells #[.int .i64 0, .slice A m0 cc] 25)).alloc (.map #[] 0)).alloc (.cells #[] 3))) := by
    have s1 := Seen.new (W2.alloc (.cells #[.int .i64 0, .slice A m0 cc] 25))
    rw [World.size_alloc] at s1
    refine ⟨((Obj1.new W2 _ _).alloc _).alloc _, s1.below ((Below.refl _ _).alloc (Nat.le_refl _) _) (by simp), ?_, ((((Below.refl _ _).alloc (Nat.le_refl _) _).alloc (by simp) _).alloc (by simp; omega) _), Nat.le_refl _, Nat.le_succ _⟩
    have h := World.ownsRow_made ((W2.alloc (.cells #[.int .i64 0, .slice A m0 cc] 25)).alloc (.map #[] 0)) (base := W2.heap.size) (e := 3) (size := 1) #[] 0 (by simp; omega) (Nat.zero_le _) rfl
    rw [World.size_alloc, World.size_alloc] at h
    exact h
  rw [hm0]
  have HM0 := Lib.hid hm0
  have HMEM := Lib.hid hmem
  have HLS := Lib.hid hls
  have HBW := Lib.hid hbw
  have hpl := fun (z : Int) (X : World) (hX : Below W2.heap.size W2 X) => place_any 0 A cc rs W2.heap.size z X (hmem.below hX).sl (hmem.below hX).ok hX.size
  rw [hls, hm0] at hpl
  have HPL := Lib.hid hpl
  clear hls hmem HF hb1 hb2 hpl hbw hm0
  have hmm := @run_makeMap Try.prog
  go_wp2_with fail
  go_loopw [10, 11] (fun s10 s11 wr => ∃ (i : Nat) (A0 : Option Addr) (c0 : Nat), i ≤ c ∧ s11 = .int .i64 (i : Int) ∧ s10 = .slice A0 (allP u c (q % c) i).length c0 ∧ Hid (AllS W2 W2.heap.size (W2.heap.size + 1) (.slice A m0 cc) (allP u c (q % c) i) (.slice A0 (allP u c (q % c) i).length c0) wr)) (fun _ s11 _ => c - (intOf s11).toNat)
  case atStart => exact ⟨0, _, _, Nat.zero_le _, rfl, rfl, hS⟩
  case round =>
    clear hS
    obtain ⟨i, A0, c0, hi, rfl, rfl, hS⟩ := hrel
    by_cases hlt : i < c
    · have hi1 : (i : Int) < (c : Int) := by omega
      have hp0 := hS.out.p.blk.cell 0
      have hp1 := hS.out.p.blk.cell 1
      have hplace := HPL.out ((q : Int) + (i : Int)) wr hS.out.bel
      have hqi : (q : Int) + (i : Int) = ((q + i : Nat) : Int) := by push_cast; rfl
      rw [hqi, place_first HU.out HC.out HCU.out, ← hqi] at hplace
      obtain ⟨l, hl⟩ : ∃ l, unitsOf c ((q + i) % c) u = l := ⟨_, rfl⟩
      rw [hl] at hplace
      have HPLACE := Lib.hid hplace
      have HL := Lib.hid hl
      have hl7 : l.length ≤ 7 := by rw [← hl]; have := unitsOf_len c ((q + i) % c) u; have := HU.out; omega
      have hl7i : ¬ ((7 : Int) < ((l.length : Nat) : Int)) := by omega
      obtain ⟨S0, hS0⟩ : ∃ S, allP u c (q % c) i = S := ⟨_, rfl⟩
      rw [hS0] at hS ⊢
      have HS0 := Lib.hid hS0
      clear hplace hqi hl hl7 hS0
      go_wp2_with fail
      refine HPLACE.out.mono ?_
      rintro en3 W3 ⟨⟨A5, c5, rfl, ho5⟩, hb3⟩
      have hA3 : Hid (AllS W2 W2.heap.size (W2.heap.size + 1) (.slice A m0 cc) S0 (.slice A0 S0.length c0) W3) := hS.out.grow hb3
      have ho5' := row_low ho5 hS.out.bel.size
      have hap : ∀ k, (Value.slice A0 S0.length c0).ownBlock = some k → (Value.slice A5 l.length c5).ownBlock ≠ some k := by
        intro k hk hu
        have h1 := (own_lt hS.out.row hk).1
        have h2 := (own_lt ho5 hu).2
        omega
      have HO5 := Lib.hid ho5'
      have HAP := Lib.hid hap
      clear ho5 ho5' hap hb3
      go_wp2_with fail
      go_loopw [10, 55] (fun s10 s55 wr => ∃ (j : Nat) (A1 : Option Addr) (c1 : Nat), j ≤ l.length ∧ s55 = .int .i64 (j : Int) ∧ s10 = .slice A1 (S0 ++ l.take j).length c1 ∧
        Hid (AllS W2 W2.heap.size (W2.heap.size + 1) (.slice A m0 cc) (S0 ++ l.take j) (.slice A1 (S0 ++ l.take j).length c1) wr) ∧ Hid (wr.ownsRow W2.heap.size 3 1 (.slice A5 l.length c5) l.length (iv l)) ∧
        Hid (∀ k, (Value.slice A1 (S0 ++ l.take j).length c1).ownBlock = some k → (Value.slice A5 l.length c5).ownBlock ≠ some k)) (fun _ s55 _ => l.length - (intOf s55).toNat)
      case atStart => exact ⟨0, A0, c0, Nat.zero_le _, rfl, by simp, by simpa using hA3, HO5, by simpa using HAP⟩
      case round =>
        clear hA3 HO5 HAP hp0 hp1
        obtain ⟨j, A1, c1, hj, rfl, rfl, hT, ho, ha⟩ := hrel
        by_cases hjl : j < l.length
        · have hj1 : (j : Int) < ((l.length : Nat) : Int) := by omega
          obtain ⟨hnw, hz0, hzu, hSl⟩ := allP_new HU.out HC.out HCU.out hlt HL.out hjl
          rw [HS0.out] at hnw hSl
          obtain ⟨g5, o5, rfl, hg5, hc5⟩ := (Sl.of_own ho.out).at (k := j) (by simpa [iv] using hjl)
          have ea : (iv l)[j]'(by simpa [iv] using hjl) = Value.int .i64 l[j] := by simp [iv]
          rw [ea] at hc5
          have HT : Hid (l.take (j + 1) = l.take j ++ [l[j]]) := List.take_succ_eq_append_getElem hjl
          obtain ⟨z, hz⟩ : ∃ z, l[j] = z := ⟨_, rfl⟩
          rw [hz] at hc5 hnw hz0 hzu HT
          obtain ⟨S1, hS1⟩ : ∃ S, S0 ++ l.take j = S := ⟨_, rfl⟩
          rw [hS1] at hnw hSl hT ha ⊢
          have hu7' := HU.out
          have hwf : (Lit.int .i64 z).wf = true := wf_small (by omega) (by omega)
          have hlook := hT.out.seen.look z hwf
          rw [decide_eq_false hnw] at hlook
          obtain ⟨W4, hput, hse4, hgr4⟩ := hT.out.seen.put z hwf (by omega)
          have hzn : ¬ (z < 0) := by omega
          have hzu2 : ¬ ((u : Int) ≤ z) := by omega
          obtain ⟨p4, r4, b4⟩ := hT.out.put hse4 hgr4
          have HR4 := Lib.hid r4
          have HSE4 := Lib.hid hse4
          have HGR4 := Lib.hid hgr4
          have HS1 := Lib.hid hS1
          have H63 : Hid (S1.length + 1 ≤ maxLen) := by show _ ≤ _; unfold maxLen; omega
          have HBY : Hid ((S1.length + 1) * 8 ≤ 140737488355328) := by show _ ≤ _; omega
          have HSZ : Hid (W2.heap.size ≤ (W4.alloc (.cells #[.int .i64 z] 3)).heap.size) := by have := b4.size; show _ ≤ _; simp; omega
          have HJ : Hid (j + 1 ≤ l.length) := hjl
          clear ea hz hS1 hnw hz0 hzu hSl hwf hse4 hgr4 p4 r4 b4 hu7'
          go_wp2_with (at_builtin; obtain ⟨i0, hi0, hy0, hy1, hy2⟩ := info_parts info_int; refine wpList_append_own_at _ rfl _ _ 29 rfl W2.heap.size 3 i0 (.int .i64 0) 1 8 Try.underlying29 hi0 hy0 hy1 hy2 rfl (by decide) (.slice A1 S1.length c1) S1.length (iv S1) rfl (HR4.out.alloc _) ⟨W4.heap.size, 0, none⟩ 1 1 [.int .i64 z] rfl rfl (cell_one_new W4 _ _) (by simp [Value.oneCell']) H63.out HBY.out HSZ.out ?_; intro v' w2 hown5 hgrow5 hnil5 hat5; obtain ⟨A6, c6, rfl⟩ := own_form hown5; have HG5 := Lib.hid hgrow5; have HO5 := Lib.hid hown5; have HA5 := Lib.hid hat5; clear hi0 hy0 hy1 hy2 i0 hgrow5 hown5 hnil5 hat5)
          have hnx := hT.out.next HSE4.out HGR4.out HO5.out HG5.out
          obtain ⟨hot, hat⟩ := hT.out.other HGR4.out HG5.out HA5.out ho.out ha.out
          have e5 : S0 ++ l.take (j + 1) = S1 ++ [z] := by rw [HT.out, ← List.append_assoc, HS1.out]
          have e6 : (S1 ++ [z]).length = S1.length + 1 := by simp
          go_roundw
          case rel => exact ⟨j + 1, A6, c6, HJ.out, by go_num, by rw [e5, e6], by rw [e5, e6]; exact Lib.hid hnx, Lib.hid hot, by rw [e5, e6]; exact Lib.hid hat⟩
          case measure => simp [intOf]; omega
        · obtain rfl : j = l.length := by omega
          have hend : ¬ (((l.length : Nat) : Int) < ((l.length : Nat) : Int)) := by omega
          have e5 : S0 ++ l.take l.length = allP u c (q % c) (i + 1) := by
            rw [List.take_length, allP_step, HS0.out, ← HL.out, Nat.mod_add_mod]
          rw [e5] at hT ⊢
          have HI : Hid (i + 1 ≤ c) := hlt
          clear e5 ha ho
          go_wp2_with fail
          go_roundw
          case rel => exact ⟨i + 1, A1, c1, HI.out, by go_num, rfl, hT⟩
          case measure => simp [intOf]; omega
    · obtain rfl : i = c := by omega
      have hend : ¬ ((i : Int) < (i : Int)) := by omega
      obtain ⟨h1, h2, h3, h4⟩ := allP_all u HU.out i HCU.out (q % i) (Nat.mod_lt _ HC.out) HC.out
      obtain ⟨S, hSe⟩ : ∃ S, allP u i (q % i) i = S := ⟨_, rfl⟩
      rw [hSe] at hS h3 h4 ⊢
      have hrt := first_right HU.out HC.out HCU.out
      have hnxv : nextP 0 (firstP u i) S = (1, firstP u i, 0) := by
        have hid : (firstP u i).map (stayP S) = firstP u i := by
          rw [List.map_congr_left (g := id) (fun x hx => h4 x hx), List.map_id]
        unfold nextP
        rw [if_neg (by rw [hrt]; decide), if_neg, hid]
        · rfl
        · rintro ⟨x, hx, h0⟩
          rw [h4 x hx] at h0
          exact (of_decide_eq_true hrt : RightP 0 (firstP u i)).2.2.2.2.1 x hx h0
      have hmw : Mem wr wr.heap.size A rs := (HMEM.out.below hS.out.bel).more hS.out.bel.size
      have hnx := next_ok 0 A cc rs wr.heap.size A0 c0 S wr hmw (Nat.le_refl _) (Sl.of_own hS.out.row) (by have := HU.out; rw [h3]; unfold maxLen; omega) (by rw [HLS.out]; exact hrt) (by decide)
      rw [HLS.out, hnxv, HM0.out, h3] at hnx
      have HNX := Lib.hid hnx
      have hp0 := hS.out.p.blk.cell 0
      have hp1 := hS.out.p.blk.cell 1
      rw [h3] at hS ⊢
      have HMW := Lib.hid hmw
      clear h1 h2 h3 h4 hnx hnxv hrt hmw hSe
      go_wp2_with fail
      refine HNX.out.mono ?_
      rintro en3 W3 ⟨⟨A3, c3, rs3, rfl, hls3, hm3, hlo3⟩, hb3⟩
      have hA3 := hS.out.grow hb3
      have hb23 : Below W2.heap.size W2 W3 := hS.out.bel.trans (hb3.mono hS.out.bel.size)
      have hl3 : rs3.length = rs.length := by
        have e1 := congrArg List.length hls3
        have e2 := congrArg List.length HLS.out
        rw [List.length_map] at e1 e2
        exact e1.trans e2.symm
      rw [hl3, HM0.out]
      go_wp2_with fail
      obtain ⟨W4, hW4⟩ : ∃ X, W3.alloc (.cells #[.int .i64 0, .slice A3 m0 c3] 25) = X := ⟨_, rfl⟩
      rw [hW4]
      have ho4 : Obj1 W4 W3.heap.size 25 #[.int .i64 0, .slice A3 m0 c3] := by rw [← hW4]; exact Obj1.new _ _ _
      have hb34 : Below W3.heap.size W3 W4 := by rw [← hW4]; exact (Below.refl _ _).alloc (Nat.le_refl _) _
      have hp4 := hA3.p.below hb34 hA3.p.lt
      have hm4 : Mem W4 W4.heap.size A3 rs3 := (hm3.below hb34).more hb34.size
      have hmp4 : Mem W4 W4.heap.size A rs := (HMEM.out.below (hb23.trans (hb34.mono hb23.size))).more (hb23.trans (hb34.mono hb23.size)).size
      have hsa := fun (X : World) (hX : Below W4.heap.size W4 X) => splan_any 0 0 A3 A c3 cc rs3 rs W4.heap.size X (hm4.below hX).sl (hmp4.below hX).sl (hm4.below hX).ok (hmp4.below hX).ok hX.size (by rw [hl3, HM0.out, ← HM0.out, ← List.length_map (f := (·.l)), HLS.out, first_len]; unfold maxLen; have := HCU.out; have := HU.out; omega)
      rw [decide_eq_true (show (0 : Int) = 0 ∧ rs3.map (·.l) = rs.map (·.l) from ⟨rfl, by rw [hls3, HLS.out]⟩), hl3, HM0.out] at hsa
      have hp1' := fun (X : World) (hX : Below W4.heap.size W4 X) => place_any 0 A cc rs W4.heap.size (q : Int) X (hmp4.below hX).sl (hmp4.below hX).ok hX.size
      have hp2' := fun (X : World) (hX : Below W4.heap.size W4 X) => place_any 0 A cc rs W4.heap.size ((q : Int) + (i : Int)) X (hmp4.below hX).sl (hmp4.below hX).ok hX.size
      have hqi : (q : Int) + (i : Int) = ((q + i : Nat) : Int) := by push_cast; rfl
      rw [HLS.out, HM0.out, place_first HU.out HC.out HCU.out] at hp1'
      rw [HLS.out, HM0.out, hqi, place_first HU.out HC.out HCU.out, ← hqi, Nat.add_mod_right] at hp2'
      obtain ⟨l, hl⟩ : ∃ l, unitsOf i (q % i) u = l := ⟨_, rfl⟩
      rw [hl] at hp1' hp2'
      have hl7 : l.length ≤ maxLen := by rw [← hl]; have := unitsOf_len i (q % i) u; have := HU.out; unfold maxLen; omega
      have hsi := fun (A1 A2 : Option Addr) (c1 c2 : Nat) (X : World) (h1 : Sl X X.heap.size A1 (iv l)) (h2 : Sl X X.heap.size A2 (iv l)) => sints_any A1 A2 c1 c2 l l X.heap.size X h1 h2 hl7
      rw [decide_eq_true rfl] at hsi
      have HSA := Lib.hid hsa
      have HP1 := Lib.hid hp1'
      have HP2 := Lib.hid hp2'
      have HSI := Lib.hid hsi
      have HO4 := Lib.hid ho4
      have HP4 := Lib.hid hp4
      have hw4 : Below w.heap.size w W4 := (HBW.out.trans (hb23.mono HBW.out.size)).trans (hb34.mono (HBW.out.trans (hb23.mono HBW.out.size)).size)
      have HW4 := Lib.hid hw4
      have hpl4 := hp4.lt
      have hx0 := ho4.blk.cell 0
      have hx1 := ho4.blk.cell 1
      have hy0 := hp4.blk.cell 0
      have hy1 := hp4.blk.cell 1
      have hD : Below W4.heap.size W4 W4.drew := (Below.refl _ _).drew
      have hwr : IntKind.i64.wrap ((q : Int) + (i : Int)) = (q : Int) + (i : Int) := by have := HCU.out; have := HU.out; rw [IntKind.wrap_i64]; omega
      clear hW4 ho4 hb34 hp4 hm4 hmp4 hsa hp1' hp2' hqi hl hl7 hsi hw4 hp0 hp1 hA3 hb23 hl3 hls3 hm3 hlo3 hb3
      go_region_law
        (first
          | (go_simp; go_at_call 10
             with_reducible refine (HSA.out _ hD).mono ?_
             rintro e1 WS ⟨rfl, hbS⟩
             have bS : Below W4.heap.size W4 WS := hD.trans (hbS.mono hD.size)
             have s0 := (HP4.out.below bS hpl4).blk.cell 0
             have s1 := (HP4.out.below bS hpl4).blk.cell 1)
          | (go_simp; go_at_call 9
             with_reducible refine (HP1.out _ (by first | exact b2 | exact bS)).mono ?_
             rintro e2 WA ⟨⟨A1, c1, rfl, hown1⟩, hbA⟩
             have b1 : Below W4.heap.size W4 WA := (by first | exact b2.trans (hbA.mono b2.size) | exact bS.trans (hbA.mono bS.size))
             have t0 := (HP4.out.below b1 hpl4).blk.cell 0
             have t1 := (HP4.out.below b1 hpl4).blk.cell 1)
          | (go_simp; go_at_call 9
             with_reducible refine (HP2.out _ (by first | exact b1 | exact bS)).mono ?_
             rintro e3 WB ⟨⟨A2, c2, rfl, hown2⟩, hbB⟩
             have b2 : Below W4.heap.size W4 WB := (by first | exact b1.trans (hbB.mono b1.size) | exact bS.trans (hbB.mono bS.size))
             have r0 := (HP4.out.below b2 hpl4).blk.cell 0
             have r1 := (HP4.out.below b2 hpl4).blk.cell 1)
          | (go_simp; go_at_call 11
             with_reducible refine (HSI.out _ _ _ _ _ (by first | exact Sl.of_own hown1 | exact Sl.of_own (owns_below hown1 hbB)) (by first | exact Sl.of_own hown2 | exact Sl.of_own (owns_below hown2 hbA))).mono ?_
             rintro e4 WC ⟨rfl, n4, rfl⟩))
      all_goals
        go_wp2
        go_ret
        first
          | exact ⟨rfl, bdrewN (HW4.out.trans (b1.mono HW4.out.size)) _⟩
          | exact ⟨rfl, bdrewN (HW4.out.trans (b2.mono HW4.out.size)) _⟩
end Go.Proofs.Ytplhaghkhedliaa
