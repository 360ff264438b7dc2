/- tidelineref11.Next of a right plan. -/
import Derived.Test.YtohahhijbneheaaDoorPrD
namespace Go.Proofs.YtohahhijbneheaaDoor
open Go.RowKit
set_option linter.unusedVariables false
attribute [local go_sem] Oper.semAt_some

set_option maxRecDepth 100000 in
set_option maxHeartbeats 8000000 in
theorem rnext_ok (e : Int) (A : Option Addr) (c : Nat) (rs : List Ch) (B : Nat) (TA : Option Addr) (tc : Nat) (t : List Int) (w : World) (hm : Mem w B A rs) (hB : B ≤ w.heap.size) (ht : Sl w B TA (iv t)) (htl : t.length ≤ maxLen)
    (hr : rightP e (rs.map (·.l)) = true) (he : e ≠ 2147483647) :
    Calls Tryd.prog 14 #[.agg #[.int .i64 e, .slice A rs.length c], .slice TA t.length tc] w fun en w' =>
      NewPlan w.heap.size (nextP e (rs.map (·.l)) t).1 (nextP e (rs.map (·.l)) t).2.1 (nextP e (rs.map (·.l)) t).2.2 en w' ∧ Below w.heap.size w w' := by
  have hright := fun (W : World) (hb : Below B w W) (h : B ≤ W.heap.size) => rright_any e A c rs B W (hm.below hb).sl (hm.below hb).ok h
  have HRT := Lib.hid hright
  have HM := Lib.hid hm
  have HT := Lib.hid ht
  have HR := Lib.hid hr
  clear hm ht hr hright
  obtain ⟨n, hN⟩ : ∃ n, rs.length = n := ⟨_, rfl⟩
  have HN := Lib.hid hN
  obtain ⟨tn, hTN⟩ : ∃ n, t.length = n := ⟨_, rfl⟩
  have HTN := Lib.hid hTN
  obtain ⟨ls, hls⟩ : ∃ ls, rs.map (·.l) = ls := ⟨_, rfl⟩
  have HLS := Lib.hid hls
  rw [hls] at HRT HR ⊢
  rw [HR.out, hN] at HRT
  rw [hN, hTN]
  rw [hTN] at htl
  unfold maxLen at htl
  have htl63 : (tn : Int) ≤ 9223372036854775807 := by omega
  clear hN hTN hls
  have hb0 : Below w.heap.size w ((w.alloc (.cells #[.int .i64 e, .slice A n c] 24)).alloc (.cells #[.int .i64 0, .slice none 0 0] 24)) := ((Below.refl _ _).alloc (Nat.le_refl _) _).alloc (by simp) _
  have hbx := (Blk.new w #[.int .i64 e, .slice A n c] 24).alloc (.cells #[.int .i64 0, .slice none 0 0] 24)
  have hz := Obj1.new (w.alloc (.cells #[.int .i64 e, .slice A n c] 24)) 24 #[.int .i64 0, .slice none 0 0]
  rw [World.size_alloc] at hz
  have HB0 := Lib.hid hb0
  have HBX := Lib.hid hbx
  have HZ := Lib.hid hz
  clear hb0 hbx hz
  obtain ⟨e0, e1, -⟩ := (of_decide_eq_true HR.out : RightP e ls)
  have he2 : e + 1 ≤ 2147483647 := by omega
  have hNE : ¬ (e = 2147483647) := he
  have heb : (e == 2147483647) = false := by rw [beq_eq_false_iff_ne]; exact he
  have HE := Lib.hid he
  clear he
  go_enter Tryd.func14, Tryd.ntmps14
  go_wp2_with fail
  refine (HRT.out _ (HB0.out.mono hB) (by simp only [World.size_alloc]; omega)).mono ?_
  rintro en W1 ⟨rfl, hb1⟩
  have hbx1 := HBX.out.belowAll hb1
  have hp0 := hbx1.cell 0
  have hp1 := hbx1.cell 1
  have hpl := hbx1.lt
  have HBX1 := Lib.hid hbx1
  have HB1 := Lib.hid (HB0.out.trans (hb1.mono HB0.out.size))
  have hz1 := HZ.out.below hb1 HZ.out.lt
  have HZ1 := Lib.hid hz1
  have HM1 := Lib.hid (HM.out.below (HB1.out.mono hB))
  have HT1 := Lib.hid (HT.out.below (HB1.out.mono hB))
  have hBW : B ≤ W1.heap.size := Nat.le_trans hB HB1.out.size
  have HST : Hid (ColZ W1 (e + 1) W1.heap.size (w.heap.size + 1) (.slice none 0 0) [] (W1.alloc (.cells #[.int .i64 (e + 1), .slice none 0 0] 24))) :=
    ⟨ColS.start W1 (Nat.le_refl _), hz1.alloc _, by have := hz1.lt; omega, (Below.refl _ _).alloc (Nat.le_refl _) _⟩
  clear hbx1 hb1 hz1
  go_wp2_with fail
  clear hp0 hp1
  go_loopw [7] (fun s wr => ∃ (k : Nat) (v : Value) (us : List Ch), k ≤ n ∧ s = .int .i64 (k : Int) ∧ Hid (ColZ W1 (e + 1) W1.heap.size (w.heap.size + 1) v us wr) ∧ Hid (us.map (·.l) = (ls.take k).map (stayP t)) ∧ Hid (∀ x ∈ ls.take k, stayP t x ≠ [])) (fun s _ => n - (intOf s).toNat)
  case atStart => exact ⟨0, _, [], Nat.zero_le _, rfl, HST, Lib.hid (by simp), Lib.hid (by simp)⟩
  case round =>
    clear HST
    obtain ⟨k, v, us, hk, rfl, hS, hLs, hE⟩ := hrel
    obtain ⟨A0, c0, rfl⟩ := own_form hS.out.col.row
    have hbk := HBX1.out.below hS.out.bel hpl
    have hb1c := hbk.cell 1
    clear hbk
    by_cases hlt : k < n
    · have hi1 : (k : Int) < (n : Int) := by omega
      have hkr : k < rs.length := by rw [HN.out]; exact hlt
      have hkl : k < ls.length := by rw [← HLS.out, List.length_map, HN.out]; exact hlt
      obtain ⟨b1, o1, rfl, hb1, hc1w⟩ := HM1.out.sl.at (k := k) (by simpa using hkr)
      rw [List.getElem_map] at hc1w
      obtain ⟨hrow, -, -⟩ := HM1.out.ok _ (List.getElem_mem hkr)
      have hrl : ls[k] = rs[k].l := by simp only [← HLS.out, List.getElem_map]
      obtain ⟨⟨A2, c2, l⟩, hr⟩ : ∃ r, rs[k] = r := ⟨_, rfl⟩
      rw [hr] at hc1w hrow hrl
      replace hc1w : W1.cell? ⟨b1, o1 + k, none⟩ = some (.slice A2 l.length c2) := hc1w
      replace hrow : Sl W1 B A2 (iv l) := hrow
      replace hrl : ls[k] = l := hrl
      have hrp : RightP e ls := of_decide_eq_true HR.out
      have hl7 : l.length ≤ 7 := chain_len hrp (by rw [← hrl]; exact List.getElem_mem hkl)
      have hn7 : n ≤ 7 := by have h1 := hrp.2.2.2.1; rw [← HLS.out, List.length_map, HN.out] at h1; exact h1
      have HRW := Lib.hid hrow
      have HRL := Lib.hid hrl
      have HN7 := Lib.hid hn7
      have hn7i : ¬ ((7 : Int) < (n : Int)) := by omega
      have hb1w : b1 < W1.heap.size := Nat.lt_of_lt_of_le hb1 hBW
      have HULEN : Hid (us.length = k) := by
        have h1 := congrArg List.length hLs.out
        rw [List.length_map, List.length_map, List.length_take, Nat.min_eq_left (Nat.le_of_lt hkl)] at h1
        exact h1
      obtain ⟨m, hM⟩ : ∃ m, l.length = m := ⟨_, rfl⟩
      rw [hM] at hc1w hl7
      have HM := Lib.hid hM
      have HL7 := Lib.hid hl7
      have HC1W := Lib.hid hc1w
      clear hr hrow hrl hrp hn7 hM hc1w hl7
      go_wp2_with fail
      have HIN := Lib.hid (InnS.start wr)
      obtain ⟨W0, hW0⟩ : ∃ X, wr = X := ⟨_, rfl⟩
      rw [hW0] at hS HIN ⊢
      clear hW0 hb1c wr
      go_loopw [8, 9] (fun s8 s9 wr => ∃ j : Nat, j ≤ m ∧ s9 = .int .i64 (j : Int) ∧ Hid (InnS W0 (stayP t (l.take j)) s8 wr)) (fun _ s9 _ => m - (intOf s9).toNat)
      case atStart => exact ⟨0, Nat.zero_le _, rfl, Lib.hid (by simpa [stayP] using HIN.out)⟩
      case round =>
        clear HIN
        obtain ⟨j, hj, rfl, hI⟩ := hrel
        obtain ⟨A1, cc1, rfl⟩ := own_form hI.out.row
        have hbel : Below W1.heap.size W1 wr := hS.out.bel.trans (hI.out.bel.mono hS.out.bel.size)
        have HBEL := Lib.hid hbel
        have hb1c := (HBX1.out.below hbel hpl).cell 1
        have hc1 := (hbel.cell (p := ⟨b1, o1 + k, none⟩) hb1w).trans HC1W.out
        clear hbel
        obtain ⟨L, hL⟩ : ∃ L, stayP t (l.take j) = L := ⟨_, rfl⟩
        have HL := Lib.hid hL
        rw [hL] at hI ⊢
        have hLj : L.length ≤ j := by rw [← hL]; exact Nat.le_trans (stay_len _ _) (List.length_take_le _ _)
        obtain ⟨q, hq⟩ : ∃ q, L.length = q := ⟨_, rfl⟩
        have HQ := Lib.hid hq
        rw [hq] at hLj ⊢
        clear hL hq
        by_cases hlt2 : j < m
        · have hi2 : (j : Int) < (m : Int) := by omega
          have hjl : j < l.length := by rw [HM.out]; exact hlt2
          obtain ⟨b2, o2, rfl, hb2, hc2w⟩ := HRW.out.at (k := j) (by simpa [iv] using hjl)
          have ea : (iv l)[j]'(by simpa [iv] using hjl) = Value.int .i64 l[j] := by simp [iv]
          rw [ea] at hc2w
          have hc2 := (HBEL.out.cell (p := ⟨b2, o2 + j, none⟩) (Nat.lt_of_lt_of_le hb2 hBW)).trans hc2w
          have HJ : Hid (l.take (j + 1) = l.take j ++ [l[j]]) := List.take_succ_eq_append_getElem hjl
          obtain ⟨z, hz⟩ : ∃ z, l[j] = z := ⟨_, rfl⟩
          rw [hz] at hc2 HJ
          have HL7' := HL7.out
          clear ea hz hc2w
          go_wp2_with fail
          go_loopw [10, 11] (fun s10 s11 wr3 => ∃ (i q : Nat), i ≤ tn ∧ s11 = .int .i64 (i : Int) ∧ s10 = .bool (decide (z ∈ t.take i)) ∧ wr3 = wr.drewN q) (fun _ s11 _ => tn - (intOf s11).toNat)
          case atStart => exact ⟨0, 0, Nat.zero_le _, rfl, by simp, rfl⟩
          case round =>
            obtain ⟨i, qd, hi, rfl, rfl, rfl⟩ := hrel
            by_cases hlt3 : i < tn
            · have hi3 : (i : Int) < (tn : Int) := by omega
              have hil : i < t.length := by rw [HTN.out]; exact hlt3
              obtain ⟨b3, o3, rfl, hb3, hc3w⟩ := HT1.out.at (k := i) (by simpa [iv] using hil)
              have ea : (iv t)[i]'(by simpa [iv] using hil) = Value.int .i64 t[i] := by simp [iv]
              rw [ea] at hc3w
              have hc3 := (HBEL.out.cell (p := ⟨b3, o3 + i, none⟩) (Nat.lt_of_lt_of_le hb3 hBW)).trans hc3w
              have hms := mem_snoc (x := z) (List.take_succ_eq_append_getElem hil)
              obtain ⟨y, hy⟩ : ∃ y, t[i] = y := ⟨_, rfl⟩
              rw [hy] at hc3 hms
              obtain ⟨d, hd⟩ : ∃ d, decide (z ∈ t.take i) = d := ⟨_, rfl⟩
              rw [hd] at hms ⊢
              obtain ⟨d2, hd2⟩ : ∃ d2, decide (y = z) = d2 := ⟨_, rfl⟩
              rw [hd2] at hms
              have HMS := Lib.hid hms
              clear ea hy hd hms hc3w
              cases d with
              | true =>
                clear hd2
                go_wp2_with fail
                go_quiet (fail)
                go_wp2
                go_roundw
                case rel => exact ⟨i + 1, _, by omega, by go_num, by rw [HMS.out]; rfl, by first | rfl | exact World.drewN_drewN _ _ _⟩
                case measure => simp [intOf]; omega
              | false =>
                cases d2 with
                | true =>
                  have hyz : y = z := of_decide_eq_true hd2
                  subst hyz
                  clear hd2
                  go_wp2_with fail
                  go_quiet (fail)
                  go_wp2
                  go_roundw
                  case rel => exact ⟨i + 1, _, by omega, by go_num, by rw [HMS.out]; simp, by first | rfl | exact World.drewN_drewN _ _ _⟩
                  case measure => simp [intOf]; omega
                | false =>
                  have hyz : (y == z) = false := by rw [beq_eq_false_iff_ne]; exact of_decide_eq_false hd2
                  clear hd2
                  go_wp2_with fail
                  go_quiet (fail)
                  go_wp2
                  go_roundw
                  case rel => exact ⟨i + 1, _, by omega, by go_num, by rw [HMS.out]; simp, by first | rfl | exact World.drewN_drewN _ _ _⟩
                  case measure => simp [intOf]; omega
            · obtain rfl : i = tn := by omega
              have hend : ¬ ((i : Int) < (i : Int)) := by omega
              rw [List.take_of_length_le (Nat.le_of_eq HTN.out)]
              have hsn := stay_snoc2 t (l.take j) z
              rw [HL.out, ← HJ.out] at hsn
              by_cases hin : z ∈ t
              · rw [if_pos hin] at hsn
                rw [decide_eq_true hin]
                have HSN := Lib.hid hsn
                have H63 : Hid (q + 1 ≤ maxLen) := by show _ ≤ _; unfold maxLen; omega
                have HBY : Hid ((q + 1) * 8 ≤ 140737488355328) := by show _ ≤ _; omega
                have HID := Lib.hid (hI.out.drewN qd)
                have HSZ : Hid (W0.heap.size ≤ (wr.drewN qd).heap.size) := HID.out.bel.size
                have HROW := Lib.hid HID.out.row
                rw [HQ.out] at HROW
                clear hsn hin
                go_wp2_with (at_builtin; obtain ⟨i0, hi, hz0, hz1, hz2⟩ := info_parts info_int; refine wpList_append_own _ rfl _ _ 25 rfl W0.heap.size 3 i0 (.int .i64 0) 1 8 Tryd.underlying25 hi hz0 hz1 hz2 rfl (by decide) (.slice A1 q cc1) q (iv L) rfl (HROW.out.alloc _) ⟨(wr.drewN qd).heap.size, 0, none⟩ 1 1 [.int .i64 z] rfl rfl (World.news_of_block (cs := #[.int .i64 z]) (t := 3) (fr := (0, 0)) (heap_alloc_new (wr.drewN qd) _)) (by simp [Value.oneCell']) H63.out HBY.out (by have := HSZ.out; simp at this ⊢; omega) ?_; intro v' w2 hown5 hgrow5 hnil5; have HG5 := Lib.hid hgrow5; have HO5 := Lib.hid hown5; clear hi hz0 hz1 hz2 i0 hgrow5 hown5 hnil5)
                rw [← HQ.out] at HO5 HG5
                have HIX := Lib.hid (HID.out.snoc HO5.out HG5.out)
                rw [← HSN.out] at HIX
                go_roundw
                case rel => exact ⟨j + 1, by omega, by go_num, HIX⟩
                case measure => simp [intOf]; omega
              · rw [if_neg hin] at hsn
                rw [decide_eq_false hin]
                have HSN := Lib.hid hsn
                have HIX : Hid (InnS W0 (stayP t (l.take (j + 1))) (.slice A1 q cc1) (wr.drewN qd)) := by
                  rw [HSN.out, ← HQ.out]
                  exact Lib.hid (hI.out.drewN qd)
                clear hsn hin
                go_wp2_with fail
                go_roundw
                case rel => exact ⟨j + 1, by omega, by go_num, HIX⟩
                case measure => simp [intOf]; omega
        · obtain rfl : j = m := by omega
          have hend : ¬ ((j : Int) < (j : Int)) := by omega
          have hLs2 := HL.out
          rw [List.take_of_length_le (Nat.le_of_eq HM.out)] at hLs2
          have HLS2 := Lib.hid hLs2
          have HCB := Lib.hid (hS.out.below hI.out.bel)
          have HL7' := HL7.out
          clear hLs2
          by_cases hz : q = 0
          · subst hz
            have hzz := HCB.out.z.blk
            have hz0 := hzz.cell 0
            have hz1 := hzz.cell 1
            have hzf := hzz.free
            have hzl := hzz.lt
            clear hzz
            go_wp2_with fail
            refine bodyPost_ret (v := .tuple #[.agg #[.int .i64 0, .slice none 0 0], .int .i64 5]) (results_row_tmp Tryd.results14 _ _ (w.heap.size + 1) 24 #[.int .i64 0, .slice none 0 0] (0, 0) _ _ rfl rfl (blk_set (blk_set HCB.out.z _) _) Tryd.underlying24 rfl (by kernel_rfl)) rfl ?_
            rw [next_bare hkl (by rw [HRL.out, HLS2.out]; exact List.eq_nil_of_length_eq_zero HQ.out) HR.out HE.out]
            exact ⟨NewPlan.nil _ 5 _, ((HB1.out.trans (HCB.out.bel.mono HB1.out.size)).setCell (p := ⟨w.heap.size + 1, 0, none⟩) (Nat.le_succ _) _).setCell (p := ⟨w.heap.size + 1, 1, none⟩) (Nat.le_succ _) _⟩
          · have hzi : ¬ ((q : Int) = 0) := by omega
            have hul := HULEN.out
            have H63 : Hid (us.length + 1 ≤ maxLen) := by have := HN7.out; show _ ≤ _; unfold maxLen; omega
            have HBY : Hid ((us.length + 1) * 24 ≤ 140737488355328) := by have := HN7.out; show _ ≤ _; omega
            have HSZ : Hid (W1.heap.size ≤ wr.heap.size) := HCB.out.bel.size
            have HROW := Lib.hid HCB.out.col.row
            have hbn := HCB.out.col.n.blk
            have hbn1 := hbn.cell 1
            have hbnf := hbn.free 1
            have hbnl := hbn.lt
            clear hul hbn
            go_wp2_with (at_builtin; obtain ⟨i0, hi, hz0, hz1, hz2⟩ := info_parts info_ints; refine wpList_append_own _ rfl _ _ 22 rfl W1.heap.size 25 i0 (.slice none 0 0) 1 24 Tryd.underlying22 hi hz0 hz1 hz2 rfl (by decide) (.slice A0 us.length c0) us.length (us.map Ch.val) rfl (HROW.out.alloc _) ⟨wr.heap.size, 0, none⟩ 1 1 [.slice A1 q cc1] rfl rfl (cell_one_new wr _ _) (by simp [Value.oneCell']) H63.out HBY.out (by have := HSZ.out; simp; omega) ?_; intro v' w2 hown5 hgrow5 hnil5; obtain ⟨A5, c5, rfl⟩ := own_form hown5; have HQQ := HCB.out.col.bn2 hgrow5; have hq1 := HQQ.1; have hq2 := HQQ.2; have HG5 := Lib.hid hgrow5; have HO5 := Lib.hid hown5; clear hi hz0 hz1 hz2 i0 hgrow5 hown5 hnil5 HQQ)
            rw [← HQ.out] at HO5
            have HCL := Lib.hid (hS.out.close hI.out HG5.out HO5.out)
            have HLN : Hid ((us ++ [(⟨A1, cc1, L⟩ : Ch)]).map (·.l) = (ls.take (k + 1)).map (stayP t)) := by
              show _ = _
              rw [List.map_append, hLs.out, List.take_succ_eq_append_getElem hkl, List.map_append, HRL.out]
              show _ ++ [L] = _ ++ [stayP t l]
              rw [HLS2.out]
            go_roundw
            case rel => exact ⟨k + 1, _, _, by omega, by go_num, HCL, HLN, Lib.hid (by
              show ∀ _, _
              rw [List.take_succ_eq_append_getElem hkl]
              intro x hx
              rcases List.mem_append.1 hx with hx | hx
              · exact hE.out x hx
              · rw [List.mem_singleton.1 hx, HRL.out, HLS2.out]
                intro e'
                rw [e'] at HQ
                exact hz HQ.out.symm)⟩
            case measure => simp [intOf]; omega
    · obtain rfl : k = n := by omega
      have hend : ¬ ((k : Int) < (k : Int)) := by omega
      have hzb := hS.out.z.blk
      have hz0 := hzb.cell 0
      have hz1 := hzb.cell 1
      have hzf := hzb.free
      have hzl := hzb.lt
      have hnb := hS.out.col.n.blk
      have hn0 := hnb.cell 0
      have hn1 := hnb.cell 1
      have HZO := Lib.hid hS.out.z
      have hkl : ls.length = k := by rw [← HLS.out, List.length_map, HN.out]
      have hl2 := hLs.out
      have hE2 := hE.out
      rw [List.take_of_length_le (Nat.le_of_eq hkl)] at hl2 hE2
      have hnx : nextP e ls t = (e + 1, ls.map (stayP t), 0) := by
        unfold nextP
        rw [if_neg (by rw [HR.out]; simpa using HE.out), if_neg (by rintro ⟨c, hc, h0⟩; exact hE2 c hc h0)]
      have hdn := hS.out.done (k := 0) (.int .i64 (e + 1)) (.slice A0 us.length c0)
      rw [hl2] at hdn
      have HNX := Lib.hid hnx
      have HDN := Lib.hid (hdn.mono HB1.out.size)
      clear hzb hnb hdn hnx hl2 hE2 hkl
      go_wp2_with fail
      refine bodyPost_ret (v := .tuple #[.agg #[.int .i64 (e + 1), .slice A0 us.length c0], .int .i64 0]) (results_row_tmp Tryd.results14 _ _ (w.heap.size + 1) 24 #[.int .i64 (e + 1), .slice A0 us.length c0] (0, 0) _ _ rfl rfl (blk_set (blk_set HZO.out _) _) Tryd.underlying24 rfl (by kernel_rfl)) rfl ?_
      rw [HNX.out]
      exact ⟨HDN.out, ((HB1.out.trans (hS.out.bel.mono HB1.out.size)).setCell (p := ⟨w.heap.size + 1, 0, none⟩) (Nat.le_succ _) _).setCell (p := ⟨w.heap.size + 1, 1, none⟩) (Nat.le_succ _) _⟩
/-- tidelineref11.Next of any plan. -/
theorem rnext_any (e : Int) (A : Option Addr) (c : Nat) (rs : List Ch) (B : Nat) (TA : Option Addr) (tc : Nat) (t : List Int) (w : World) (hm : Mem w B A rs) (hB : B ≤ w.heap.size) (ht : Sl w B TA (iv t)) (htl : t.length ≤ maxLen) :
    Calls Tryd.prog 14 #[.agg #[.int .i64 e, .slice A rs.length c], .slice TA t.length tc] w fun en w' =>
      NewPlan w.heap.size (nextP e (rs.map (·.l)) t).1 (nextP e (rs.map (·.l)) t).2.1 (nextP e (rs.map (·.l)) t).2.2 en w' ∧ Below w.heap.size w w' := by
  by_cases h : rightP e (rs.map (·.l)) = false ∨ e = 2147483647
  · rw [nextP_bad h]
    exact rnext_bad e A c rs B TA tc t.length w hm hB h
  · exact rnext_ok e A c rs B TA tc t w hm hB ht htl (by cases q : rightP e (rs.map (·.l)); exact absurd (.inl q) h; rfl) (fun q => h (.inr q))
end Go.Proofs.YtohahhijbneheaaDoor
