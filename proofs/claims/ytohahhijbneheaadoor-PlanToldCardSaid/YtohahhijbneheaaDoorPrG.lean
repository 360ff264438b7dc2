/- tidelineref11.Encode. -/
import Derived.Test.YtohahhijbneheaaDoorPrF
namespace Go.Proofs.YtohahhijbneheaaDoor
open Go.RowKit
set_option linter.unusedVariables false

/-- Own over draws and new memory; an own row of bytes under way, all that lay below n0 as it was. -/
structure OutS (n0 : Nat) (w1 : World) (l : List UInt8) (v : Value) (W : World) : Prop where
  own : Own W n0 v l
  bel : Below n0 w1 W

set_option maxRecDepth 100000 in
set_option maxHeartbeats 4000000 in
theorem rpencode_ok (e : Int) (A : Option Addr) (c : Nat) (rs : List Ch) (B : Nat) (w : World) (hm : Mem w B A rs) (hB : B ≤ w.heap.size) (hr12 : rs.length ≤ 12) (h12 : ∀ r ∈ rs, r.l.length ≤ 12) :
    Calls Tryd.prog 23 #[.agg #[.int .i64 e, .slice A rs.length c]] w fun en w' => NewBytes w.heap.size (wrapped (encPlan e (rs.map (·.l)))) en w' ∧ Below w.heap.size w w' := by
  obtain ⟨E, hE⟩ : ∃ E, encPlan e (rs.map (·.l)) = E := ⟨_, rfl⟩
  have hEl : E.length ≤ 1000 := by
    rw [← hE]
    exact encPlan_len (by rw [List.length_map]; exact hr12) (fun d hd => by obtain ⟨r, hr, rfl⟩ := List.mem_map.1 hd; exact h12 r hr)
  rw [hE]
  have HE := Lib.hid hE
  have H12 := Lib.hid h12
  have HM := Lib.hid hm
  obtain ⟨n, hN⟩ : ∃ n, rs.length = n := ⟨_, rfl⟩
  have HN := Lib.hid hN
  rw [hN] at hr12 ⊢
  have hcv : IntKind.u64.wrap (n : Int) = (n : Int) := by rw [IntKind.wrap_u64]; omega
  have h12i : ¬ ((12 : Int) < (n : Int)) := by omega
  have hbx := (Blk.new w #[.int .i64 e, .slice A n c] 24).alloc (.cells #[] 5)
  have HBX := Lib.hid hbx
  have HB0 : Hid (Below w.heap.size w ((w.alloc (.cells #[.int .i64 e, .slice A n c] 24)).alloc (.cells #[] 5))) := ((Below.refl _ _).alloc (Nat.le_refl _) _).alloc (by simp) _
  have HO0 : Hid (Own ((w.alloc (.cells #[.int .i64 e, .slice A n c] 24)).alloc (.cells #[] 5)) (w.heap.size + 1) (.slice (some ⟨w.heap.size + 1, 0, none⟩) 0 0) []) := by
    have h := World.ownsRow_made (w.alloc (.cells #[.int .i64 e, .slice A n c] 24)) (e := 5) (size := 1) #[] 0 (Nat.le_refl _) (Nat.zero_le _) rfl
    rw [World.size_alloc] at h
    exact h
  clear hE hm h12 hN hbx
  go_enter Tryd.func23, Tryd.ntmps23
  go_wp2_with fail
  rw [num_conv e]
  refine (put_own HO0.out (u64of e) 4 (u64_lt _) (by decide) (by simp) (by simp)).mono ?_
  rintro en w1 ⟨v1, rfl, ho1, hb1⟩
  have hbx1 := HBX.out.below hb1 (by omega)
  have hc1 := hbx1.cell 1
  have hpl := hbx1.lt
  have HBX1 := Lib.hid hbx1
  have HBk := Lib.hid (HB0.out.trans (hb1.mono (by omega)))
  have HO1 := Lib.hid ho1
  have hs1 : w.heap.size + 1 ≤ w1.heap.size := by have := hb1.size; simp at this; omega
  have HM1 := Lib.hid (HM.out.below (HBk.out.mono hB))
  obtain ⟨A1, cc1, rfl⟩ := ho1.form
  clear hbx1 ho1 hb1
  rw [List.nil_append] at HO1
  rw [List.nil_append, be_len]
  rw [be_len] at HO1
  go_wp2_with fail
  have HP2 := Lib.hid (put_own HO1.out n 4 (by omega) (by decide) (by rw [be_len]; omega) hs1)
  refine HP2.out.mono ?_
  rintro en w2 ⟨v2, rfl, ho2, hb2⟩
  have HST : Hid (OutS (w.heap.size + 1) w1 (beBytes (u64of e) 4 ++ beBytes n 4 ++ (((rs.take 0).map (·.l)).map putI).flatten) v2 w2) := by
    refine ⟨?_, hb2⟩
    simp only [List.take_zero, List.map_nil, List.flatten_nil, List.append_nil]
    exact ho2
  clear ho2 hb2 HP2 hc1
  go_wp2_with fail
  go_loopw [3, 4] (fun s3 s wr => ∃ k : Nat, k ≤ n ∧ s = .int .i64 (k : Int) ∧ Hid (OutS (w.heap.size + 1) w1 (beBytes (u64of e) 4 ++ beBytes n 4 ++ (((rs.take k).map (·.l)).map putI).flatten) s3 wr)) (fun _ s _ => n - (intOf s).toNat)
  case atStart => exact ⟨0, Nat.zero_le _, rfl, HST⟩
  case round =>
    clear HST
    obtain ⟨k, hk, rfl, hS⟩ := hrel
    obtain ⟨P, hP⟩ : ∃ P, beBytes (u64of e) 4 ++ beBytes n 4 ++ (((rs.take k).map (·.l)).map putI).flatten = P := ⟨_, rfl⟩
    have hPl : P.length ≤ 8 + 16 * k := by
      rw [← hP, List.length_append, List.length_append, be_len, be_len]
      have h2 := flat_len (cs := (rs.take k).map (·.l)) (fun d hd => by
        obtain ⟨r, hr', rfl⟩ := List.mem_map.1 hd
        exact H12.out r (List.mem_of_mem_take hr'))
      rw [List.length_map, List.length_take] at h2
      omega
    have HP := Lib.hid hP
    rw [hP] at hS
    clear hP
    obtain ⟨A3, cc3, rfl⟩ := hS.out.own.form
    have hbk := HBX1.out.below hS.out.bel (by omega)
    have hb1c := hbk.cell 1
    clear hbk
    by_cases hlt : k < n
    · have hi1 : (k : Int) < (n : Int) := by omega
      have hkl : k < rs.length := by rw [HN.out]; exact hlt
      obtain ⟨b1, o1, rfl, hb1, hc1w⟩ := HM1.out.sl.at (k := k) (by simpa using hkl)
      rw [List.getElem_map] at hc1w
      obtain ⟨hrow, -, -⟩ := HM1.out.ok _ (List.getElem_mem hkl)
      have h12k := H12.out _ (List.getElem_mem hkl)
      have HJ : Hid (rs.take (k + 1) = rs.take k ++ [rs[k]]) := List.take_succ_eq_append_getElem hkl
      obtain ⟨⟨A4, c4, l⟩, hr⟩ : ∃ r, rs[k] = r := ⟨_, rfl⟩
      rw [hr] at hc1w hrow h12k HJ
      replace hc1w : w1.cell? ⟨b1, o1 + k, none⟩ = some (.slice A4 l.length c4) := hc1w
      replace hrow : Sl w1 B A4 (iv l) := hrow
      replace h12k : l.length ≤ 12 := h12k
      obtain ⟨m, hM⟩ : ∃ m, l.length = m := ⟨_, rfl⟩
      have HML := Lib.hid hM
      rw [hM] at hc1w h12k
      have HRW := Lib.hid hrow
      have HC1W := Lib.hid hc1w
      have hb1w : b1 < w.heap.size + 1 := by omega
      have hc1 := (hS.out.bel.cell (p := ⟨b1, o1 + k, none⟩) hb1w).trans hc1w
      have hs : w.heap.size + 1 ≤ wr.heap.size := Nat.le_trans hs1 hS.out.bel.size
      have hcm : IntKind.u64.wrap (m : Int) = (m : Int) := by rw [IntKind.wrap_u64]; omega
      have HP3 := Lib.hid (put_own hS.out.own m 4 (by omega) (by decide) (by omega) hs)
      have h12m : ¬ ((12 : Int) < (m : Int)) := by omega
      clear hr hrow hM hc1w
      go_wp2_with fail
      refine HP3.out.mono ?_
      rintro en w3 ⟨v3, rfl, ho3, hb3⟩
      have HST : Hid (OutS (w.heap.size + 1) w1 (P ++ beBytes m 4 ++ (l.take 0).map b8) v3 w3) := by
        refine ⟨?_, hS.out.bel.trans hb3⟩
        rw [List.take_zero, List.map_nil, List.append_nil]
        exact ho3
      clear ho3 hb3 HP3 hb1c hc1
      go_wp2_with fail
      go_loopw [3, 5] (fun s3 s wr => ∃ j : Nat, j ≤ m ∧ s = .int .i64 (j : Int) ∧ Hid (OutS (w.heap.size + 1) w1 (P ++ beBytes m 4 ++ (l.take j).map b8) s3 wr)) (fun _ s _ => m - (intOf s).toNat)
      case atStart => exact ⟨0, Nat.zero_le _, rfl, HST⟩
      case round =>
        clear HST
        obtain ⟨j, hj, rfl, hI⟩ := hrel
        obtain ⟨Q, hQ⟩ : ∃ Q, P ++ beBytes m 4 ++ (l.take j).map b8 = Q := ⟨_, rfl⟩
        have hQl : Q.length ≤ 1000 := by
          rw [← hQ, List.length_append, List.length_append, be_len, List.length_map, List.length_take]; omega
        have HQ := Lib.hid hQ
        rw [hQ] at hI
        obtain ⟨A5, cc5, rfl⟩ := hI.out.own.form
        have hb1c := (HBX1.out.below hI.out.bel (by omega)).cell 1
        have hc1 := (hI.out.bel.cell (p := ⟨b1, o1 + k, none⟩) hb1w).trans HC1W.out
        clear hQ
        by_cases hlt2 : j < m
        · have hi2 : (j : Int) < (m : Int) := by omega
          have hjl : j < l.length := by rw [HML.out]; exact hlt2
          obtain ⟨b2, o2, rfl, hb2, hc2w⟩ := HRW.out.at (k := j) (by simpa [iv] using hjl)
          have ea : (iv l)[j]'(by simpa [iv] using hjl) = Value.int .i64 l[j] := by simp [iv]
          rw [ea] at hc2w
          have hc2 := (hI.out.bel.cell (p := ⟨b2, o2 + j, none⟩) (by show b2 < _; omega)).trans hc2w
          have HJ2 : Hid (l.take (j + 1) = l.take j ++ [l[j]]) := List.take_succ_eq_append_getElem hjl
          obtain ⟨z, hz⟩ : ∃ z, l[j] = z := ⟨_, rfl⟩
          rw [hz] at hc2 HJ2
          have k1 := byte_conv z
          have hs2 : w.heap.size + 1 ≤ wr.heap.size := Nat.le_trans hs1 hI.out.bel.size
          have HIO := Lib.hid hI.out.own
          have HL7 : Hid (Q.length ≤ 70368744177000) := by show _ ≤ _; omega
          have HBL := Lib.hid hI.out.bel
          clear ea hz hc2w
          go_wp2_with (at_builtin; refine wpList_append_byte rfl _ _ rfl (w.heap.size + 1) (.slice A5 Q.length cc5) Q rfl (HIO.out.below ((Below.refl _ _).alloc (Nat.le_refl _) _)) wr.heap.size (b8 z) rfl (heap_alloc_new wr _) HL7.out (by simp; omega) ?_; intro v4 w4 ho4 hb4; have HO4 := Lib.hid ho4; have HB4 := Lib.hid hb4; clear ho4 hb4)
          have HSN : Hid (OutS (w.heap.size + 1) w1 (P ++ beBytes m 4 ++ (l.take (j + 1)).map b8) v4 w4) := by
            refine ⟨?_, HBL.out.trans (((Below.refl _ _).alloc hs2 _).trans HB4.out)⟩
            rw [HJ2.out, List.map_append, ← List.append_assoc, HQ.out]
            exact HO4.out
          go_roundw
          case rel => exact ⟨j + 1, by omega, by go_num, HSN⟩
          case measure => simp [intOf]; omega
        · obtain rfl : j = m := by omega
          have hend : ¬ ((j : Int) < (j : Int)) := by omega
          have HSN : Hid (OutS (w.heap.size + 1) w1 (beBytes (u64of e) 4 ++ beBytes n 4 ++ (((rs.take (k + 1)).map (·.l)).map putI).flatten) (.slice A5 Q.length cc5) wr) := by
            have h1 := HQ.out
            rw [List.take_of_length_le (Nat.le_of_eq HML.out)] at h1
            have h2 : beBytes (u64of e) 4 ++ beBytes n 4 ++ (((rs.take (k + 1)).map (·.l)).map putI).flatten = Q := by
              rw [HJ.out, ← h1, ← HP.out]
              simp only [List.map_append, List.map_cons, List.map_nil, List.flatten_append, List.flatten_cons, List.flatten_nil, List.append_nil, ← List.append_assoc, putI, HML.out]
            rw [h2]
            exact hI.out
          go_wp2_with fail
          go_roundw
          case rel => exact ⟨k + 1, by omega, by go_num, HSN⟩
          case measure => simp [intOf]; omega
    · obtain rfl : k = n := by omega
      have hend : ¬ ((k : Int) < (k : Int)) := by omega
      have hPE : P = E := by
        rw [← HP.out, ← HE.out, List.take_of_length_le (Nat.le_of_eq HN.out)]
        unfold encPlan
        rw [List.length_map, HN.out]
      subst hPE
      have hb2 : Below w.heap.size w wr := HBk.out.trans (hS.out.bel.mono (by omega))
      have HB2 := Lib.hid hb2
      have HWR := Lib.hid (rwrap_ok A3 cc3 wr.heap.size P wr (Sl.of_own hS.out.own) (fun e => by have hh := hS.out.own; rw [e] at hh; exact owns_nil0 hh) (by omega) (Nat.le_refl _))
      clear hb2
      go_wp2_with fail
      refine HWR.out.mono ?_
      rintro en w4 ⟨⟨A4, c4, rfl, ho4⟩, hb4⟩
      go_wp2_with fail
      go_ret
      exact ⟨⟨A4, c4, rfl, row_low ho4 HB2.out.size⟩, HB2.out.trans (hb4.mono HB2.out.size)⟩
end Go.Proofs.YtohahhijbneheaaDoor
