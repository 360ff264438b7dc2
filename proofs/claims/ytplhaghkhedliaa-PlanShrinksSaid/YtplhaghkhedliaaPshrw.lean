/- PlanShrinks: the walk. -/
import Derived.Test.YtplhaghkhedliaaPlanX
import Derived.Test.YtplhaghkhedliaaPlanK
import Derived.Deep.CutRange
namespace Go.Proofs.Ytplhaghkhedliaa
open Go.RowKit
set_option linter.unusedVariables false
attribute [local go_sem] Oper.semAt_some

/-- What the loop holds at k. -/
structure ShrS (w : World) (pb c : Nat) (e : Int) (A : Option Addr) (cc : Nat) (rs : List Ch) (k : Nat) (W : World) : Prop where
  p : Obj1 W pb 25 #[.int .i64 e, .slice A rs.length cc]
  m : Mem W W.heap.size A rs
  r : rightP e (rs.map (·.l)) = true
  len : rs.length = c
  e0 : 0 ≤ e
  ek : e ≤ k
  bel : Below w.heap.size w W
  pbw : w.heap.size ≤ pb

theorem ShrS.grow {w : World} {pb c : Nat} {e : Int} {A : Option Addr} {cc : Nat} {rs : List Ch} {k : Nat} {W W' : World} (h : ShrS w pb c e A cc rs k W) (hb : Below W.heap.size W W') : ShrS w pb c e A cc rs (k + 1) W' :=
  ⟨h.p.below hb h.p.lt, (h.m.below hb).more hb.size, h.r, h.len, h.e0, by have := h.ek; omega, h.bel.trans (hb.mono h.bel.size), h.pbw⟩

theorem count_step' {t a b : List Int} {j kx : Nat} {z : Int} (hj : j < a.length) (hk : (stayP t (a.take j)).length = kx) (hz : a[j] = z) (hb : stayP t a = b) :
    ((stayP t (a.take (j + 1))).length = if z ∈ t then kx + 1 else kx) ∧ (z ∈ t → ∃ h : kx < b.length, b[kx] = z) ∧ (z ∉ t → ∀ h : kx < b.length, b[kx] ≠ z) := by
  subst hk; subst hz; subst hb
  exact count_step hj
set_option maxRecDepth 100000 in
set_option maxHeartbeats 8000000 in
theorem pshr_main (u c q : Nat) (hu : u ≤ 7) (hc : 1 ≤ c) (hcu : c ≤ u) (TA : Option Addr) (tc : Nat) (ts : List Ch) (B : Nat) (w : World) (hm : Mem w B TA ts) (hB : B ≤ w.heap.size) (htl : ts.length ≤ 20) :
    Calls Try.prog 3 #[.int .i64 (u : Int), .int .i64 (c : Int), .slice TA ts.length tc, .int .i64 (q : Int)] w fun e w' => e = .returned (.bool true) ∧ Below w.heap.size w w' := by
  have HM := Lib.hid hm
  have HU := Lib.hid hu
  have HC := Lib.hid hc
  have HCU := Lib.hid hcu
  have HF := Lib.hid (fun W : World => first_ok u c hu hc hcu W)
  have HSP := Lib.hid (fun W : World => speaks11 W)
  have HFR := Lib.hid (first_right hu hc hcu)
  have HFL := Lib.hid (first_len u c)
  obtain ⟨n, hN⟩ : ∃ n, ts.length = n := ⟨_, rfl⟩
  have HN := Lib.hid hN
  rw [hN] at htl ⊢
  have ht20 : ¬ ((20 : Int) < (n : Int)) := by omega
  have hq0 : ¬ ((q : Int) < 0) := by omega
  have hc7 : ¬ ((7 : Int) < (c : Int)) := by omega
  clear hm hu hc hcu hN
  go_enter Try.func3, Try.ntmps3
  go_wp2_with fail
  refine (HSP.out _).mono ?_
  rintro en W1 ⟨rfl, hb1⟩
  go_wp2_with fail
  refine (HF.out _).mono ?_
  rintro en2 W2 ⟨⟨A, cc, rs, rfl, hls, hmem, -⟩, hb2⟩
  have hS : ShrS w W2.heap.size c 0 A cc rs 0 (W2.alloc (.cells #[.int .i64 0, .slice A rs.length cc] 25)) := by
    have hbx : Below w.heap.size w W2 := hb1.trans (hb2.mono hb1.size)
    exact ⟨Obj1.new _ _ _, (hmem.below ((Below.refl _ _).alloc (Nat.le_refl _) _)).more (by simp), by rw [hls]; exact HFR.out, by rw [← HFL.out, ← hls, List.length_map], by decide, by decide, hbx.alloc hbx.size _, hbx.size⟩
  have HS0 := Lib.hid hS
  obtain ⟨m0, hm0⟩ : ∃ m, rs.length = m := ⟨_, rfl⟩
  rw [hm0]
  clear hS hls hmem HF HFR HFL hb1 hb2
  go_wp2_with fail
  rw [← hm0]
  go_loopw [54] (fun s wr => ∃ (k : Nat) (e : Int) (A : Option Addr) (cc : Nat) (rs : List Ch), k ≤ n ∧ s = .int .i64 (k : Int) ∧ Hid (ShrS w W2.heap.size c e A cc rs k wr)) (fun s _ => n - (intOf s).toNat)
  case atStart => exact ⟨0, 0, A, cc, rs, Nat.zero_le _, rfl, HS0⟩
  case round =>
    clear HS0 hm0
    obtain ⟨k, e, A, cc, rs, hk, rfl, hS⟩ := hrel
    by_cases hlt : k < n
    · have hi1 : (k : Int) < (n : Int) := by omega
      have hkr : k < ts.length := by rw [HN.out]; exact hlt
      obtain ⟨b1, o1, rfl, hb1, hc1⟩ := (HM.out.sl.below (hS.out.bel.mono hB)).at (k := k) (by simpa using hkr)
      rw [List.getElem_map] at hc1
      obtain ⟨hrow, hle1, hle2⟩ := HM.out.ok _ (List.getElem_mem hkr)
      obtain ⟨⟨A2, c2, l⟩, hr⟩ : ∃ r, ts[k] = r := ⟨_, rfl⟩
      rw [hr] at hc1 hrow hle1 hle2
      replace hc1 : wr.cell? ⟨b1, o1 + k, none⟩ = some (.slice A2 l.length c2) := hc1
      have hrow2 : Sl wr wr.heap.size A2 (iv l) := (Sl.below (show Sl w B A2 (iv l) from hrow) (hS.out.bel.mono hB)).more (Nat.le_trans hB hS.out.bel.size)
      have hll : l.length ≤ maxLen := Nat.le_trans hle1 hle2
      have HROW := Lib.hid hrow2
      have HLL := Lib.hid hll
      clear hr hrow hle1 hle2 hrow2 hll
      have hp0 := hS.out.p.blk.cell 0
      have hp1 := hS.out.p.blk.cell 1
      by_cases hl30 : (30 : Int) < (l.length : Int)
      · go_wp2_with fail
        go_ret
        exact ⟨rfl, hS.out.bel⟩
      · have hr1 := hS.out.r
        have HNX := Lib.hid (next_ok e A cc rs wr.heap.size A2 c2 l wr hS.out.m (Nat.le_refl _) HROW.out HLL.out hr1 (by have := hS.out.ek; omega))
        clear hr1
        go_wp2_with fail
        refine HNX.out.mono ?_
        rintro en3 W3 ⟨⟨A3, c3, rs3, rfl, hls3, hm3, hlo3⟩, hb3⟩
        have hek := hS.out.ek
        have he0 := hS.out.e0
        have hcb : Below wr.heap.size wr (W3.alloc (.cells #[.int .i64 (nextP e (rs.map (·.l)) l).1, .slice A3 rs3.length c3] 25)) := hb3.alloc hb3.size _
        have hb3l := hb3.size
        by_cases hx : ∃ x ∈ rs.map (·.l), stayP l x = []
        · have hnx : nextP e (rs.map (·.l)) l = (0, [], 5) := by
            unfold nextP
            rw [if_neg (by rw [hS.out.r]; simp; omega), if_pos hx]
          rw [hnx] at hcb ⊢
          have HS2 := Lib.hid (hS.out.grow hcb)
          clear hnx hcb hx hls3 hm3 hlo3 hb3 hek he0
          go_wp2_with fail
          go_roundw
          case rel => exact ⟨k + 1, e, A, cc, rs, by omega, by go_num, HS2⟩
          case measure => simp [intOf]; omega
        · have hnx : nextP e (rs.map (·.l)) l = (e + 1, (rs.map (·.l)).map (stayP l), 0) := by
            unfold nextP
            rw [if_neg (by rw [hS.out.r]; simp; omega), if_neg hx]
          replace hls3 : rs3.map (·.l) = (rs.map (·.l)).map (stayP l) := by rw [hls3, hnx]
          have hrn : rightP (e + 1) (rs3.map (·.l)) = true := by
            rw [hls3]
            exact next_right hS.out.r (by omega) (fun x hx' h0 => hx ⟨x, hx', h0⟩)
          have hln : rs3.length = c := by
            have h1 := congrArg List.length hls3
            simpa [hS.out.len] using h1
          rw [hnx] at hcb ⊢
          replace hcb : Below wr.heap.size wr (W3.alloc (.cells #[.int .i64 (e + 1), .slice A3 rs3.length c3] 25)) := hcb
          rw [hln] at hcb ⊢
          have hpl : placeP (e + 1) (rs3.map (·.l)) q = stayP l (placeP e (rs.map (·.l)) q) := by
            rw [hls3]
            exact place_next hS.out.r (by rw [← hls3]; exact hrn)
          obtain ⟨W4, hW4⟩ : ∃ X, W3.alloc (.cells #[.int .i64 (e + 1), .slice A3 c c3] 25) = X := ⟨_, rfl⟩
          have ho4 : Obj1 W4 W3.heap.size 25 #[.int .i64 (e + 1), .slice A3 c c3] := by rw [← hW4]; exact Obj1.new _ _ _
          have hb4 : Below wr.heap.size wr W4 := by rw [← hW4]; exact hcb
          have hm4 : Mem W4 W4.heap.size A3 rs3 := by rw [← hW4]; exact (hm3.below ((Below.refl _ _).alloc (Nat.le_refl _) _)).more (by simp)
          have HRT := Lib.hid (right_any (e + 1) A3 c3 rs3 W4.heap.size W4 hm4.sl hm4.ok (Nat.le_refl _))
          rw [hrn, hln] at HRT
          have ho40 := ho4.blk.cell 0
          have ho41 := ho4.blk.cell 1
          have hp40 := (hb4.cell (p := ⟨W2.heap.size, 0, none⟩) hS.out.p.lt).trans hp0
          have HO4 := Lib.hid ho4
          have HM4 := Lib.hid hm4
          have HLO := Lib.hid hlo3
          have HB4 := Lib.hid hb4
          have HRN := Lib.hid hrn
          have HLN := Lib.hid hln
          have HPL := Lib.hid hpl
          have hk20 : ¬ ((1000 : Int) < (k : Int)) := by omega
          have he20 : ¬ ((20 : Int) < e) := by omega
          clear hls3 hm3 hlo3 hb3 hcb hx hnx hpl hrn hm4 ho4 hb4 hek hln
          go_wp2_with fail
          refine HRT.out.mono ?_
          rintro en5 W5 ⟨rfl, hb5⟩
          have h50 := (hb5.cell (p := ⟨W3.heap.size, 0, none⟩) HO4.out.lt).trans ho40
          have h51 := (hb5.cell (p := ⟨W3.heap.size, 1, none⟩) HO4.out.lt).trans ho41
          have h5p := (hb5.cell (p := ⟨W2.heap.size, 0, none⟩) (by have := hS.out.p.lt; have := HB4.out.size; show W2.heap.size < _; omega)).trans hp40
          have ho5 := HO4.out.below hb5 HO4.out.lt
          have hop5 : Obj1 W5 W2.heap.size 25 #[.int .i64 e, .slice A rs.length cc] := (hS.out.p.below HB4.out hS.out.p.lt).below hb5 (by have := hS.out.p.lt; have := HB4.out.size; omega)
          have hb45 : Below wr.heap.size wr W5 := HB4.out.trans (hb5.mono HB4.out.size)
          have hm5 : Mem W5 W5.heap.size A rs := (hS.out.m.below hb45).more hb45.size
          have hn5 : Mem W5 W5.heap.size A3 rs3 := (HM4.out.below hb5).more hb5.size
          have hpa := fun (X : World) (hX : Below W5.heap.size W5 X) => place_any e A cc rs W5.heap.size q X (hm5.below hX).sl (hm5.below hX).ok hX.size
          have hpn := fun (X : World) (hX : Below W5.heap.size W5 X) => place_any (e + 1) A3 c3 rs3 W5.heap.size q X (hn5.below hX).sl (hn5.below hX).ok hX.size
          rw [HLN.out, HPL.out] at hpn
          have hlb : stayP l (placeP e (rs.map (·.l)) q) ≠ [] := by rw [← HPL.out]; exact place_ne HRN.out
          have hlsm : ∀ x ∈ stayP l (placeP e (rs.map (·.l)) q), x ≤ 6 := by rw [← HPL.out]; exact place_small HRN.out
          have hla7 : (placeP e (rs.map (·.l)) q).length ≤ 7 := place_len hS.out.r
          obtain ⟨la, hla⟩ : ∃ x, placeP e (rs.map (·.l)) q = x := ⟨_, rfl⟩
          rw [hla] at hpa hpn hlb hlsm hla7
          obtain ⟨lb, hlbe⟩ : ∃ x, stayP l la = x := ⟨_, rfl⟩
          rw [hlbe] at hpn hlb hlsm
          have HPA := Lib.hid hpa
          have HPN := Lib.hid hpn
          have HLB := Lib.hid hlb
          have HLSM := Lib.hid hlsm
          have HLA7 := Lib.hid hla7
          have HLBE := Lib.hid hlbe
          have HO5 := Lib.hid ho5
          have HOP5 := Lib.hid hop5
          have HB45 := Lib.hid hb45
          have HN5 := Lib.hid hn5
          have hpl5 := hop5.lt
          have hol5 := ho5.lt
          clear hla hlbe hpa hpn hlb hlsm hla7 ho5 hop5 hb45 hm5 hn5 hp40 ho40 ho41 hb5 hW4
          go_wp2_with fail
          have h5p1 := HOP5.out.blk.cell 1
          go_cut [15, 16, 54] from 54 to 137 (fun s15 s16 s54 wx => ∃ A5 c5 A6 c6, s15 = .slice A5 la.length c5 ∧ s16 = .slice A6 lb.length c6 ∧ s54 = .int .i64 (k : Int) ∧ Hid (wx.ownsRow W5.heap.size 3 1 (.slice A5 la.length c5) la.length (iv la)) ∧ Hid (wx.ownsRow W5.heap.size 3 1 (.slice A6 lb.length c6) lb.length (iv lb)) ∧ Hid (Below W5.heap.size W5 wx))
          case first =>
            have hD : Below W5.heap.size W5 W5.drew := (Below.refl _ _).drew
            go_region_law
              (first
                | (go_simp; go_at_call 9
                   with_reducible refine (HPA.out _ (by first | exact bB | exact hD)).mono ?_
                   rintro e1 WA ⟨⟨A5, c5, rfl, hownA⟩, hbA⟩
                   have bA : Below W5.heap.size W5 WA := (by first | exact bB.trans (hbA.mono bB.size) | exact hD.trans (hbA.mono hD.size))
                   have hA0 := (HO5.out.below bA hol5).blk.cell 0
                   have hA1 := (HO5.out.below bA hol5).blk.cell 1)
                | (go_simp; go_at_call 9
                   with_reducible refine (HPN.out _ (by first | exact bA | exact hD)).mono ?_
                   rintro e1 WB ⟨⟨A6, c6, rfl, hownB⟩, hbB⟩
                   have bB : Below W5.heap.size W5 WB := (by first | exact bA.trans (hbB.mono bA.size) | exact hD.trans (hbB.mono hD.size))
                   have hB0 := (HOP5.out.below bB hpl5).blk.cell 0
                   have hB1 := (HOP5.out.below bB hpl5).blk.cell 1))
            all_goals
              go_wp2_with fail
              go_meet
              have q5 : W5.heap.size ≤ W5.drew.heap.size := Nat.le_refl _
              first
                | exact ⟨A5, c5, A6, c6, rfl, rfl, rfl, Lib.hid (row_low (owns_below hownA hbB) q5), Lib.hid (row_low hownB bA.size), Lib.hid bB⟩
                | exact ⟨A5, c5, A6, c6, rfl, rfl, rfl, Lib.hid (row_low hownA bB.size), Lib.hid (row_low (owns_below hownB hbA) q5), Lib.hid bA⟩
          case rest =>
            obtain ⟨A5, c5, A6, c6, rfl, rfl, rfl, hoA, hoB, hbC⟩ := hcut
            go_wp2_with fail
            have hla7i : ¬ ((7 : Int) < ((la.length : Nat) : Int)) := by have := HLA7.out; omega
            go_loopw [17, 100] (fun s17 s100 wr2 => ∃ j : Nat, j ≤ la.length ∧ s100 = .int .i64 (j : Int) ∧ s17 = .int .i64 ((stayP l (la.take j)).length : Int) ∧ wr2 = wc) (fun _ s100 _ => la.length - (intOf s100).toNat)
            case atStart => exact ⟨0, Nat.zero_le _, rfl, rfl, rfl⟩
            case round =>
              obtain ⟨j, hj, rfl, rfl, rfl⟩ := hrel
              by_cases hjl : j < la.length
              · have hj1 : (j : Int) < ((la.length : Nat) : Int) := by omega
                obtain ⟨kx, hkx⟩ : ∃ x, (stayP l (la.take j)).length = x := ⟨_, rfl⟩
                obtain ⟨z, hz⟩ : ∃ z, la[j] = z := ⟨_, rfl⟩
                obtain ⟨hs1, hs2, hs3⟩ := count_step' (t := l) hjl hkx hz HLBE.out
                rw [hkx]
                have hkx7 : kx ≤ 7 := by
                  have h1 : (stayP l (la.take j)).length ≤ (la.take j).length := List.length_filter_le _ _
                  rw [List.length_take, hkx] at h1
                  have := HLA7.out
                  omega
                have hkx7i : ¬ ((7 : Int) < (kx : Int)) := by omega
                obtain ⟨ga, oa, rfl, hga, hca⟩ := (Sl.of_own hoA.out).at (k := j) (by simpa [iv] using hjl)
                have ea : (iv la)[j]'(by simpa [iv] using hjl) = Value.int .i64 la[j] := by simp [iv]
                rw [ea] at hca
                rw [hz] at hca
                clear ea hz hkx
                by_cases hin : z ∈ l
                · rw [if_pos hin] at hs1
                  obtain ⟨hb1', hb2'⟩ := hs2 hin
                  obtain ⟨gb, ob, rfl, hgb, hcb⟩ := (Sl.of_own hoB.out).at (k := kx) (by simpa [iv] using hb1')
                  have eb : (iv lb)[kx]'(by simpa [iv] using hb1') = Value.int .i64 z := by simp [iv, hb2']
                  rw [eb] at hcb
                  have hkl : (kx : Int) < ((lb.length : Nat) : Int) := by omega
                  have HS1 := Lib.hid hs1
                  clear hs1 hs2 hs3 eb hb1' hb2' hin
                  go_wp2_with fail
                  go_roundw
                  case rel => exact ⟨j + 1, by omega, by go_num, by rw [HS1.out]; go_num, by first | rfl | trivial⟩
                  case measure => simp [intOf]; omega
                · rw [if_neg hin] at hs1
                  have HS1 := Lib.hid hs1
                  by_cases hkl : kx < lb.length
                  · have hne := hs3 hin hkl
                    obtain ⟨gb, ob, rfl, hgb, hcb⟩ := (Sl.of_own hoB.out).at (k := kx) (by simpa [iv] using hkl)
                    have eb : (iv lb)[kx]'(by simpa [iv] using hkl) = Value.int .i64 lb[kx] := by simp [iv]
                    rw [eb] at hcb
                    obtain ⟨y, hy⟩ : ∃ y, lb[kx] = y := ⟨_, rfl⟩
                    rw [hy] at hcb hne
                    have hkli : (kx : Int) < ((lb.length : Nat) : Int) := by omega
                    have hyz : (y == z) = false := by rw [beq_eq_false_iff_ne]; exact hne
                    clear hs1 hs2 hs3 eb hin hy
                    go_wp2_with fail
                    go_roundw
                    case rel => exact ⟨j + 1, by omega, by go_num, by rw [HS1.out], by first | rfl | trivial⟩
                    case measure => simp [intOf]; omega
                  · have hkli : ¬ ((kx : Int) < ((lb.length : Nat) : Int)) := by omega
                    clear hs1 hs2 hs3 hin
                    go_wp2_with fail
                    go_roundw
                    case rel => exact ⟨j + 1, by omega, by go_num, by rw [HS1.out], by first | rfl | trivial⟩
                    case measure => simp [intOf]; omega
              · obtain rfl : j = la.length := by omega
                rw [List.take_length, HLBE.out]
                have hend : ¬ (((la.length : Nat) : Int) < ((la.length : Nat) : Int)) := by omega
                obtain ⟨nb, hnb⟩ : ∃ x, lb.length = x := ⟨_, rfl⟩
                have hnb0 : ¬ (nb = 0) := fun h => HLB.out (List.eq_nil_of_length_eq_zero (by rw [hnb, h]))
                have hnbi : (0 : Int) < (nb : Int) := by omega
                obtain ⟨gb, hgb, hgbase⟩ : ∃ g, A6 = some ⟨g, 0, none⟩ ∧ W5.heap.size ≤ g := by
                  rcases hoB.out.2 with ⟨_, h0⟩ | ⟨g, cap, cur, e', hbg, _⟩
                  · exact absurd (List.eq_nil_of_length_eq_zero h0) HLB.out
                  · injection e' with e1
                    exact ⟨g, e1, hbg⟩
                subst hgb
                have hnb7 : ¬ ((7 : Int) < (nb : Int)) := by
                  have h1 : (stayP l la).length ≤ la.length := List.length_filter_le _ _
                  rw [HLBE.out, hnb] at h1
                  have := HLA7.out
                  omega
                have hl0 : 0 < lb.length := by rw [hnb]; omega
                obtain ⟨y, hy⟩ : ∃ y, lb[0] = y := ⟨_, rfl⟩
                have hy6 : y ≤ 6 := by rw [← hy]; exact HLSM.out _ (List.getElem_mem hl0)
                have hy99 : (y == 99) = false := by rw [beq_eq_false_iff_ne]; omega
                have hiv0 : (iv lb)[0]? = some (.int .i64 y) := by simp [iv, hl0, hy]
                obtain ⟨hcb0, hfb0⟩ := owns_cellx hoB.out hiv0
                have hpb5 : W2.heap.size < gb := by omega
                have hnb5 : W3.heap.size < gb := by omega
                have hX : Below W5.heap.size W5 (wr.setCell ⟨gb, 0, none⟩ (.int .i64 99)) := hbC.out.setCell (p := ⟨gb, 0, none⟩) hgbase _
                have hx0 := (HO5.out.below hX hol5).blk.cell 0
                have hx1 := (HO5.out.below hX hol5).blk.cell 1
                have hne1 : W3.heap.size ≠ gb := by omega
                have hne2 : gb ≠ W3.heap.size := by omega
                have hn0 := (HO5.out.below hbC.out hol5).blk.cell 0
                have hn1 := (HO5.out.below hbC.out hol5).blk.cell 1
                have HPX := Lib.hid (HPN.out _ hX)
                have HX := Lib.hid hX
                have HNB := Lib.hid hnb
                have HIV0 := Lib.hid hiv0
                rw [hnb]
                clear hX hnb hl0 hy hiv0 hpb5 hnb5
                go_wp2_with fail
                refine HPX.out.mono ?_
                rintro en7 W7 ⟨⟨A7, c7, rfl, how7⟩, hb7⟩
                obtain ⟨g7, hg7⟩ : ∃ g, A7 = some ⟨g, 0, none⟩ := by
                  rcases how7.2 with ⟨_, h0⟩ | ⟨g, cap, cur, e', hbg, _⟩
                  · exact absurd (List.eq_nil_of_length_eq_zero h0) HLB.out
                  · injection e' with e1
                    exact ⟨g, e1⟩
                subst hg7
                obtain ⟨hc70, -⟩ := owns_cellx how7 HIV0.out
                rw [HNB.out]
                have hB57 : Below W5.heap.size W5 W7 := HX.out.trans (hb7.mono HX.out.size)
                have h7p := HOP5.out.below hB57 hpl5
                have h7n := HO5.out.below hB57 hol5
                have h7n0 := h7n.blk.cell 0
                have h7n1 := h7n.blk.cell 1
                have h7p0 := h7p.blk.cell 0
                have h7p1 := h7p.blk.cell 1
                have h7f := h7p.blk.free
                have hp7l := h7p.lt
                have HS7 : Hid (ShrS w W2.heap.size c (e + 1) A3 c3 rs3 (k + 1) ((W7.setCell ⟨W2.heap.size, 0, none⟩ (.int .i64 (e + 1))).setCell ⟨W2.heap.size, 1, none⟩ (.slice A3 c c3))) := by
                  have hm7 : Mem W7 W7.heap.size A3 rs3 := (HN5.out.below hB57).more hB57.size
                  have hbw : Below w.heap.size w W7 := (hS.out.bel.trans (HB45.out.mono hS.out.bel.size)).trans (hB57.mono (Nat.le_trans hS.out.bel.size HB45.out.size))
                  refine ⟨?_, ?_, HRN.out, HLN.out, by omega, by have := hS.out.ek; omega, (hbw.setCell (p := ⟨W2.heap.size, 0, none⟩) hS.out.pbw _).setCell (p := ⟨W2.heap.size, 1, none⟩) hS.out.pbw _, hS.out.pbw⟩
                  · have h2 := blk_set (i := 1) (blk_set (i := 0) h7p (.int .i64 (e + 1))) (.slice A3 c c3)
                    rw [HLN.out]
                    exact h2
                  · have h3 := (hm7.far HLO.out (p := ⟨W2.heap.size, 0, none⟩) hS.out.p.lt (.int .i64 (e + 1))).far HLO.out (p := ⟨W2.heap.size, 1, none⟩) hS.out.p.lt (.slice A3 c c3)
                    exact h3.more (by simp [World.setCell])
                clear h7p h7n how7 hB57
                go_wp2_with fail
                go_roundw
                case rel => exact ⟨k + 1, _, _, _, _, by omega, by go_num, HS7⟩
                case measure => simp [intOf]; omega
    · obtain rfl : k = n := by omega
      have hend : ¬ ((k : Int) < (k : Int)) := by omega
      go_wp2_with fail
      go_ret
      exact ⟨rfl, hS.out.bel⟩
end Go.Proofs.Ytplhaghkhedliaa
