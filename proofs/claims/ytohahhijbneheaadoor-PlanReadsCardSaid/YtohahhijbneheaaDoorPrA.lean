/- tidelineref11.Right. -/
import Derived.Test.YtohahhijbneheaaDoorPlanB
namespace Go.Proofs.YtohahhijbneheaaDoor
open Go.RowKit
set_option linter.unusedVariables false
attribute [local go_sem] Oper.semAt_some

/-- The numbers seen so far, in a row of one's own. -/
structure RallS (w1 : World) (P : List Int) (v : Value) (W : World) : Prop where
  row : W.ownsRow w1.heap.size 3 1 v P.length (iv P)
  good : GoodP P
  bel : Below w1.heap.size w1 W
theorem RallS.len {w1 W : World} {P : List Int} {v : Value} (h : RallS w1 P v W) : P.length ≤ 7 :=
  nodup_len 7 P h.good.2 (fun x hx => by have := h.good.1 x hx; omega)
theorem RallS.snoc {w1 W w2 : World} {P : List Int} {v v' : Value} {o : Obj} {z : Int} (h : RallS w1 P v W)
    (hown : w2.ownsRow w1.heap.size 3 1 v' (P.length + 1) (iv P ++ [.int .i64 z])) (hgrow : (W.alloc o).grownBy w2 v.ownBlock) (h0 : 0 ≤ z) (h6 : z ≤ 6) (hn : z ∉ P) : RallS w1 (P ++ [z]) v' w2 := by
  refine ⟨?_, h.good.snoc h0 h6 hn, h.bel.trans (((Below.refl _ W).alloc h.bel.size o).grown hgrow (by have := h.bel.size; simp; omega) (fun q hq => (own_lt h.row hq).2))⟩
  have e : iv (P ++ [z]) = iv P ++ [.int .i64 z] := by simp [iv]
  rw [List.length_append, e]
  exact hown
theorem rall_start (w1 : World) : RallS w1 [] (.slice (some ⟨w1.heap.size, 0, none⟩) 0 0) (w1.alloc (.cells #[] 3)) :=
  ⟨World.ownsRow_made w1 #[] 0 (Nat.le_refl _) (Nat.zero_le _) rfl, GoodP.nil, (Below.refl _ _).alloc (Nat.le_refl _) _⟩

set_option maxRecDepth 100000 in
set_option maxHeartbeats 4000000 in
theorem rright_any (e : Int) (A : Option Addr) (c : Nat) (rs : List Ch) (B : Nat) (w : World) (hs : Sl w B A (rs.map Ch.val)) (hr : ∀ r ∈ rs, r.Ok w B) (hB : B ≤ w.heap.size) :
    Calls Tryd.prog 17 #[.agg #[.int .i64 e, .slice A rs.length c]] w fun en w' => en = .returned (.bool (rightP e (rs.map (·.l)))) ∧ Below w.heap.size w w' := by
  have HS := Lib.hid hs
  have HR := Lib.hid hr
  clear hs hr
  by_cases t1 : e < 0
  · rw [bad_epoch (.inl t1)]
    go_enter Tryd.func17, Tryd.ntmps17
    go_wp2_with fail
    go_ret
    exact ⟨rfl, (Below.refl _ _).alloc (Nat.le_refl _) _⟩
  by_cases t2 : 2147483647 < e
  · rw [bad_epoch (.inr t2)]
    go_enter Tryd.func17, Tryd.ntmps17
    go_wp2_with fail
    go_ret
    exact ⟨rfl, (Below.refl _ _).alloc (Nat.le_refl _) _⟩
  by_cases t3 : (rs.length : Int) < 1
  · rw [bad_count (.inl (by rw [List.length_map]; omega))]
    go_enter Tryd.func17, Tryd.ntmps17
    go_wp2_with fail
    go_ret
    exact ⟨rfl, (Below.refl _ _).alloc (Nat.le_refl _) _⟩
  by_cases t4 : (7 : Int) < (rs.length : Int)
  · rw [bad_count (.inr (by rw [List.length_map]; omega))]
    go_enter Tryd.func17, Tryd.ntmps17
    go_wp2_with fail
    go_ret
    exact ⟨rfl, (Below.refl _ _).alloc (Nat.le_refl _) _⟩
  obtain ⟨n, hN⟩ : ∃ n, rs.length = n := ⟨_, rfl⟩
  have HN := Lib.hid hN
  have hlen : (rs.map (·.l)).length = n := by rw [List.length_map, hN]
  have HL := Lib.hid hlen
  rw [hN] at t3 t4 ⊢
  clear hN hlen
  obtain ⟨ls, hls⟩ : ∃ ls, rs.map (·.l) = ls := ⟨_, rfl⟩
  have HLS := Lib.hid hls
  rw [hls] at HL ⊢
  clear hls
  go_enter Tryd.func17, Tryd.ntmps17
  go_wp2_with fail
  have hbx := Blk.new w #[.int .i64 e, .slice A n c] 24
  have HB0 : Hid (Below w.heap.size w (w.alloc (.cells #[.int .i64 e, .slice A n c] 24))) := (Below.refl _ _).alloc (Nat.le_refl _) _
  have hsz : w.heap.size < (w.alloc (.cells #[.int .i64 e, .slice A n c] 24)).heap.size := by simp
  have HST := Lib.hid (rall_start (w.alloc (.cells #[.int .i64 e, .slice A n c] 24)))
  obtain ⟨w1, hw1⟩ : ∃ X, w.alloc (.cells #[.int .i64 e, .slice A n c] 24) = X := ⟨_, rfl⟩
  have hs1 : w.heap.size + 1 = w1.heap.size := by rw [← hw1]; simp
  rw [hw1] at HST hbx HB0 hsz ⊢
  rw [hs1]
  have HBX := Lib.hid hbx
  have HB1 := Lib.hid (Nat.le_trans hB (Nat.le_of_lt hsz))
  have HMM := Lib.hid (Mem.below (B := B) ⟨HS.out, HR.out⟩ (HB0.out.mono hB))
  clear hw1 hs1 hbx HS HR
  go_loopw [3, 4] (fun s3 s wr => ∃ k : Nat, k ≤ n ∧ s = .int .i64 (k : Int) ∧ Hid (RallS w1 (ls.take k).flatten s3 wr) ∧ Hid (∀ x ∈ ls.take k, x ≠ [])) (fun _ s _ => n - (intOf s).toNat)
  case atStart => exact ⟨0, Nat.zero_le _, rfl, HST, Lib.hid (by simp)⟩
  case round =>
    obtain ⟨k, hk, rfl, hse, hem⟩ := hrel
    have hbk := HBX.out.below hse.out.bel hsz
    have hb0 := hbk.cell 0
    have hb1c := hbk.cell 1
    clear hbk
    by_cases hlt : k < n
    · have hi1 : (k : Int) < (n : Int) := by omega
      have hkr : k < rs.length := by rw [HN.out]; exact hlt
      have hkl : k < ls.length := by rw [HL.out]; exact hlt
      obtain ⟨b1, o1, rfl, hb1, hc1w⟩ := HMM.out.sl.at (k := k) (by simpa using hkr)
      rw [List.getElem_map] at hc1w
      obtain ⟨hrow, hle1, hle2⟩ := HMM.out.ok _ (List.getElem_mem hkr)
      have hrl : ls[k] = rs[k].l := by simp only [← HLS.out, List.getElem_map]
      obtain ⟨⟨A2, c2, l⟩, hr⟩ : ∃ r, rs[k] = r := ⟨_, rfl⟩
      rw [hr] at hc1w hrow hrl hle1 hle2
      replace hle1 : l.length ≤ maxLen := Nat.le_trans hle1 hle2
      unfold maxLen at hle1
      clear hle2
      replace hc1w : w1.cell? ⟨b1, o1 + k, none⟩ = some (.slice A2 l.length c2) := hc1w
      replace hrow : Sl w1 B A2 (iv l) := hrow
      replace hrl : ls[k] = l := hrl
      have HRW := Lib.hid hrow
      have HRL := Lib.hid hrl
      have hb1w : b1 < w1.heap.size := Nat.lt_of_lt_of_le hb1 HB1.out
      have hc1 := (hse.out.bel.cell (p := ⟨b1, o1 + k, none⟩) hb1w).trans hc1w
      clear hr hrow hrl
      by_cases hz : l.length = 0
      · rw [hz] at hc1
        have HF := Lib.hid (bad_empty (e := e) hkl (by rw [HRL.out]; exact List.eq_nil_of_length_eq_zero hz))
        clear hc1w
        go_wp2_with fail
        go_ret
        exact ⟨ret_bool HF.out.symm, HB0.out.trans (hse.out.bel.mono (Nat.le_of_lt hsz))⟩
      · have hz0 : ¬ ((l.length : Int) = 0) := by omega
        obtain ⟨m, hM⟩ : ∃ m, l.length = m := ⟨_, rfl⟩
        have HM := Lib.hid hM
        rw [hM] at hc1 hz hz0 hle1 hc1w
        have hm63 : (m : Int) ≤ 9223372036854775807 := by omega
        have HC1W := Lib.hid hc1w
        clear hM hc1w
        go_wp2_with fail
        go_loopw [3, 5] (fun s3 s wr2 => ∃ j : Nat, j ≤ m ∧ s = .int .i64 (j : Int) ∧ Hid (RallS w1 ((ls.take k).flatten ++ l.take j) s3 wr2)) (fun _ s _ => m - (intOf s).toNat)
        case atStart => exact ⟨0, Nat.zero_le _, rfl, Lib.hid (by rw [List.take_zero, List.append_nil]; exact hse.out)⟩
        case round =>
          clear hc1 hb0 hb1c
          obtain ⟨j, hj, rfl, hse2⟩ := hrel
          have hbk := HBX.out.below hse2.out.bel hsz
          have hb0 := hbk.cell 0
          have hb1c := hbk.cell 1
          clear hbk
          have hc1 := (hse2.out.bel.cell (p := ⟨b1, o1 + k, none⟩) hb1w).trans HC1W.out
          by_cases hlt2 : j < m
          · have hi2 : (j : Int) < (m : Int) := by omega
            have hjl : j < l.length := by rw [HM.out]; exact hlt2
            obtain ⟨b2, o2, rfl, hb2, hc2⟩ := (HRW.out.below (hse2.out.bel.mono HB1.out)).at (k := j) (by simpa [iv] using hjl)
            have e1 : (iv l)[j]'(by simpa [iv] using hjl) = Value.int .i64 l[j] := by simp [iv]
            rw [e1] at hc2
            clear e1
            have HB : Hid ((l[j] < 0 ∨ 6 < l[j] ∨ l[j] ∈ (ls.take k).flatten ++ l.take j) → rightP e ls = false) := fun h => by
              have h1 := HRL.out
              subst h1
              exact bad_number hkl hjl h
            have HJ : Hid (l.take (j + 1) = l.take j ++ [l[j]]) := List.take_succ_eq_append_getElem hjl
            obtain ⟨z, hz'⟩ : ∃ z, l[j] = z := ⟨_, rfl⟩
            rw [hz'] at hc2 HB HJ
            clear hz'
            by_cases hn0 : z < 0
            · have HF := Lib.hid (HB.out (.inl hn0))
              go_wp2_with fail
              go_ret
              exact ⟨ret_bool HF.out.symm, HB0.out.trans (hse2.out.bel.mono (Nat.le_of_lt hsz))⟩
            · by_cases hn7 : 6 < z
              · have HF := Lib.hid (HB.out (.inr (.inl (by omega))))
                go_wp2_with fail
                go_ret
                exact ⟨ret_bool HF.out.symm, HB0.out.trans (hse2.out.bel.mono (Nat.le_of_lt hsz))⟩
              · obtain ⟨P, hP⟩ : ∃ P, (ls.take k).flatten ++ l.take j = P := ⟨_, rfl⟩
                have HP := Lib.hid hP
                rw [hP] at hse2 HB
                obtain ⟨A3, c3, rfl⟩ := own_form hse2.out.row
                obtain ⟨p, hp⟩ : ∃ p, P.length = p := ⟨_, rfl⟩
                have hp7 : p ≤ 7 := by rw [← hp]; exact hse2.out.len
                have HPL := Lib.hid hp
                rw [hp]
                have hp63 : ¬ ((7 : Int) < (p : Int)) := by omega
                clear hP hp
                go_wp2_with fail
                go_loopw [7] (fun s wr3 => ∃ i : Nat, i ≤ p ∧ s = .int .i64 (i : Int) ∧ wr3 = wr ∧ Hid (z ∉ P.take i)) (fun s _ => p - (intOf s).toNat)
                case atStart => exact ⟨0, Nat.zero_le _, rfl, rfl, Lib.hid (by simp)⟩
                case round =>
                  obtain ⟨i, hi, rfl, rfl, hni⟩ := hrel
                  by_cases hlt3 : i < p
                  · have hi3 : (i : Int) < (p : Int) := by omega
                    have hil : i < P.length := by rw [HPL.out]; exact hlt3
                    obtain ⟨b3, o3, rfl, hb3, hc3⟩ := (Sl.of_own hse2.out.row).at (k := i) (by simpa [iv] using hil)
                    have e1 : (iv P)[i]'(by simpa [iv] using hil) = Value.int .i64 P[i] := by simp [iv]
                    rw [e1] at hc3
                    have HPJ : Hid (P.take (i + 1) = P.take i ++ [P[i]]) := List.take_succ_eq_append_getElem hil
                    have HPM : Hid (P[i] ∈ P) := List.getElem_mem hil
                    obtain ⟨y, hy⟩ : ∃ y, P[i] = y := ⟨_, rfl⟩
                    rw [hy] at hc3 HPJ HPM
                    clear e1 hy
                    by_cases hyz : y = z
                    · subst hyz
                      have HF := Lib.hid (HB.out (.inr (.inr HPM.out)))
                      go_wp2_with fail
                      go_ret
                      exact ⟨ret_bool HF.out.symm, HB0.out.trans (hse2.out.bel.mono (Nat.le_of_lt hsz))⟩
                    · have HNX : Hid (z ∉ P.take (i + 1)) := by
                        show ¬ _
                        rw [HPJ.out, List.mem_append]
                        rintro (h | h)
                        · exact hni.out h
                        · exact hyz (List.mem_singleton.1 h).symm
                      go_wp2_with fail
                      go_roundw
                      case rel => exact ⟨i + 1, by omega, by go_num, by first | rfl | trivial, HNX⟩
                      case measure => simp [intOf]; omega
                  · obtain rfl : i = p := by omega
                    have hend : ¬ ((i : Int) < (i : Int)) := by omega
                    rw [List.take_of_length_le (Nat.le_of_eq HPL.out)] at hni
                    have H63 : Hid (i + 1 ≤ maxLen) := by show _ ≤ _; unfold maxLen; omega
                    have HBY : Hid ((i + 1) * 8 ≤ 140737488355328) := by show _ ≤ _; omega
                    have HSZ : Hid (w1.heap.size ≤ wr.heap.size) := hse2.out.bel.size
                    have HROW := Lib.hid hse2.out.row
                    rw [HPL.out] at HROW
                    clear hb0 hb1c hc1 hc2
                    go_wp2_with (at_builtin; obtain ⟨i0, hi, hz0, hz1, hz2⟩ := info_parts info_int; refine wpList_append_own _ rfl _ _ 25 rfl w1.heap.size 3 i0 (.int .i64 0) 1 8 Tryd.underlying25 hi hz0 hz1 hz2 rfl (by decide) (.slice A3 i c3) i (iv P) rfl (HROW.out.alloc _) ⟨wr.heap.size, 0, none⟩ 1 1 [.int .i64 z] rfl rfl (World.news_of_block (cs := #[.int .i64 z]) (t := 3) (fr := (0, 0)) (heap_alloc_new wr _)) (by simp [Value.oneCell']) H63.out HBY.out (by have := HSZ.out; simp; omega) ?_; intro v' w2 hown5 hgrow5 hnil5; have HG5 := Lib.hid hgrow5; have HO5 := Lib.hid hown5; clear hi hz0 hz1 hz2 i0 hgrow5 hown5 hnil5)
                    rw [← HPL.out] at HO5 HG5
                    have HNX := Lib.hid (hse2.out.snoc HO5.out HG5.out (by omega) (by omega) hni.out)
                    rw [← HP.out, List.append_assoc, ← HJ.out] at HNX
                    go_roundw
                    case rel => exact ⟨_, _, _, ⟨j + 1, by omega, rfl, HNX⟩, rfl, rfl, by go_num⟩
                    case measure => simp [intOf]; omega
          · obtain rfl : j = m := by omega
            have hend : ¬ ((j : Int) < (j : Int)) := by omega
            rw [List.take_of_length_le (Nat.le_of_eq HM.out), ← HRL.out, flat_row hkl] at hse2
            have HEM : Hid (∀ x ∈ ls.take (k + 1), x ≠ []) := by
              intro x hx
              rw [List.take_succ_eq_append_getElem hkl] at hx
              rcases List.mem_append.1 hx with hx | hx
              · exact hem.out x hx
              · rw [List.mem_singleton.1 hx, HRL.out]
                intro e'
                rw [e'] at HM
                exact hz HM.out.symm
            go_wp2_with fail
            go_roundw
            case rel => exact ⟨k + 1, by omega, by go_num, hse2, HEM⟩
            case measure => simp [intOf]; omega
    · obtain rfl : k = n := by omega
      have hend : ¬ ((k : Int) < (k : Int)) := by omega
      rw [List.take_of_length_le (Nat.le_of_eq HL.out)] at hse hem
      have HF := Lib.hid (good_all (e := e) (by omega) (by omega) (by rw [HL.out]; omega) (by rw [HL.out]; omega) hem.out hse.out.good)
      go_wp2_with fail
      go_ret
      exact ⟨ret_bool HF.out.symm, HB0.out.trans (hse.out.bel.mono (Nat.le_of_lt hsz))⟩
end Go.Proofs.YtohahhijbneheaaDoor
