/- plan.Right. -/
import Derived.Test.YtohahhijbneheaaDoorPlanP
import Derived.Test.YtohahhijbneheaaDoorInts
namespace Go.Proofs.YtohahhijbneheaaDoor
open Go.RowKit
set_option linter.unusedVariables false
attribute [local go_sem] Oper.semAt_some

/-- The units seen so far, in memory. -/
structure SeenS (w : World) (s : Nat) (P : List Int) (W : World) : Prop where
  cells : ∀ j, j < 7 → W.cell? ⟨s, j, none⟩ = some (.bool (decide ((j : Int) ∈ P)))
  free : ∀ j, W.frozen? ⟨s, j, none⟩ = false
  good : GoodP P
  bel : Below w.heap.size w W
theorem SeenS.set {w W : World} {s : Nat} {P : List Int} (h : SeenS w s P W) (hs : w.heap.size ≤ s) {m : Nat} (hm : m < 7) (hn : (m : Int) ∉ P) : SeenS w s (P ++ [(m : Int)]) (W.setCell ⟨s, m, none⟩ (.bool true)) := by
  refine ⟨fun j hj => ?_, fun j => by rw [World.frozen?_setCell]; exact h.free j, h.good.snoc (by omega) (by omega) hn, h.bel.setCell (p := ⟨s, m, none⟩) hs _⟩
  by_cases e : j = m
  · subst e
    rw [World.cell?_setCell_same' W ⟨s, j, none⟩ (.bool true) (by rw [h.cells j hj]; rfl), decide_eq_true (by simp)]
  · rw [World.cell?_setCell_other W ⟨s, m, none⟩ ⟨s, j, none⟩ _ (fun e' => by injection e' with _ e2; exact e e2.symm), h.cells j hj]
    have : ((j : Int) ∈ P ++ [(m : Int)]) = ((j : Int) ∈ P) := by
      refine propext ⟨fun h => ?_, fun h => List.mem_append_left _ h⟩
      rcases List.mem_append.1 h with h | h
      · exact h
      · have := List.mem_singleton.1 h
        omega
    simp only [this]
theorem seen_start (w : World) (o : Obj) : SeenS w (w.heap.size + 1) [] ((w.alloc o).alloc (.cells #[.bool false, .bool false, .bool false, .bool false, .bool false, .bool false, .bool false] 76)) := by
  have hb := Blk.new (w.alloc o) #[.bool false, .bool false, .bool false, .bool false, .bool false, .bool false, .bool false] 76
  rw [World.size_alloc] at hb
  refine ⟨fun j hj => ?_, fun j => hb.free j, GoodP.nil, ((Below.refl _ _).alloc (Nat.le_refl _) _).alloc (by simp) _⟩
  rw [hb.cell j]
  match j, hj with
  | 0, _ => rfl
  | 1, _ => rfl
  | 2, _ => rfl
  | 3, _ => rfl
  | 4, _ => rfl
  | 5, _ => rfl
  | 6, _ => rfl

set_option maxRecDepth 100000 in
set_option maxHeartbeats 4000000 in
theorem right_any (e : Int) (A : Option Addr) (c : Nat) (rs : List Ch) (B : Nat) (w : World) (hs : Sl w B A (rs.map Ch.val)) (hr : ∀ r ∈ rs, r.Ok w B) (hB : B ≤ w.heap.size) :
    Calls Tryd.prog 16 #[.agg #[.int .i64 e, .slice A rs.length c]] w fun en w' => en = .returned (.bool (rightP e (rs.map (·.l)))) ∧ Below w.heap.size w w' := by
  have HS := Lib.hid hs
  have HR := Lib.hid hr
  clear hs hr
  by_cases t1 : e < 0
  · rw [bad_epoch (.inl t1)]
    go_enter Tryd.func16, Tryd.ntmps16
    go_wp2_with fail
    go_ret
    exact ⟨rfl, (Below.refl _ _).alloc (Nat.le_refl _) _⟩
  by_cases t2 : 2147483647 < e
  · rw [bad_epoch (.inr t2)]
    go_enter Tryd.func16, Tryd.ntmps16
    go_wp2_with fail
    go_ret
    exact ⟨rfl, (Below.refl _ _).alloc (Nat.le_refl _) _⟩
  by_cases t3 : (rs.length : Int) < 1
  · rw [bad_count (.inl (by rw [List.length_map]; omega))]
    go_enter Tryd.func16, Tryd.ntmps16
    go_wp2_with fail
    go_ret
    exact ⟨rfl, (Below.refl _ _).alloc (Nat.le_refl _) _⟩
  by_cases t4 : (7 : Int) < (rs.length : Int)
  · rw [bad_count (.inr (by rw [List.length_map]; omega))]
    go_enter Tryd.func16, Tryd.ntmps16
    go_wp2_with fail
    go_ret
    exact ⟨rfl, (Below.refl _ _).alloc (Nat.le_refl _) _⟩
  obtain ⟨n, hN⟩ : ∃ n, rs.length = n := ⟨_, rfl⟩
  have HN := Lib.hid hN
  have hlen : (rs.map (·.l)).length = n := by rw [List.length_map, hN]
  have HL := Lib.hid hlen
  rw [hN] at t3 t4 ⊢
  clear hN hlen
  obtain ⟨ls, hls⟩ : ∃ ls, rs.map (·.l) = ls := ⟨_, rfl⟩
  have HLS := Lib.hid hls
  rw [hls] at HL ⊢
  clear hls
  go_enter Tryd.func16, Tryd.ntmps16
  go_wp2_with fail
  go_loopw [29] (fun s wr => ∃ k : Nat, k ≤ n ∧ s = .int .i64 (k : Int) ∧ Hid (SeenS w (w.heap.size + 1) (ls.take k).flatten wr) ∧ Hid (∀ x ∈ ls.take k, x ≠ [])) (fun s _ => n - (intOf s).toNat)
  case atStart => exact ⟨0, Nat.zero_le _, rfl, Lib.hid (by rw [List.take_zero]; exact seen_start w _), Lib.hid (by simp)⟩
  case round =>
    obtain ⟨k, hk, rfl, hse, hem⟩ := hrel
    by_cases hlt : k < n
    · have hi1 : (k : Int) < (n : Int) := by omega
      have hkr : k < rs.length := by rw [HN.out]; exact hlt
      have hkl : k < ls.length := by rw [HL.out]; exact hlt
      obtain ⟨b1, o1, rfl, hb1, hc1⟩ := (HS.out.below (hse.out.bel.mono hB)).at (k := k) (by simpa using hkr)
      rw [List.getElem_map] at hc1
      obtain ⟨hrow, hle1, hle2⟩ := HR.out _ (List.getElem_mem hkr)
      have hrl : ls[k] = rs[k].l := by simp only [← HLS.out, List.getElem_map]
      obtain ⟨⟨A2, c2, l⟩, hr⟩ : ∃ r, rs[k] = r := ⟨_, rfl⟩
      rw [hr] at hc1 hrow hrl hle1 hle2
      replace hle1 : l.length ≤ maxLen := Nat.le_trans hle1 hle2
      unfold maxLen at hle1
      clear hle2
      replace hc1 : wr.cell? ⟨b1, o1 + k, none⟩ = some (.slice A2 l.length c2) := hc1
      replace hrow : Sl w B A2 (iv l) := hrow
      replace hrl : ls[k] = l := hrl
      have HRW := Lib.hid hrow
      have HRL := Lib.hid hrl
      clear hr hrow hrl
      by_cases hz : l.length = 0
      · rw [hz] at hc1
        have HF := Lib.hid (bad_empty (e := e) hkl (by rw [HRL.out]; exact List.eq_nil_of_length_eq_zero hz))
        go_wp2_with fail
        go_ret
        exact ⟨ret_bool HF.out.symm, hse.out.bel⟩
      · have hz0 : ¬ ((l.length : Int) = 0) := by omega
        obtain ⟨m, hM⟩ : ∃ m, l.length = m := ⟨_, rfl⟩
        have HM := Lib.hid hM
        rw [hM] at hc1 hz hz0 hle1
        have hm63 : (m : Int) ≤ 9223372036854775807 := by omega
        clear hM
        go_wp2_with fail
        go_loopw [38] (fun s wr2 => ∃ j : Nat, j ≤ m ∧ s = .int .i64 (j : Int) ∧ Hid (SeenS w (w.heap.size + 1) ((ls.take k).flatten ++ l.take j) wr2)) (fun s _ => m - (intOf s).toNat)
        case atStart => exact ⟨0, Nat.zero_le _, rfl, Lib.hid (by rw [List.take_zero, List.append_nil]; exact hse.out)⟩
        case round =>
          obtain ⟨j, hj, rfl, hse2⟩ := hrel
          by_cases hlt2 : j < m
          · have hi2 : (j : Int) < (m : Int) := by omega
            have hjl : j < l.length := by rw [HM.out]; exact hlt2
            obtain ⟨b2, o2, rfl, hb2, hc2⟩ := (HRW.out.below (hse2.out.bel.mono hB)).at (k := j) (by simpa [iv] using hjl)
            have e1 : (iv l)[j]'(by simpa [iv] using hjl) = Value.int .i64 l[j] := by simp [iv]
            rw [e1] at hc2
            clear e1
            have HB : Hid ((l[j] < 0 ∨ 6 < l[j] ∨ l[j] ∈ (ls.take k).flatten ++ l.take j) → rightP e ls = false) := fun h => by
              have h1 := HRL.out
              subst h1
              exact bad_number hkl hjl h
            have HJ : Hid (l.take (j + 1) = l.take j ++ [l[j]]) := List.take_succ_eq_append_getElem hjl
            obtain ⟨z, hz'⟩ : ∃ z, l[j] = z := ⟨_, rfl⟩
            rw [hz'] at hc2 HB HJ
            clear hz'
            by_cases hn0 : z < 0
            · have HF := Lib.hid (HB.out (.inl hn0))
              go_wp2_with fail
              go_ret
              exact ⟨ret_bool HF.out.symm, hse2.out.bel⟩
            · by_cases hn7 : 7 ≤ z
              · have HF := Lib.hid (HB.out (.inr (.inl (by omega))))
                go_wp2_with fail
                go_ret
                exact ⟨ret_bool HF.out.symm, hse2.out.bel⟩
              · obtain ⟨q, rfl⟩ : ∃ q : Nat, z = (q : Int) := ⟨z.toNat, by omega⟩
                have hq7 : q < 7 := by omega
                have hq8 : (q : Int) < 7 := by omega
                have hcq := hse2.out.cells q hq7
                by_cases hm : (q : Int) ∈ (ls.take k).flatten ++ l.take j
                · rw [decide_eq_true hm] at hcq
                  have HF := Lib.hid (HB.out (.inr (.inr hm)))
                  clear hm
                  go_wp2_with fail
                  go_ret
                  exact ⟨ret_bool HF.out.symm, hse2.out.bel⟩
                · rw [decide_eq_false hm] at hcq
                  have hfq := hse2.out.free q
                  have HSE := Lib.hid (hse2.out.set (by omega) hq7 hm)
                  rw [List.append_assoc, ← HJ.out] at HSE
                  clear hm
                  go_wp2_with fail
                  go_roundw
                  case rel => exact ⟨j + 1, by omega, by simp, HSE⟩
                  case measure => simp [intOf]; omega
          · obtain rfl : j = m := by omega
            have hend : ¬ ((j : Int) < (j : Int)) := by omega
            rw [List.take_of_length_le (Nat.le_of_eq HM.out), ← HRL.out, flat_row hkl] at hse2
            have HEM : Hid (∀ x ∈ ls.take (k + 1), x ≠ []) := by
              intro x hx
              rw [List.take_succ_eq_append_getElem hkl] at hx
              rcases List.mem_append.1 hx with hx | hx
              · exact hem.out x hx
              · rw [List.mem_singleton.1 hx, HRL.out]
                intro e'
                rw [e'] at HM
                exact hz HM.out.symm
            go_wp2_with fail
            go_roundw
            case rel => exact ⟨k + 1, by omega, by simp, hse2, HEM⟩
            case measure => simp [intOf]; omega
    · obtain rfl : k = n := by omega
      have hend : ¬ ((k : Int) < (k : Int)) := by omega
      rw [List.take_of_length_le (Nat.le_of_eq HL.out)] at hse hem
      have HF := Lib.hid (good_all (e := e) (by omega) (by omega) (by rw [HL.out]; omega) (by rw [HL.out]; omega) hem.out hse.out.good)
      go_wp2_with fail
      go_ret
      exact ⟨ret_bool HF.out.symm, hse.out.bel⟩
end Go.Proofs.YtohahhijbneheaaDoor
