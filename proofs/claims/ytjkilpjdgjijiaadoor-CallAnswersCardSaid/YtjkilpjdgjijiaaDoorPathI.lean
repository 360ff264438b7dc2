/- tidelineref03.Inside. -/
import Derived.Test.YtjkilpjdgjijiaaDoorPathE
namespace Go.Proofs.YtjkilpjdgjijiaaDoor
open Go.RowKit
set_option linter.unusedVariables false

def insideP (a b : List UInt8) : Bool := match pathOf a, pathOf b with
  | some x, some y => decide (y.length < x.length ∧ x.take y.length = y)
  | _, _ => false

theorem datas_inj {xs ys : List ByteArray} : xs.map (·.data.toList) = ys.map (·.data.toList) ↔ xs = ys :=
  List.map_inj_right (fun a b h => ByteArray.ext (Array.toList_inj.1 h))

set_option maxRecDepth 100000 in
set_option maxHeartbeats 2000000 in
theorem rinside_any (s1 s2 : ByteArray) (w : World) (h1 : s1.size ≤ 1099511627776) (h2 : s2.size ≤ 1099511627776) :
    Calls Tryd.prog 69 #[.string s1, .string s2] w fun e w' => e = .returned (.bool (insideP s1.data.toList s2.data.toList)) ∧ Below w.heap.size w w' := by
  obtain ⟨r, hr⟩ : ∃ r, insideP s1.data.toList s2.data.toList = r := ⟨_, rfl⟩
  have HR := Lib.hid hr
  rw [hr]
  clear hr
  have H1 := Lib.hid h1
  have H2 := Lib.hid h2
  clear h1 h2
  go_enter Tryd.func69, Tryd.ntmps69
  go_wp2_with fail
  refine (rsplit_any s1 w H1.out).mono ?_
  rintro e W1 ⟨hr1, hb1⟩
  have HB1 := Lib.hid hb1
  clear hb1
  unfold RSplits at hr1
  cases hp1 : pathOf s1.data.toList with
  | none =>
    rw [hp1] at hr1
    obtain ⟨A1, c1, rfl⟩ := hr1
    have hrf : Hid (r = false) := by show _ = _; rw [← HR.out]; unfold insideP; rw [hp1]
    clear hp1
    go_wp2_with fail
    refine (rsplit_any s2 W1 H2.out).mono ?_
    rintro e W2 ⟨hr2, hb2⟩
    have HB2 := Lib.hid (HB1.out.trans (hb2.mono HB1.out.size))
    clear hb2
    unfold RSplits at hr2
    cases hp2 : pathOf s2.data.toList with
    | none =>
      rw [hp2] at hr2
      obtain ⟨A2, c2, rfl⟩ := hr2
      clear hp2
      go_wp2
      go_ret
      exact ⟨ret_bool hrf.out.symm, HB2.out⟩
    | some y =>
      rw [hp2] at hr2
      obtain ⟨A2, c2, ys, rfl, _, _, _⟩ := hr2
      clear hp2
      go_wp2
      go_ret
      exact ⟨ret_bool hrf.out.symm, HB2.out⟩
  | some x =>
    rw [hp1] at hr1
    obtain ⟨A1, c1, xs, rfl, hx, hsx, hcx⟩ := hr1
    have HSX := Lib.hid hsx
    have HX := Lib.hid hx
    have HP1 := Lib.hid hp1
    clear hp1 hx hsx
    go_wp2_with fail
    refine (rsplit_any s2 W1 H2.out).mono ?_
    rintro e W2 ⟨hr2, hb2⟩
    have HK := Lib.hid hb2
    have HB2 := Lib.hid (HB1.out.trans (hb2.mono HB1.out.size))
    clear hb2
    unfold RSplits at hr2
    cases hp2 : pathOf s2.data.toList with
    | none =>
      rw [hp2] at hr2
      obtain ⟨A2, c2, rfl⟩ := hr2
      have hrf : Hid (r = false) := by show _ = _; rw [← HR.out]; unfold insideP; rw [HP1.out, hp2]
      clear hp2
      go_wp2
      go_ret
      exact ⟨ret_bool hrf.out.symm, HB2.out⟩
    | some y =>
      rw [hp2] at hr2
      obtain ⟨A2, c2, ys, rfl, hy, hsy, hcy⟩ := hr2
      have hrd : r = decide (ys.length < xs.length ∧ xs.take ys.length = ys) := by
        rw [← HR.out]
        unfold insideP
        rw [HP1.out, hp2, ← HX.out, ← hy]
        simp only [List.length_map, ← List.map_take, datas_inj]
      have HRD := Lib.hid hrd
      have hxw : Sl W2 W1.heap.size A1 (xs.map Value.string) := HSX.out.below HK.out
      have hlx : xs.length ≤ 8 := by
        have := HP1.out
        rw [← HX.out] at this
        unfold pathOf at this
        split at this
        · have h4 := congrArg List.length (Option.some.inj this)
          rw [List.length_map, List.length_nil] at h4; omega
        · split at this
          · cases this
          · split at this
            · rename_i h; have h4 := congrArg (fun o => (o.getD []).length) this; simp at h4; omega
            · cases this
      clear hp2 hrd hy
      by_cases hl : ys.length < xs.length
      · have hl1 : ¬ ((xs.length : Int) ≤ (ys.length : Int)) := by omega
        go_wp2_with fail
        go_loopw [9] (fun i wr => ∃ k n : Nat, k ≤ ys.length ∧ i = .int .i64 k ∧ Hid (xs.take k = ys.take k) ∧ wr = W2.drewN n) (fun i _ => ys.length - (intOf i).toNat)
        case atStart => exact ⟨0, 0, Nat.zero_le _, rfl, by simp [Hid], rfl⟩
        case round =>
          obtain ⟨k, n, hk, rfl, hp, rfl⟩ := hrel
          by_cases hlt2 : k < ys.length
          · have hlt : k < xs.length := by omega
            obtain ⟨b1, o1, rfl, hb1, hc1⟩ := hxw.at (k := k) (by simpa using hlt)
            obtain ⟨b2, o2, rfl, hb2, hc2⟩ := hsy.at (k := k) (by simpa using hlt2)
            have hi1 : (k : Int) < ((xs.length : Nat) : Int) := by omega
            have hi2 : (k : Int) < ((ys.length : Nat) : Int) := by omega
            rw [List.getElem_map] at hc1 hc2
            clear hxw hsy hl
            by_cases he : xs[k] = ys[k]
            · have hq : (xs[k].toList == ys[k].toList) = true := by simp [he]
              have hq1 : xs[k].toList = ys[k].toList := by rw [he]
              have hnext : Hid (xs.take (k + 1) = ys.take (k + 1)) := by
                show _ = _
                rw [List.take_succ_eq_append_getElem hlt, List.take_succ_eq_append_getElem hlt2, hp.out, he]
              clear he
              go_wp2_with fail
              go_quiet (fail)
              go_wp2
              go_roundw
              case rel => exact ⟨k + 1, _, by omega, by go_num, hnext, by first | rfl | exact World.drewN_drewN _ _ _⟩
              case measure => simp [intOf]; omega
            · have hq1 : ¬ xs[k].toList = ys[k].toList := by
                rw [Lib.toList_data, Lib.toList_data]; intro h; exact he (ByteArray.ext (Array.toList_inj.1 h))
              have hq : (xs[k].toList == ys[k].toList) = false := by simpa using hq1
              have hrf : Hid (r = false) := by
                show _ = _
                rw [HRD.out]
                refine decide_eq_false fun h => he ?_
                have h2 := congrArg (·[k]?) h.2
                simp [hlt2, hlt] at h2
                exact h2
              have HBW := Lib.hid (fun q => bdrewN HB2.out q)
              clear he
              go_wp2_with fail
              go_quiet (fail)
              go_wp2
              go_ret
              exact ⟨ret_bool hrf.out.symm, by first | exact HBW.out _ | exact bdrewN (HBW.out _) _⟩
          · have hke : k = ys.length := by omega
            have hpo := hp.out
            rw [hke, List.take_length] at hpo
            have hrt : Hid (r = true) := by show _ = _; rw [HRD.out]; exact decide_eq_true ⟨hl, hpo⟩
            have hi2 : ¬ ((k : Int) < ((ys.length : Nat) : Int)) := by omega
            have HBW := Lib.hid (fun q => bdrewN HB2.out q)
            go_wp2
            go_ret
            exact ⟨ret_bool hrt.out.symm, HBW.out _⟩
      · have hl1 : (xs.length : Int) ≤ (ys.length : Int) := by omega
        have hrf : Hid (r = false) := by show _ = _; rw [HRD.out]; exact decide_eq_false fun h => hl h.1
        go_wp2
        go_ret
        exact ⟨ret_bool hrf.out.symm, HB2.out⟩
end Go.Proofs.YtjkilpjdgjijiaaDoor
