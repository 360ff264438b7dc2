/- PathInside: the walk. -/
import Derived.Test.YtdekpjagkhdfcaaDoorPparw
namespace Go.Proofs.YtdekpjagkhdfcaaDoor
open Go.RowKit
set_option linter.unusedVariables false

set_option maxRecDepth 100000 in
set_option maxHeartbeats 2000000 in
theorem pins_walk (s o : ByteArray) (m : Int) (w : World) (hs : s.size ≤ maxLen) (ho : o.size ≤ maxLen) (hm : w.cell? ⟨0, 0, none⟩ = some (.int .i64 m)) :
    Calls Tryd.prog 6 #[.string s, .string o] w fun e w' => e = .returned (.bool true) ∧ Below w.heap.size w w' := by
  have HS := Lib.hid hs
  have HO := Lib.hid ho
  have HM := Lib.hid hm
  have h0 : 0 < w.heap.size := World.block_lt_of_cell? w _ hm
  unfold maxLen at hs ho
  clear hm
  by_cases hbig : 1000 < s.size ∨ 1000 < o.size
  · go_enter Tryd.func6, Tryd.ntmps6
    go_wp2_with fail
    refine (pspeak_any m w HM.out).mono ?_
    rintro e W1 ⟨rfl, hb1⟩
    have HB1 := Lib.hid hb1
    clear hb1
    by_cases h1 : 1000 < s.size
    · have hi : (1000 : Int) < (s.size : Int) := by omega
      go_wp2_with fail
      go_ret
      exact ⟨rfl, HB1.out⟩
    · have hi : ¬ ((1000 : Int) < (s.size : Int)) := by omega
      have hj : (1000 : Int) < (o.size : Int) := by omega
      go_wp2_with fail
      go_ret
      exact ⟨rfl, HB1.out⟩
  have hi : ¬ ((1000 : Int) < (s.size : Int)) := by omega
  have hj : ¬ ((1000 : Int) < (o.size : Int)) := by omega
  have HR := Lib.hid (fun W => rinside_any s o W (show _ ≤ 1099511627776 by omega) (show _ ≤ 1099511627776 by omega))
  obtain ⟨r, hr⟩ : ∃ r, insideP s.data.toList o.data.toList = r := ⟨_, rfl⟩
  have HRr := Lib.hid hr
  clear hr hbig
  rw [HRr.out] at HR
  go_enter Tryd.func6, Tryd.ntmps6
  go_wp2_with fail
  refine (pspeak_any m w HM.out).mono ?_
  rintro e W1 ⟨rfl, hb1⟩
  have HB1 := Lib.hid hb1
  have HM1 : Hid (W1.cell? ⟨0, 0, none⟩ = some (.int .i64 m)) := (hb1.cell (p := ⟨0, 0, none⟩) h0).trans HM.out
  clear hb1
  go_wp2_with fail
  have hin := pinside_any s o m W1 HS.out HO.out HM1.out
  rw [HRr.out] at hin
  refine hin.mono ?_
  rintro e W2 ⟨rfl, hb2⟩
  have HB2 := Lib.hid (HB1.out.trans (hb2.mono HB1.out.size))
  have HM2 : Hid (W2.cell? ⟨0, 0, none⟩ = some (.int .i64 m)) := (HB2.out.cell (p := ⟨0, 0, none⟩) h0).trans HM.out
  clear hb2 hin
  go_wp2_with fail
  refine (HR.out W2).mono ?_
  rintro e W3 ⟨rfl, hb3⟩
  have HB3 := Lib.hid (HB2.out.trans (hb3.mono HB2.out.size))
  have HM3 : Hid (W3.cell? ⟨0, 0, none⟩ = some (.int .i64 m)) := (HB3.out.cell (p := ⟨0, 0, none⟩) h0).trans HM.out
  clear hb3
  have hself := pinside_any s s m W3 HS.out HS.out HM3.out
  rw [inside_self] at hself
  have HSELF := Lib.hid hself
  clear hself
  go_wp2_with fail
  refine HSELF.out.mono ?_
  rintro e W4 ⟨rfl, hb4⟩
  have HB4 := Lib.hid (HB3.out.trans (hb4.mono HB3.out.size))
  have HM4 : Hid (W4.cell? ⟨0, 0, none⟩ = some (.int .i64 m)) := (HB4.out.cell (p := ⟨0, 0, none⟩) h0).trans HM.out
  clear hb4
  have hpar := parent_any s m W4 HS.out HM4.out
  cases hp : pathOf s.data.toList with
  | none =>
    rw [parentE_none hp] at hpar
    have HPAR := Lib.hid hpar
    clear hp hpar
    go_wp2_with fail
    refine HPAR.out.mono ?_
    rintro e W5 ⟨rfl, hb5⟩
    have HB5 := Lib.hid (HB4.out.trans (hb5.mono HB4.out.size))
    clear hb5
    go_wp2_with fail
    go_ret
    exact ⟨rfl, HB5.out⟩
  | some ns =>
    rcases List.eq_nil_or_concat ns with hx0 | ⟨ys, z, hx0⟩
    · subst hx0
      rw [show parentE s.data.toList = _ by unfold parentE; rw [parentP_root hp]] at hpar
      have HPAR := Lib.hid hpar
      clear hp hpar
      go_wp2_with fail
      refine HPAR.out.mono ?_
      rintro e W5 ⟨rfl, hb5⟩
      have HB5 := Lib.hid (HB4.out.trans (hb5.mono HB4.out.size))
      clear hb5
      go_wp2_with fail
      go_ret
      exact ⟨rfl, HB5.out⟩
    · rw [List.concat_eq_append] at hx0
      subst hx0
      rw [parentE_some hp] at hpar
      have HPAR := Lib.hid hpar
      have HIA : Hid (insideP s.data.toList (joinP ys) = true) := inside_above hp
      have HIM : Hid (insideP (joinP ys) o.data.toList = true → insideP s.data.toList o.data.toList = true) := fun h => inside_more hp h
      have HAL : Hid ((⟨(joinP ys).toArray⟩ : ByteArray).size ≤ maxLen) := by
        show (joinP ys).toArray.size ≤ _
        have h1 := above_len hp
        have h2 : s.data.toList.length = s.size := by simp
        rw [List.size_toArray]; unfold maxLen; omega
      clear hp hpar
      go_wp2_with fail
      refine HPAR.out.mono ?_
      rintro e W5 ⟨rfl, hb5⟩
      have HB5 := Lib.hid (HB4.out.trans (hb5.mono HB4.out.size))
      have HM5 : Hid (W5.cell? ⟨0, 0, none⟩ = some (.int .i64 m)) := (HB5.out.cell (p := ⟨0, 0, none⟩) h0).trans HM.out
      clear hb5
      have h6 := pinside_any s ⟨(joinP ys).toArray⟩ m W5 HS.out HAL.out HM5.out
      rw [show (⟨(joinP ys).toArray⟩ : ByteArray).data.toList = joinP ys from rfl, HIA.out] at h6
      have H6 := Lib.hid h6
      clear h6
      go_wp2_with fail
      refine H6.out.mono ?_
      rintro e W6 ⟨rfl, hb6⟩
      have HB6 := Lib.hid (HB5.out.trans (hb6.mono HB5.out.size))
      have HM6 : Hid (W6.cell? ⟨0, 0, none⟩ = some (.int .i64 m)) := (HB6.out.cell (p := ⟨0, 0, none⟩) h0).trans HM.out
      clear hb6
      have h7 := pinside_any ⟨(joinP ys).toArray⟩ o m W6 HAL.out HO.out HM6.out
      rw [show (⟨(joinP ys).toArray⟩ : ByteArray).data.toList = joinP ys from rfl] at h7
      obtain ⟨q, hq⟩ : ∃ q, insideP (joinP ys) o.data.toList = q := ⟨_, rfl⟩
      rw [hq] at h7
      have H7 := Lib.hid h7
      have HQ := Lib.hid hq
      clear h7 hq
      go_wp2_with fail
      refine H7.out.mono ?_
      rintro e W7 ⟨rfl, hb7⟩
      have HB7 := Lib.hid (HB6.out.trans (hb7.mono HB6.out.size))
      have HM7 : Hid (W7.cell? ⟨0, 0, none⟩ = some (.int .i64 m)) := (HB7.out.cell (p := ⟨0, 0, none⟩) h0).trans HM.out
      clear hb7
      cases q with
      | false =>
        go_wp2_with fail
        go_ret
        exact ⟨rfl, HB7.out⟩
      | true =>
        have h8 := pinside_any s o m W7 HS.out HO.out HM7.out
        rw [HIM.out HQ.out] at h8
        have H8 := Lib.hid h8
        clear h8
        go_wp2_with fail
        refine H8.out.mono ?_
        rintro e W8 ⟨rfl, hb8⟩
        have HB8 := Lib.hid (HB7.out.trans (hb8.mono HB7.out.size))
        clear hb8
        go_wp2_with fail
        go_ret
        exact ⟨rfl, HB8.out⟩
end Go.Proofs.YtdekpjagkhdfcaaDoor
