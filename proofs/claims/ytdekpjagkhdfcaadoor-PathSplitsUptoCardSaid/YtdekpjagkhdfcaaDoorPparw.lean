/- PathParents: the walk. -/
import Derived.Test.YtdekpjagkhdfcaaDoorPathK
namespace Go.Proofs.YtdekpjagkhdfcaaDoor
open Go.RowKit
set_option linter.unusedVariables false

theorem parentE_some {l : List UInt8} {ns : List (List UInt8)} {n : List UInt8} (h : pathOf l = some (ns ++ [n])) : parentE l = .returned (.tuple #[.string ⟨(joinP ns).toArray⟩, .string ⟨n.toArray⟩, .int .i64 0]) := by
  unfold parentE; rw [parentP_some h]
theorem parentE_root : parentE [47] = .returned (.tuple #[.string ⟨#[]⟩, .string ⟨#[]⟩, .int .i64 20]) := rfl
theorem parentE_none {l : List UInt8} (h : pathOf l = none) : parentE l = .returned (.tuple #[.string ⟨#[]⟩, .string ⟨#[]⟩, .int .i64 20]) := by
  unfold parentE; rw [parentP_none h]

set_option maxRecDepth 100000 in
set_option maxHeartbeats 2000000 in
theorem ppar_walk (s : ByteArray) (m : Int) (w : World) (hs : s.size ≤ maxLen) (hm : w.cell? ⟨0, 0, none⟩ = some (.int .i64 m)) :
    Calls Tryd.prog 7 #[.string s] w fun e w' => e = .returned (.bool true) ∧ Below w.heap.size w w' := by
  have HS := Lib.hid hs
  have HM := Lib.hid hm
  have h0 : 0 < w.heap.size := World.block_lt_of_cell? w _ hm
  unfold maxLen at hs
  clear hm
  by_cases h1000 : 1000 < s.size
  · have hi : (1000 : Int) < (s.size : Int) := by omega
    go_enter Tryd.func7, Tryd.ntmps7
    go_wp2_with fail
    refine (pspeak_any m w HM.out).mono ?_
    rintro e W1 ⟨rfl, hb1⟩
    go_wp2_with fail
    go_ret
    exact ⟨rfl, hb1⟩
  have hi : ¬ ((1000 : Int) < (s.size : Int)) := by omega
  clear h1000
  go_enter Tryd.func7, Tryd.ntmps7
  go_wp2_with fail
  refine (pspeak_any m w HM.out).mono ?_
  rintro e W1 ⟨rfl, hb1⟩
  have HB1 := Lib.hid hb1
  have HM1 : Hid (W1.cell? ⟨0, 0, none⟩ = some (.int .i64 m)) := (hb1.cell (p := ⟨0, 0, none⟩) h0).trans HM.out
  clear hb1
  go_wp2_with fail
  refine (split_any s m W1 HS.out HM1.out).mono ?_
  rintro e W2 ⟨hs2, hb2⟩
  have HB2 := Lib.hid (HB1.out.trans (hb2.mono HB1.out.size))
  have HM2 : Hid (W2.cell? ⟨0, 0, none⟩ = some (.int .i64 m)) := (HB2.out.cell (p := ⟨0, 0, none⟩) h0).trans HM.out
  clear hb2
  unfold Splits at hs2
  cases hp : pathOf s.data.toList with
  | none =>
    rw [hp] at hs2
    subst hs2
    have hI1 := pinside_any s ⟨#[47]⟩ m W2 HS.out (by decide) HM2.out
    rw [(inside_none hp _).1] at hI1
    have HI1 := Lib.hid hI1
    have HI2 : Hid (∀ W, W.cell? ⟨0, 0, none⟩ = some (.int .i64 m) → Calls Tryd.prog 18 #[.string ⟨#[47, 97]⟩, .string s] W fun e w' => e = .returned (.bool false) ∧ Below W.heap.size W w') := fun W hW => by
      have := pinside_any ⟨#[47, 97]⟩ s m W (by decide) HS.out hW
      rw [(inside_none hp _).2] at this
      exact this
    clear hp hI1
    go_wp2_with fail
    refine HI1.out.mono ?_
    rintro e W3 ⟨rfl, hb3⟩
    have HB3 := Lib.hid (HB2.out.trans (hb3.mono HB2.out.size))
    have HM3 : Hid (W3.cell? ⟨0, 0, none⟩ = some (.int .i64 m)) := (HB3.out.cell (p := ⟨0, 0, none⟩) h0).trans HM.out
    clear hb3
    go_wp2_with fail
    refine (HI2.out W3 HM3.out).mono ?_
    rintro e W4 ⟨rfl, hb4⟩
    have HB4 := Lib.hid (HB3.out.trans (hb4.mono HB3.out.size))
    clear hb4
    go_wp2_with fail
    go_ret
    exact ⟨rfl, HB4.out⟩
  | some ns =>
    rw [hp] at hs2
    obtain ⟨A1, c1, zs, rfl, hz, hsl, hc⟩ := hs2
    subst hz
    have HP := Lib.hid hp
    have HSL := Lib.hid hsl
    have hfit := (path_fits hp).1
    obtain ⟨n, hn⟩ : ∃ n, zs.length = n := ⟨_, rfl⟩
    have HN := Lib.hid hn
    have hst : s = ⟨(joinP ((zs.map (·.data.toList)).take n)).toArray⟩ := by
      rw [List.take_of_length_le (by rw [List.length_map, hn]; exact Nat.le_refl _), join_pathOf hp, ba_eta]
    have HST := Lib.hid hst
    rw [hn] at hfit ⊢
    clear hp hsl hc hn hst
    go_wp2_with fail
    go_loopw [5, 6] (fun s5 s6 wr => ∃ k : Nat, k ≤ n ∧ s6 = .int .i64 ((k : Int) - 1) ∧ s5 = .string ⟨(joinP ((zs.map (·.data.toList)).take k)).toArray⟩ ∧ Hid (Below W2.heap.size W2 wr)) (fun _ s6 _ => (intOf s6 + 1).toNat)
    case atStart => exact ⟨n, Nat.le_refl _, rfl, by rw [← HST.out], Lib.hid (Below.refl _ _)⟩
    case round =>
      obtain ⟨k, hk, rfl, rfl, hB⟩ := hrel
      have HBW := Lib.hid (HB2.out.trans (hB.out.mono HB2.out.size))
      have HMW : Hid (wr.cell? ⟨0, 0, none⟩ = some (.int .i64 m)) := (HBW.out.cell (p := ⟨0, 0, none⟩) h0).trans HM.out
      have HJL : Hid ((⟨(joinP ((zs.map (·.data.toList)).take k)).toArray⟩ : ByteArray).size ≤ maxLen) := by
        show (joinP _).toArray.size ≤ _
        have := joinP_take HP.out k
        rw [List.size_toArray]; unfold maxLen; omega
      cases k with
      | zero =>
        have hi1 : ((0 : Nat) : Int) - 1 = -1 := rfl
        have hpar := parent_any ⟨#[47]⟩ m wr (by decide) HMW.out
        rw [show (⟨#[47]⟩ : ByteArray).data.toList = [47] from rfl, parentE_root] at hpar
        have HPAR := Lib.hid hpar
        rw [show (⟨(joinP ((zs.map (·.data.toList)).take 0)).toArray⟩ : ByteArray) = ⟨#[47]⟩ from rfl]
        clear hpar
        go_wp2_with fail
        refine HPAR.out.mono ?_
        rintro e W3 ⟨rfl, hb3⟩
        have HB3 := Lib.hid (HBW.out.trans (hb3.mono HBW.out.size))
        clear hb3
        go_wp2_with fail
        go_ret
        exact ⟨rfl, HB3.out⟩
      | succ j =>
        have hjz : j < zs.length := by rw [HN.out]; omega
        have hi1 : (((j + 1 : Nat) : Int) - 1) = (j : Int) := by omega
        rw [hi1]
        have htk : (zs.map (·.data.toList)).take (j + 1) = (zs.map (·.data.toList)).take j ++ [zs[j].data.toList] := by
          rw [List.take_succ_eq_append_getElem (by simpa using hjz), List.getElem_map]
        have hpt := pathOf_take HP.out (j + 1)
        rw [htk] at hpt
        have hpar := parent_any ⟨(joinP ((zs.map (·.data.toList)).take (j + 1))).toArray⟩ m wr HJL.out HMW.out
        rw [show (⟨(joinP ((zs.map (·.data.toList)).take (j + 1))).toArray⟩ : ByteArray).data.toList = joinP ((zs.map (·.data.toList)).take (j + 1)) from rfl, htk, parentE_some hpt, ba_eta] at hpar
        rw [htk]
        obtain ⟨ab, hab⟩ : ∃ ab, (zs.map (·.data.toList)).take j = ab := ⟨_, rfl⟩
        have HINS : Hid (insideP s.data.toList (joinP ab) = true) := by
          show _ = _
          rw [← hab]
          exact inside_take HP.out (by rw [List.length_map]; exact hjz)
        have HAL : Hid ((⟨(joinP ab).toArray⟩ : ByteArray).size ≤ 137) := by
          show (joinP ab).toArray.size ≤ _
          have := joinP_take HP.out j
          rw [hab] at this
          rw [List.size_toArray]; exact this
        have HROOT : Hid (joinP ab = [47] ↔ ab = []) := by
          show _ ↔ _
          rw [← hab]; exact joinP_root HP.out j
        obtain ⟨b, o, rfl, hbb, hcell0⟩ := HSL.out.at (k := j) (by simpa using hjz)
        rw [List.getElem_map] at hcell0
        have hcell := (hB.out.cell (p := ⟨b, o + j, none⟩) hbb).trans hcell0
        have HZ : Hid (zs[j].size ≤ 16) := by
          show _ ≤ _
          have h1 := (pathOf_all HP.out).1
          have h2 := List.all_eq_true.1 h1 zs[j].data.toList (List.mem_map.2 ⟨zs[j], List.getElem_mem hjz, rfl⟩)
          have h3 := (of_decide_eq_true h2).2.1
          simpa using h3
        obtain ⟨z, hz⟩ : ∃ z, zs[j] = z := ⟨_, rfl⟩
        have HAB := Lib.hid hab
        rw [hab] at hpar ⊢
        rw [hz] at hcell hpar HZ ⊢
        have HPAR := Lib.hid hpar
        clear hpar hpt htk hcell0 hab hz
        go_wp2_with fail
        refine HPAR.out.mono ?_
        rintro e W3 ⟨rfl, hb3⟩
        have HB3 := Lib.hid (HBW.out.trans (hb3.mono HBW.out.size))
        have HK3 := Lib.hid (hB.out.trans (hb3.mono hB.out.size))
        have HM3 : Hid (W3.cell? ⟨0, 0, none⟩ = some (.int .i64 m)) := (HB3.out.cell (p := ⟨0, 0, none⟩) h0).trans HM.out
        have hcell3 : W3.cell? ⟨b, o + j, none⟩ = some (.string z) := (hb3.cell (p := ⟨b, o + j, none⟩) (Nat.lt_of_lt_of_le hbb hB.out.size)).trans hcell
        clear hb3 hcell
        have hins := pinside_any s ⟨(joinP ab).toArray⟩ m W3 HS.out (by have := HAL.out; unfold maxLen; omega) HM3.out
        rw [show (⟨(joinP ab).toArray⟩ : ByteArray).data.toList = joinP ab from rfl, HINS.out] at hins
        have HIN := Lib.hid hins
        have HTA : Hid ((⟨(joinP (ab ++ [z.data.toList])).toArray⟩ : ByteArray).data.toList = joinP (ab ++ [z.data.toList])) := rfl
        obtain ⟨u, hu⟩ : ∃ u, (⟨(joinP ab).toArray⟩ : ByteArray) = u := ⟨_, rfl⟩
        have HU : Hid (u.data.toList = joinP ab) := by show _ = _; rw [← hu]
        obtain ⟨t, ht⟩ : ∃ t, (⟨(joinP (ab ++ [z.data.toList])).toArray⟩ : ByteArray) = t := ⟨_, rfl⟩
        rw [ht] at HTA ⊢
        rw [hu] at HIN HAL ⊢
        have HUE := Lib.hid hu
        clear hins hu ht
        have hus := HAL.out
        have hzs := HZ.out
        have q1 : ¬ (9223372036854775807 < u.size + (⟨#[47]⟩ : ByteArray).size) := by show ¬ (_ < _ + 1); omega
        have q2 : ¬ (9223372036854775807 < (u ++ ⟨#[47]⟩ : ByteArray).size + z.size) := by rw [ByteArray.size_append]; show ¬ (_ < (_ + 1) + _); omega
        have q3 : ¬ (9223372036854775807 < (⟨#[47]⟩ : ByteArray).size + z.size) := by show ¬ (_ < 1 + _); omega
        have HFIN : Hid (zs.map (·.data.toList) |>.take j |>.length |> (· ≤ j)) := by
          show _ ≤ _; rw [List.length_take]; omega
        by_cases h0b : ab = []
        · have e1 : u.toList = [47] := by rw [Lib.toList_data, HU.out, h0b]; rfl
          have e2 : (u.toList == [47]) = true := by rw [e1]; rfl
          have e3 : (⟨#[47]⟩ ++ z : ByteArray).toList = t.toList := by
            rw [Lib.toList_data, Lib.toList_data, HTA.out, joinP_snoc, if_pos h0b]; simp
          have e4 : ((⟨#[47]⟩ ++ z : ByteArray).toList == t.toList) = true := by rw [e3]; simp
          have e5 : (⟨#[47]⟩ ++ z : ByteArray) = t := ByteArray.ext (Array.toList_inj.1 (by rw [HTA.out, joinP_snoc, if_pos h0b]; simp))
          clear h0b
          go_wp2_with fail
          refine HIN.out.mono ?_
          rintro e W4 ⟨rfl, hb4⟩
          have HB4 := Lib.hid (HK3.out.trans (hb4.mono HK3.out.size))
          clear hb4
          go_wp2_with fail
          go_roundw
          case rel => exact ⟨j, by omega, by first | rfl | go_num, by rw [← HUE.out, HAB.out], HB4⟩
          case measure => simp [intOf] <;> omega
        · have e0 : u.toList ≠ [47] := by rw [Lib.toList_data, HU.out]; exact fun h => h0b (HROOT.out.1 h)
          have e1 : ¬ u.toList = [47] := e0
          have e2 : (u.toList == [47]) = false := by simpa using e0
          have e3 : (u ++ ⟨#[47]⟩ ++ z : ByteArray).toList = t.toList := by
            rw [Lib.toList_data, Lib.toList_data, HTA.out, joinP_snoc, if_neg h0b, ← HU.out]; simp
          have e4 : ((u ++ ⟨#[47]⟩ ++ z : ByteArray).toList == t.toList) = true := by rw [e3]; simp
          have e5 : (u ++ ⟨#[47]⟩ ++ z : ByteArray) = t := ByteArray.ext (Array.toList_inj.1 (by rw [HTA.out, joinP_snoc, if_neg h0b, ← HU.out]; simp))
          clear h0b e0
          go_wp2_with fail
          refine HIN.out.mono ?_
          rintro e W4 ⟨rfl, hb4⟩
          have HB4 := Lib.hid (HK3.out.trans (hb4.mono HK3.out.size))
          clear hb4
          go_wp2_with fail
          go_roundw
          case rel => exact ⟨j, by omega, by first | rfl | go_num, by rw [← HUE.out, HAB.out], HB4⟩
          case measure => simp [intOf] <;> omega
end Go.Proofs.YtdekpjagkhdfcaaDoor
