/- PathBack: the walk. -/
import Derived.Test.YtdekpjagkhdfcaaDoorPathK
namespace Go.Proofs.YtdekpjagkhdfcaaDoor
open Go.RowKit
set_option linter.unusedVariables false

theorem joinL_short : ∀ (zs : List ByteArray), (zs.map (·.data.toList)).all isNm = true → (joinL zs).length ≤ zs.length * 17
  | [], _ => by simp [joinL]
  | z :: zs, h => by
    rw [List.map_cons, List.all_cons, Bool.and_eq_true] at h
    have ih := joinL_short zs h.2
    have h1 := (of_decide_eq_true h.1).2.1
    have e : joinL (z :: zs) = 47 :: z.data.toList ++ joinL zs := by simp [joinL]
    rw [e, List.length_append, List.length_cons, List.length_cons]
    omega

set_option maxRecDepth 100000 in
set_option maxHeartbeats 2000000 in
theorem pback_walk (A : Option Addr) (c : Nat) (zs : List ByteArray) (m : Int) (w : World) (hs : Sl w w.heap.size A (zs.map Value.string)) (hz : ∀ z ∈ zs, z.size ≤ maxLen) (hm : w.cell? ⟨0, 0, none⟩ = some (.int .i64 m)) (hl : zs.length ≤ maxLen) :
    Calls Tryd.prog 4 #[.slice A zs.length c] w fun e w' => e = .returned (.bool true) ∧ Below w.heap.size w w' := by
  have HS := Lib.hid hs
  have HZ := Lib.hid hz
  have HM := Lib.hid hm
  have h0 : 0 < w.heap.size := World.block_lt_of_cell? w _ hm
  unfold maxLen at hl
  clear hm hs hz
  obtain ⟨n, hn⟩ : ∃ n, zs.length = n := ⟨_, rfl⟩
  have HN := Lib.hid hn
  rw [hn] at hl ⊢
  clear hn
  go_enter Tryd.func4, Tryd.ntmps4
  go_wp2_with fail
  refine (pspeak_any m w HM.out).mono ?_
  rintro e W1 ⟨rfl, hb1⟩
  have HB1 := Lib.hid hb1
  have HM1 : Hid (W1.cell? ⟨0, 0, none⟩ = some (.int .i64 m)) := (hb1.cell (p := ⟨0, 0, none⟩) h0).trans HM.out
  have HS1 := Lib.hid (HS.out.below hb1)
  clear hb1
  by_cases h8 : 8 < n
  · have hi : (8 : Int) < (n : Int) := by omega
    go_wp2_with fail
    go_ret
    exact ⟨rfl, HB1.out⟩
  have hi : ¬ ((8 : Int) < (n : Int)) := by omega
  go_wp2_with fail
  go_loopw [14] (fun s14 wr => ∃ k : Nat, k ≤ n ∧ s14 = .int .i64 (k : Int) ∧ Hid (((zs.map (·.data.toList)).take k).all isNm = true) ∧ wr = W1) (fun s14 _ => n - (intOf s14).toNat)
  case atStart => exact ⟨0, Nat.zero_le _, rfl, Lib.hid rfl, rfl⟩
  case round =>
    obtain ⟨k, hk, rfl, hall, rfl⟩ := hrel
    by_cases hlt : k < n
    · have hlt' : (k : Int) < (n : Int) := by omega
      have hkz : k < zs.length := by rw [HN.out]; exact hlt
      obtain ⟨b, o, rfl, hbb, hcell⟩ := HS1.out.at (k := k) (by simpa using hkz)
      rw [List.getElem_map] at hcell
      have hcall := rname_any zs[k] wr (HZ.out _ (List.getElem_mem hkz))
      have htk : (zs.map (·.data.toList)).take (k + 1) = (zs.map (·.data.toList)).take k ++ [zs[k].data.toList] := by
        rw [List.take_succ_eq_append_getElem (by simpa using hkz), List.getElem_map]
      have HT := Lib.hid htk
      obtain ⟨r, hr⟩ : ∃ r, isNm zs[k].data.toList = r := ⟨_, rfl⟩
      have HR := Lib.hid hr
      rw [hr] at hcall
      have HC := Lib.hid hcall
      clear hr htk hcall hlt
      cases r with
      | true =>
        go_wp2_with fail
        refine HC.out.mono ?_
        rintro e w' ⟨rfl, rfl⟩
        go_wp2
        go_roundw
        case rel => exact ⟨k + 1, by omega, by simp, Lib.hid (by rw [HT.out, List.all_append, hall.out]; simp [HR.out]), trivial⟩
        case measure => simp [intOf] <;> omega
      | false =>
        go_wp2_with fail
        refine HC.out.mono ?_
        rintro e w' ⟨rfl, rfl⟩
        go_wp2
        go_ret
        exact ⟨rfl, HB1.out⟩
    · have hlt' : ¬ ((k : Int) < (n : Int)) := by omega
      have hkn : k = n := by omega
      subst hkn
      have hal := hall.out
      rw [List.take_of_length_le (by rw [List.length_map, HN.out]; exact Nat.le_refl _)] at hal
      have hpj := pathOf_join hal (by rw [List.length_map, HN.out]; omega)
      have hsz := joinL_short zs hal
      have hnn := HN.out
      have hjz := pjoin_any A c w.heap.size zs wr HS1.out HB1.out.size (by omega) (by omega)
      rw [hnn] at hjz
      have HJ := Lib.hid hjz
      have HPJ := Lib.hid hpj
      have hjl : (joinP (zs.map (·.data.toList))).length ≤ 1000 := by
        unfold joinP
        split
        · simp
        · have : ((zs.map (·.data.toList)).flatMap fun n => 47 :: n) = joinL zs := by simp [joinL, List.flatMap_map]
          rw [this]; omega
      have HJL : Hid ((⟨(joinP (zs.map (·.data.toList))).toArray⟩ : ByteArray).size ≤ maxLen) := by
        show (joinP (zs.map (·.data.toList))).toArray.size ≤ _
        rw [List.size_toArray]; unfold maxLen; omega
      clear hal hpj hsz hnn hjz hjl hlt hall
      go_wp2_with fail
      refine HJ.out.mono ?_
      rintro e W2 ⟨rfl, hb2⟩
      have HB2 := Lib.hid (HB1.out.trans (hb2.mono HB1.out.size))
      have HM2 : Hid (W2.cell? ⟨0, 0, none⟩ = some (.int .i64 m)) := (HB2.out.cell (p := ⟨0, 0, none⟩) h0).trans HM.out
      have HK2 := Lib.hid hb2
      clear hb2
      go_wp2_with fail
      refine (split_any _ m W2 HJL.out HM2.out).mono ?_
      rintro e W3 ⟨hs3, hb3⟩
      have HB3 := Lib.hid (HB2.out.trans (hb3.mono HB2.out.size))
      have HS3 := Lib.hid (HS.out.below HB3.out)
      clear hb3
      have hs3' := hs3
      unfold Splits at hs3'
      rw [show (⟨(joinP (zs.map (·.data.toList))).toArray⟩ : ByteArray).data.toList = joinP (zs.map (·.data.toList)) from rfl, HPJ.out] at hs3'
      obtain ⟨A3, c3, zs3, rfl, hz3, hsl3, hc3⟩ := hs3'
      have hz3 := datas_inj.1 hz3
      subst hz3
      have hnn := HN.out
      have htx := texts_any A3 A c3 c W3.heap.size zs3 zs3 W3 hsl3 (HS3.out.more HB3.out.size) (by unfold maxLen; omega) (by unfold maxLen; omega)
      rw [show decide (zs3 = zs3) = true by simp, hnn] at htx
      have HTX := Lib.hid htx
      rw [hnn]
      clear hsl3 hc3 hs3 hnn htx
      go_wp2_with fail
      refine HTX.out.mono ?_
      rintro e w4 ⟨rfl, q, rfl⟩
      go_wp2_with fail
      go_ret
      exact ⟨rfl, bdrewN HB3.out q⟩
end Go.Proofs.YtdekpjagkhdfcaaDoor
