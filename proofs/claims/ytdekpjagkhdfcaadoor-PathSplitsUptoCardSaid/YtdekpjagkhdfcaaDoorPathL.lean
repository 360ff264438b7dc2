/- tidelinelaw03.join. -/
import Derived.Test.YtdekpjagkhdfcaaDoorPathE
namespace Go.Proofs.YtdekpjagkhdfcaaDoor
open Go.RowKit
set_option linter.unusedVariables false

/-- Strings with a slash between. -/
def joinS : List ByteArray → List UInt8
  | [] => []
  | z :: zs => z.data.toList ++ joinL zs
theorem joinS_snoc (zs : List ByteArray) (z : ByteArray) : joinS (zs ++ [z]) = if zs = [] then z.data.toList else joinS zs ++ 47 :: z.data.toList := by
  cases zs with
  | nil => simp [joinS, joinL]
  | cons a l => simp [joinS, joinL_snoc]
theorem joinS_le (zs : List ByteArray) : (joinS zs).length ≤ (joinL zs).length := by
  cases zs with
  | nil => simp [joinS]
  | cons a l => simp [joinS, joinL]

set_option maxRecDepth 100000 in
set_option maxHeartbeats 2000000 in
theorem ljoin_any (A : Option Addr) (c B : Nat) (zs : List ByteArray) (w : World) (hs : Sl w B A (zs.map Value.string)) (hb : (joinL zs).length ≤ 9223372036854775807) (hn : zs.length ≤ 9223372036854775806) :
    Calls Tryd.prog 17 #[.slice A zs.length c] w fun e w' => (∃ t : ByteArray, e = .returned (.string t) ∧ t.data.toList = joinS zs) ∧ w' = w := by
  have HB := Lib.hid hb
  obtain ⟨n, hz⟩ : ∃ n, zs.length = n := ⟨_, rfl⟩
  have HN := Lib.hid hz
  rw [hz] at hn ⊢
  clear hb hz
  go_enter Tryd.func17, Tryd.ntmps17
  go_wp2_with fail
  go_loopw [3, 8] (fun s3 s4 wr => ∃ (k : Nat) (t : ByteArray), k ≤ n ∧ s4 = .int .i64 (k : Int) ∧ s3 = .string t ∧ Hid (t.data.toList = joinS (zs.take k)) ∧ wr = w) (fun _ s4 _ => n - (intOf s4).toNat)
  case atStart => exact ⟨0, _, Nat.zero_le _, rfl, rfl, Lib.hid rfl, rfl⟩
  case round =>
    obtain ⟨k, t, hk, rfl, rfl, ht, rfl⟩ := hrel
    by_cases hlt : k < n
    · have hi : (k : Int) < (n : Int) := by omega
      have hkz : k < zs.length := by rw [HN.out]; exact hlt
      obtain ⟨b, o, rfl, hb, hcell⟩ := hs.at (k := k) (by simpa using hkz)
      rw [List.getElem_map] at hcell
      have htk : zs.take (k + 1) = zs.take k ++ [zs[k]] := List.take_succ_eq_append_getElem hkz
      have hT : Hid (joinS (zs.take (k + 1)) = if k = 0 then zs[k].data.toList else joinS (zs.take k) ++ 47 :: zs[k].data.toList) := by
        show _ = _
        rw [htk, joinS_snoc]
        have : (zs.take k = []) ↔ k = 0 := by
          constructor
          · intro h
            have := congrArg List.length h
            rw [List.length_take, List.length_nil] at this
            omega
          · rintro rfl; rfl
        simp only [this]
      have hsz := joinL_take zs (k + 1)
      rw [htk, joinL_snoc, List.length_append, List.length_cons] at hsz
      have hss := joinS_le (zs.take k)
      rw [← ht.out] at hss
      obtain ⟨z, hz⟩ : ∃ z, zs[k] = z := ⟨_, rfl⟩
      rw [hz] at hcell hT hsz
      have e1 : t.data.toList.length = t.size := by simp
      have e2 : z.data.toList.length = z.size := by simp
      have hbb := HB.out
      by_cases hk0 : k = 0
      · subst hk0
        rw [Nat.add_zero] at hcell
        have hi0 : 0 < n := hlt
        have hi00 : (0 : Int) < (n : Int) := by omega
        have hn2 : ¬ (9223372036854775807 < t.size + z.size) := by omega
        have ht0 : t.data.toList = [] := by rw [ht.out]; rfl
        have HJ : Hid ((t ++ z).data.toList = joinS (zs.take (0 + 1))) := by
          show _ = _
          rw [hT.out, if_pos rfl]
          simp [ht0]
        clear hT hsz hss hbb e1 e2 htk hlt ht hz ht0
        go_wp2_with fail
        go_roundw
        case rel => exact ⟨0 + 1, _, by omega, by simp, rfl, HJ, trivial⟩
        case measure => simp [intOf] <;> omega
      · have hk1 : (0 : Int) < (k : Int) := by omega
        have hn1 : ¬ (9223372036854775807 < t.size + (⟨#[47]⟩ : ByteArray).size) := by show ¬ (_ < _ + 1); omega
        have hn2 : ¬ (9223372036854775807 < (t ++ ⟨#[47]⟩ : ByteArray).size + z.size) := by rw [ByteArray.size_append]; show ¬ (_ < (_ + 1) + _); omega
        have HJ : Hid (((t ++ ⟨#[47]⟩) ++ z).data.toList = joinS (zs.take (k + 1))) := by
          show _ = _
          rw [hT.out, if_neg hk0, ← ht.out]
          simp
        clear hT hsz hss hbb e1 e2 htk hlt ht hz hk0
        go_wp2_with fail
        go_roundw
        case rel => exact ⟨k + 1, _, by omega, by simp, rfl, HJ, trivial⟩
        case measure => simp [intOf] <;> omega
    · have hi : ¬ ((k : Int) < (n : Int)) := by omega
      have hkn : k = n := by omega
      subst hkn
      have htf := ht.out
      rw [List.take_of_length_le (by rw [HN.out]; exact Nat.le_refl _)] at htf
      have HP := Lib.hid htf
      clear ht htf hlt
      go_wp2_with fail
      go_ret
      exact ⟨⟨_, rfl, HP.out⟩, rfl⟩
end Go.Proofs.YtdekpjagkhdfcaaDoor
