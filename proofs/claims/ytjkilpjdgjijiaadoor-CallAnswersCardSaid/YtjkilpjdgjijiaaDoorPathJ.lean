/- tidelineref03.Join. -/
import Derived.Test.YtjkilpjdgjijiaaDoorPathT
import Derived.Laws.Concat
namespace Go.Proofs.YtjkilpjdgjijiaaDoor
open Go.RowKit
set_option linter.unusedVariables false

def joinL (zs : List ByteArray) : List UInt8 := zs.flatMap fun z => 47 :: z.data.toList
theorem joinL_snoc (zs : List ByteArray) (z : ByteArray) : joinL (zs ++ [z]) = joinL zs ++ 47 :: z.data.toList := by simp [joinL]
theorem joinL_take (zs : List ByteArray) (k : Nat) : (joinL (zs.take k)).length ≤ (joinL zs).length := by
  have h : joinL zs = joinL (zs.take k) ++ joinL (zs.drop k) := by
    conv => lhs; rw [← List.take_append_drop k zs]
    simp only [joinL, List.flatMap_append]
  rw [h, List.length_append]; omega

set_option maxRecDepth 100000 in
set_option maxHeartbeats 2000000 in
theorem rjoin_any (A : Option Addr) (c B : Nat) (zs : List ByteArray) (w : World) (hs : Sl w B A (zs.map Value.string)) (hb : (joinL zs).length ≤ 9223372036854775807) (hn : zs.length ≤ 9223372036854775806) :
    Calls Tryd.prog 81 #[.slice A zs.length c] w fun e w' => (∃ t : ByteArray, e = .returned (.string t) ∧ t.data.toList = joinP (zs.map (·.data.toList))) ∧ w' = w := by
  have HB := Lib.hid hb
  obtain ⟨n, hz⟩ : ∃ n, zs.length = n := ⟨_, rfl⟩
  have HN := Lib.hid hz
  rw [hz] at hn ⊢
  clear hb hz
  go_enter Tryd.func81, Tryd.ntmps81
  go_wp2_with fail
  go_loopw [3, 4] (fun s3 s4 wr => ∃ (k : Nat) (t : ByteArray), k ≤ n ∧ s4 = .int .i64 (k : Int) ∧ s3 = .string t ∧ Hid (t.data.toList = joinL (zs.take k)) ∧ wr = w) (fun _ s4 _ => n - (intOf s4).toNat)
  case atStart => exact ⟨0, _, Nat.zero_le _, rfl, rfl, Lib.hid rfl, rfl⟩
  case round =>
    obtain ⟨k, t, hk, rfl, rfl, ht, rfl⟩ := hrel
    by_cases hlt : k < n
    · have hi : (k : Int) < (n : Int) := by omega
      have hkz : k < zs.length := by rw [HN.out]; exact hlt
      obtain ⟨b, o, rfl, hb, hcell⟩ := hs.at (k := k) (by simpa using hkz)
      rw [List.getElem_map] at hcell
      have htk : zs.take (k + 1) = zs.take k ++ [zs[k]] := List.take_succ_eq_append_getElem hkz
      have hT : Hid (joinL (zs.take (k + 1)) = joinL (zs.take k) ++ 47 :: zs[k].data.toList) := by show _ = _; rw [htk, joinL_snoc]
      have hsz := joinL_take zs (k + 1)
      rw [hT.out, List.length_append, List.length_cons, ← ht.out] at hsz
      obtain ⟨z, hz⟩ : ∃ z, zs[k] = z := ⟨_, rfl⟩
      rw [hz] at hcell hT hsz
      have e1 : t.data.toList.length = t.size := by simp
      have e2 : z.data.toList.length = z.size := by simp
      have hbb := HB.out
      have hadd : ∀ w, (Op.stringOp .add ⟨#[47]⟩ z).run Tryd.prog w = .ok (.string (⟨#[47]⟩ ++ z)) w := fun w => run_string_add_sum w _ _ (by show 1 + _ ≤ _; omega)
      have hadd2 : ∀ w, (Op.stringOp .add t (⟨#[47]⟩ ++ z)).run Tryd.prog w = .ok (.string (t ++ (⟨#[47]⟩ ++ z))) w := fun w => run_string_add_sum w _ _ (by rw [ByteArray.size_append]; show _ + (1 + _) ≤ _; omega)
      have hn1 : ¬ (9223372036854775807 < (⟨#[47]⟩ : ByteArray).size + z.size) := by show ¬ (_ < 1 + _); omega
      have hn2 : ¬ (9223372036854775807 < t.size + (⟨#[47]⟩ ++ z : ByteArray).size) := by rw [ByteArray.size_append]; show ¬ (_ < _ + (1 + _)); omega
      have HJ : Hid ((t ++ (⟨#[47]⟩ ++ z)).data.toList = joinL (zs.take (k + 1))) := by
        show _ = _
        rw [hT.out, ← ht.out]
        simp
      clear hT hsz hbb e1 e2 htk hlt ht hz
      go_wp2_with fail
      go_roundw
      case rel => exact ⟨k + 1, _, by omega, by simp, rfl, HJ, trivial⟩
      case measure => simp [intOf] <;> omega
    · have hi : ¬ ((k : Int) < (n : Int)) := by omega
      have hkn : k = n := by omega
      subst hkn
      have htf := ht.out
      rw [List.take_of_length_le (by rw [HN.out]; exact Nat.le_refl _)] at htf
      clear ht
      by_cases he : t.data.toList = []
      · have hz0 : zs = [] := by
          cases zs with
          | nil => rfl
          | cons a l => rw [he] at htf; simp [joinL] at htf
        have q1 : t.toList = [] := by rw [Lib.toList_data]; exact he
        have q2 : t = ByteArray.empty := by
          cases t with | mk d => cases d with | mk l => simp at he; subst he; rfl
        have HP : Hid ((⟨#[47]⟩ : ByteArray).data.toList = joinP (zs.map (·.data.toList))) := by show _ = _; rw [hz0]; rfl
        subst q2
        clear he htf q1 hz0 hlt
        go_wp2_with fail
        go_ret
        exact ⟨⟨_, rfl, HP.out⟩, rfl⟩
      · have hz0 : zs ≠ [] := by
          rintro rfl
          exact he (by rw [htf]; rfl)
        have q1 : ¬ t.toList = [] := by rw [Lib.toList_data]; exact he
        have q2 : ¬ t = ByteArray.empty := by rintro rfl; exact he rfl
        have q3 : (t.toList == []) = false := by simpa using q1
        have HP : Hid (t.data.toList = joinP (zs.map (·.data.toList))) := by
          show _ = _
          unfold joinP
          rw [if_neg (by simpa using hz0), htf]
          simp [joinL, List.flatMap_map]
        clear he htf hz0 hlt
        go_wp2_with fail
        go_ret
        exact ⟨⟨_, rfl, HP.out⟩, rfl⟩
end Go.Proofs.YtjkilpjdgjijiaaDoor
