/- slices.IndexFunc and ContainsFunc over strings, at path.Split's own test. -/
import Derived.Test.YtjkilpjdgjijiaaDoorPathP
import Derived.Lib.SlBy
import Derived.Outline
namespace Go.Proofs.YtjkilpjdgjijiaaDoor
open Go.RowKit
set_option linter.unusedVariables false

set_option maxRecDepth 100000 in
set_option maxHeartbeats 2000000 in
theorem bad_any (s : ByteArray) (w : World) (hs : s.size ≤ maxLen) :
    Calls Tryd.prog 77 #[.string s] w fun e w' => e = .returned (.bool (!isNm s.data.toList)) ∧ w' = w := by
  go_enter Tryd.func77, Tryd.ntmps77
  go_wp2_with fail
  refine (name_any s w hs).mono ?_
  rintro e w' ⟨rfl, rfl⟩
  go_wp2
  go_ret
  exact ⟨rfl, rfl⟩

def badS (s : ByteArray) : Bool := !isNm s.data.toList

set_option maxRecDepth 100000 in
set_option maxHeartbeats 2000000 in
theorem index_bad (b n c : Nat) (zs : List ByteArray) (w : World) (hn : zs.length = n) (hbig : n ≤ 9223372036854775807)
    (hc : ∀ j, j < zs.length → w.cell? ⟨b, j, none⟩ = some (.string zs[j]!)) (hz : ∀ s ∈ zs, s.size ≤ maxLen) :
    Calls Tryd.prog 85 #[.slice (some ⟨b, 0, none⟩) n c, .func (.func 77) #[] #[]] w fun e w' => e = .returned (.int .i64 (Lib.idxBy (fun _ y => badS y) zs default)) ∧ ∃ q, w' = w.drewN q := by
  have HZ : Hid (∀ j, j < zs.length → (zs[j]!).size ≤ maxLen) := by
    show ∀ j, j < zs.length → (zs[j]!).size ≤ maxLen
    intro j hj
    rw [getElem!_pos zs j hj]; exact hz _ (List.getElem_mem hj)
  clear hz
  have HN := Lib.hid hn
  go_enter Tryd.func85, Tryd.ntmps85
  go_wp2
  go_loopg [5, 8] n (fun gg _ s8 wr => ∃ kk q : Nat, kk ≤ n ∧ n - kk ≤ gg ∧ s8 = .int .i64 kk ∧ wr = w.drewN q ∧ Aside (∀ j, j < kk → badS zs[j]! = false))
  case atStart => exact ⟨0, 0, Nat.zero_le _, by omega, rfl, rfl, fun j hj => absurd hj (Nat.not_lt_zero _)⟩
  case round =>
    obtain ⟨kk, q, hkk, hg, rfl, rfl, A⟩ := hrel
    by_cases hlt : kk < n
    · have hltz : (kk : Int) < (n : Int) := by omega
      have hcell : w.cell? ⟨b, kk, none⟩ = some (.string zs[kk]!) := hc kk (by omega)
      have hsz := HZ.out kk (by omega)
      clear hc
      generalize hy : zs[kk]! = y at hcell hsz
      have B : Aside (zs[kk]! = y) := hy
      clear hy
      have hcall := fun w' => bad_any y w' hsz
      obtain ⟨r, hr⟩ : ∃ r, badS y = r := ⟨_, rfl⟩
      have HR := Lib.hid hr
      rw [show (!isNm y.data.toList) = r from hr] at hcall
      clear hr
      cases r with
      | true =>
        go_wp2_with fail
        refine (hcall _).mono ?_
        rintro e w' ⟨rfl, rfl⟩
        go_wp2
        go_ret
        refine ⟨?_, _, rfl⟩
        have := Lib.idxBy_hit (fun _ y => badS y) zs n kk default hlt (by omega) (by show badS zs[kk]! = true; rw [B.out]; exact HR.out) A.out
        rw [← HN.out, List.take_length] at this
        rw [this]
        rfl
      | false =>
        go_wp2_with fail
        refine (hcall _).mono ?_
        rintro e w' ⟨rfl, rfl⟩
        go_wp2
        go_roundg (n - (kk + 1))
        case measure => omega
        case rel =>
          refine ⟨kk + 1, _, by omega, by omega, by go_num, rfl, (show Aside _ from fun j hj => ?_)⟩
          by_cases e : j = kk
          · subst e
            rw [B.out]; exact HR.out
          · exact A.out j (by omega)
    · have hltz : ¬ (kk : Int) < (n : Int) := by omega
      have : kk = n := by omega
      subst this
      go_wp2
      go_ret
      refine ⟨?_, q, rfl⟩
      have := Lib.idxBy_miss (fun _ y => badS y) zs kk default A.out
      rw [← HN.out, List.take_length] at this
      rw [this]
      rfl

set_option maxRecDepth 100000 in
set_option maxHeartbeats 2000000 in
theorem contains_bad (b n c : Nat) (zs : List ByteArray) (w : World) (hn : zs.length = n) (hbig : n ≤ 9223372036854775807)
    (hc : ∀ j, j < zs.length → w.cell? ⟨b, j, none⟩ = some (.string zs[j]!)) (hz : ∀ s ∈ zs, s.size ≤ maxLen) :
    Calls Tryd.prog 79 #[.slice (some ⟨b, 0, none⟩) n c, .func (.func 77) #[] #[]] w fun e w' => e = .returned (.bool (zs.any badS)) ∧ ∃ q, w' = w.drewN q := by
  rw [show zs.any badS = decide (0 ≤ Lib.idxBy (fun _ y => badS y) zs default) from (Lib.idxBy_nonneg_iff (fun _ y => badS y) zs default).symm]
  go_enter Tryd.func79, Tryd.ntmps79
  go_wp2_with fail
  refine (index_bad b n c zs _ hn hbig hc hz).mono ?_
  rintro e w' ⟨rfl, q, rfl⟩
  go_wp2
  go_ret
  exact ⟨rfl, q, rfl⟩
end Go.Proofs.YtjkilpjdgjijiaaDoor
