/- tidelinelaw03.speaks. -/
import Derived.Test.YtdekpjagkhdfcaaDoorPathX
namespace Go.Proofs.YtdekpjagkhdfcaaDoor
open Go.RowKit
set_option linter.unusedVariables false

theorem parentE_ab : parentE [47, 97, 47, 98] = .returned (.tuple #[.string ⟨#[47, 97]⟩, .string ⟨#[98]⟩, .int .i64 0]) := by
  have h : pathOf [47, 97, 47, 98] = some ([[97]] ++ [[98]]) := by decide
  unfold parentE
  rw [parentP_some h]
  rfl

set_option maxRecDepth 100000 in
set_option maxHeartbeats 2000000 in
theorem pspeak_any (m : Int) (w : World) (hm : w.cell? ⟨0, 0, none⟩ = some (.int .i64 m)) :
    Calls Tryd.prog 8 #[] w fun e w' => e = .returned (.bool true) ∧ Below w.heap.size w w' := by
  have hp := parent_any ⟨#[47, 97, 47, 98]⟩ m w (by decide) hm
  have he : (⟨#[47, 97, 47, 98]⟩ : ByteArray).data.toList = [47, 97, 47, 98] := rfl
  rw [he, parentE_ab] at hp
  have HP := Lib.hid hp
  clear hp he hm
  go_enter Tryd.func8, Tryd.ntmps8
  go_wp2_with fail
  refine HP.out.mono ?_
  rintro e W1 ⟨rfl, hb1⟩
  have HB1 := Lib.hid hb1
  clear hb1
  go_wp2_with fail
  refine (pjoin_any none 0 0 [] W1 Sl.nil (Nat.zero_le _) (by decide) (by decide)).mono ?_
  rintro e W2 ⟨rfl, hb2⟩
  have HB2 := Lib.hid (HB1.out.trans (hb2.mono HB1.out.size))
  clear hb2
  go_wp2_with fail
  go_ret
  exact ⟨rfl, HB2.out⟩
end Go.Proofs.YtdekpjagkhdfcaaDoor
