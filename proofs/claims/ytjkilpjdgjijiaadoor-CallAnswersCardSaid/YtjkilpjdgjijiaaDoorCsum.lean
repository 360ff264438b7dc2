/- check.Sum; tidelinelaw02.speaks. -/
import Derived.Test.YtjkilpjdgjijiaaDoorMore
import Derived.Lib.SlBytesConst
namespace Go.Proofs.YtjkilpjdgjijiaaDoor
open Go.RowKit
set_option linter.unusedVariables false

theorem sum_any (A : Option Addr) (c B : Nat) (l : List UInt8) (w : World) (hT : Tab w) (h : Sl w B A (bv l)) (hl : l.length ≤ maxLen) :
    Calls Tryd.prog 50 #[.slice A l.length c] w fun e w' => e = .returned (.int .u32 (more 0 l : Int)) ∧ w' = w := by
  go_enter Tryd.func50, Tryd.ntmps50
  go_wp2_with fail
  refine (more_any 0 (by decide) A c B l w hT h hl).mono ?_
  rintro e w' ⟨rfl, rfl⟩
  go_wp2
  go_ret
  exact ⟨rfl, rfl⟩

/-- Bytes in a block. -/
theorem Sl.of_block {w : World} {b : Nat} {l : List UInt8} {fr : Nat × Nat} (h : w.heap[b]? = some (.cells (bv l).toArray 5 fr)) : Sl w (b + 1) (some ⟨b, 0, none⟩) (bv l) := by
  refine .inr ⟨b, 0, rfl, by omega, fun k u hu => ?_⟩
  rw [Nat.zero_add]
  unfold World.cell?
  simp only [h]
  simpa using hu

abbrev b9 : List UInt8 := [49, 50, 51, 52, 53, 54, 55, 56, 57]
end Go.Proofs.YtjkilpjdgjijiaaDoor
