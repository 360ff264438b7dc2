/- check.Sum; tidelinelaw02.speaks. -/
import Derived.Test.YtocifijoogeafaaDoorMore
import Derived.Lib.SlBytesConst
namespace Go.Proofs.YtocifijoogeafaaDoor
open Go.RowKit
set_option linter.unusedVariables false

theorem sum_any (A : Option Addr) (c B : Nat) (l : List UInt8) (w : World) (hT : Tab w) (h : Sl w B A (bv l)) (hl : l.length ≤ maxLen) :
    Calls Tryd.prog 8 #[.slice A l.length c] w fun e w' => e = .returned (.int .u32 (more 0 l : Int)) ∧ w' = w := by
  go_enter Tryd.func8, Tryd.ntmps8
  go_wp2_with fail
  refine (more_any 0 (by decide) A c B l w hT h hl).mono ?_
  rintro e w' ⟨rfl, rfl⟩
  go_wp2
  go_ret
  exact ⟨rfl, rfl⟩

/-- Bytes in a block. -/
theorem Sl.of_block {w : World} {b : Nat} {l : List UInt8} {fr : Nat × Nat} (h : w.heap[b]? = some (.cells (bv l).toArray 5 fr)) : Sl w (b + 1) (some ⟨b, 0, none⟩) (bv l) := by
  refine .inr ⟨b, 0, rfl, by omega, fun k u hu => ?_⟩
  rw [Nat.zero_add]
  unfold World.cell?
  simp only [h]
  simpa using hu

abbrev b9 : List UInt8 := [49, 50, 51, 52, 53, 54, 55, 56, 57]
set_option maxRecDepth 100000 in
set_option maxHeartbeats 1000000 in
theorem cspeak_any (w : World) (hT : Tab w) :
    Calls Tryd.prog 6 #[] w fun e w' => e = .returned (.bool true) ∧ Below w.heap.size w w' := by
  have kc := fun (w : World) (C : Array Value) (n c : Nat) => Lib.run_convert_bytes_const (P := Tryd.prog) w 22 5 C n c Tryd.underlying22 Tryd.underlying5
  go_enter Tryd.func6, Tryd.ntmps6
  go_wp2_with fail
  have hB := (Below.refl w.heap.size w).alloc (Nat.le_refl _) (.cells (bv b9).toArray 5 ((bv b9).toArray.size, (bv b9).toArray.size + 1))
  refine (sum_any (some ⟨w.heap.size, 0, none⟩) 9 (w.heap.size + 1) b9 _ (hT.below hT.1 hB) (Sl.of_block (heap_alloc_new w (.cells (bv b9).toArray 5 ((bv b9).toArray.size, (bv b9).toArray.size + 1)))) (by decide)).mono ?_
  rintro e w' ⟨he, rfl⟩
  rw [show more 0 b9 = 3421780262 by decide +kernel] at he
  subst he
  go_wp2
  go_ret
  exact ⟨rfl, hB⟩
end Go.Proofs.YtocifijoogeafaaDoor
