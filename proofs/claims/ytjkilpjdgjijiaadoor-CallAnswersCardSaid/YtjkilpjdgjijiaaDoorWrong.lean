/- octet's Reader, gone wrong. -/
import Derived.Test.YtjkilpjdgjijiaaDoorReader
namespace Go.Proofs.YtjkilpjdgjijiaaDoor
open Go.RowKit
set_option linter.unusedVariables false

/-- A reader at block g that has gone wrong. -/
def Gone (w : World) (g : Nat) : Prop := w.heap[g]? = some (.cells #[.slice none 0 0, .bool true] 99 (0, 0))
theorem Gone.below {w w' : World} {g : Nat} (h : Gone w g) (hb : Below w.heap.size w w') : Gone w' g := (Fr.of_below (M := fun _ => False) hb).cells h fun x => x
theorem Gone.lt {w : World} {g : Nat} (h : Gone w g) : g < w.heap.size := (Array.getElem?_eq_some_iff.1 h).1

theorem width_any (z : Int) (w : World) : Calls Tryd.prog 71 #[.int .i64 z] w fun e w' => (∃ y, e = .returned (.int .i64 y)) ∧ w' = w := by
  go_enter Tryd.func71, Tryd.ntmps71
  go_wp2
  all_goals go_ret
  all_goals exact ⟨⟨_, rfl⟩, rfl⟩
section
variable {w : World} {g : Nat}
theorem take_wrong (h : Gone w g) (z : Int) : Calls Tryd.prog 56 #[.pointer (some ⟨g, 0, none⟩), .int .i64 z] w fun e w' => e = .returned (.slice none 0 0) ∧ w' = w := by
  have hc := (Blk.of_heap h).cell
  go_enter Tryd.func56, Tryd.ntmps56
  go_wp2
  go_ret
  exact ⟨rfl, rfl⟩
theorem number_wrong (h : Gone w g) (z : Int) : Calls Tryd.prog 54 #[.pointer (some ⟨g, 0, none⟩), .int .i64 z] w fun e w' => e = .returned (.int .u64 0) ∧ w' = w := by
  go_enter Tryd.func54, Tryd.ntmps54
  go_wp2_with fail
  refine (width_any z w).mono ?_
  rintro e w' ⟨⟨y, rfl⟩, rfl⟩
  go_wp2_with fail
  refine (take_wrong h y).mono ?_
  rintro e w2 ⟨rfl, rfl⟩
  go_wp2_with fail
  refine wp_loop_once ?_
  go_wp2
  go_ret
  exact ⟨rfl, rfl⟩
theorem told_wrong (h : Gone w g) (z : Int) : Calls Tryd.prog 57 #[.pointer (some ⟨g, 0, none⟩), .int .i64 z] w fun e w' => e = .returned (.int .i64 0) ∧ w' = w := by
  have hc := (Blk.of_heap h).cell
  go_enter Tryd.func57, Tryd.ntmps57
  go_wp2_with fail
  refine (number_wrong h 4).mono ?_
  rintro e w2 ⟨rfl, rfl⟩
  go_wp2
  go_ret
  exact ⟨rfl, rfl⟩
theorem rbytes_wrong (h : Gone w g) (z : Int) : Calls Tryd.prog 26 #[.pointer (some ⟨g, 0, none⟩), .int .i64 z] w fun e w' => (∃ A c, e = .returned (.slice A 0 c)) ∧ Below w.heap.size w w' := by
  go_enter Tryd.func26, Tryd.ntmps26
  go_wp2_with fail
  refine (told_wrong h z).mono ?_
  rintro e w2 ⟨rfl, rfl⟩
  go_wp2_with fail
  refine (take_wrong h 0).mono ?_
  rintro e w2 ⟨rfl, rfl⟩
  go_wp2_with fail
  refine (clone_nil _).mono ?_
  rintro e w3 ⟨⟨A, c, rfl, -⟩, hb⟩
  go_wp2
  go_ret
  exact ⟨⟨A, c, rfl⟩, hb⟩
theorem byte_wrong (h : Gone w g) : Calls Tryd.prog 25 #[.pointer (some ⟨g, 0, none⟩)] w fun e w' => e = .returned (.int .u8 0) ∧ w' = w := by
  go_enter Tryd.func25, Tryd.ntmps25
  go_wp2_with fail
  refine (number_wrong h 1).mono ?_
  rintro e w2 ⟨rfl, rfl⟩
  go_wp2
  go_ret
  exact ⟨rfl, rfl⟩
theorem int_wrong (h : Gone w g) : Calls Tryd.prog 27 #[.pointer (some ⟨g, 0, none⟩)] w fun e w' => e = .returned (.int .i64 0) ∧ w' = w := by
  go_enter Tryd.func27, Tryd.ntmps27
  go_wp2_with fail
  refine (number_wrong h 8).mono ?_
  rintro e w2 ⟨rfl, rfl⟩
  go_wp2
  go_ret
  exact ⟨rfl, rfl⟩
theorem end_wrong (h : Gone w g) : Calls Tryd.prog 28 #[.pointer (some ⟨g, 0, none⟩)] w fun e w' => e = .returned (.int .i64 3) ∧ w' = w := by
  have hc := (Blk.of_heap h).cell
  go_enter Tryd.func28, Tryd.ntmps28
  go_wp2
  go_ret
  exact ⟨rfl, rfl⟩
theorem fail_ok {x y : Value} (h : w.heap[g]? = some (.cells #[x, y] 99 (0, 0))) : Calls Tryd.prog 72 #[.pointer (some ⟨g, 0, none⟩)] w fun e w' => e = .returned (.tuple #[]) ∧ Gone w' g ∧ Fr (fun k => k = g) w w' := by
  have hc := (Blk.of_heap h).cell
  have hf := (Blk.of_heap h).free
  go_enter Tryd.func72, Tryd.ntmps72
  go_wp2
  go_end0
  have h1 := cell_set (i := 0) h (.slice none 0 0)
  have h2 := cell_set (i := 1) h1 (.bool true)
  exact ⟨rfl, h2, (Fr.setCell (M := fun k => k = g) (p := ⟨g, 1, none⟩) (Fr.setCell (M := fun k => k = g) (p := ⟨g, 0, none⟩) (Fr.refl _ _) (fun _ => rfl) _) (fun _ => rfl) _)⟩
end
end Go.Proofs.YtjkilpjdgjijiaaDoor
