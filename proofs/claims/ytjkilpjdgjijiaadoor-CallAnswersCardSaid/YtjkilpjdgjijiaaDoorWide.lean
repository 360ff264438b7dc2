/- A struct of many cells: loaded, stored, at one step, wherever it lies; a result that lies in memory, and an int behind it. -/
import Derived.Test.YtjkilpjdgjijiaaDoorBase
import Derived.Laws.ResultCell
import Derived.Laws.CopyOwn
namespace Go.Proofs.YtjkilpjdgjijiaaDoor
open Go.RowKit
set_option linter.unusedVariables false

theorem run_store_row {P : Program} (T : TypeId) (g : Nat) (w : World) (xs ys : Array Value) (hg : w.heap[g]? = some (.cells xs T (0, 0))) (hs : xs.size = ys.size) (e2 : (sizeOf T).run P w = .ok ys.size w)
    (h1 : ∀ v ∈ ys.toList, v.oneCell' = true) : (storeVar T ⟨g, 0, none⟩ (.agg ys)).run P w = .ok () (w.setRow g ys) := by
  have hst := run_storeCells_at P g 0 T ys.toList 0 xs w hg (by simp [hs]) h1
  have hx : (xs.toList.take (0 + 0) ++ ys.toList ++ xs.toList.drop (0 + 0 + ys.toList.length)).toArray = ys := by
    rw [List.drop_eq_nil_of_le (by simp [hs])]; simp
  rw [hx] at hst
  unfold storeVar
  simp only [Sem.run_bind, e2, Result.andThen_ok, Value.cells, ne_eq, not_true_eq_false, if_false]
  exact hst
theorem ldR_row {P : Program} (T : TypeId) (w : World) (g : Nat) (t : TypeId) (cs : Array Value) (fr : Nat × Nat) (d : TypeDesc) (hg : w.heap[g]? = some (.cells cs t fr))
    (hu : P.underlying T = some d) (hd : (match d with | .struct _ | .array _ _ => true | _ => false) = true) (hi : (P.info? T).map (·.size) = some cs.size) :
    ldR P T (.pointer (some ⟨g, 0, none⟩)) w = .ok (.value (.agg cs)) w := by
  have h := run_loadVar_row (P := P) w g t T cs fr d hg hu hd hi
  simp only [ldR, Instr.loadAt, Instr.sureAddr, Sem.run_bind, Sem.run_pure, Result.andThen_ok, h]
theorem stR_row {P : Program} (T : TypeId) (w : World) (g : Nat) (xs ys : Array Value) (hg : w.heap[g]? = some (.cells xs T (0, 0))) (hs : xs.size = ys.size) (hi : (P.info? T).map (·.size) = some ys.size)
    (h1 : ∀ v ∈ ys.toList, v.oneCell' = true) : stR P T (.pointer (some ⟨g, 0, none⟩)) (.agg ys) w = .ok .skip (w.setRow g ys) := by
  have e2 : (sizeOf T).run P w = .ok ys.size w := by
    cases hq : P.info? T with
    | none => simp [hq] at hi
    | some i =>
      have hs : i.size = ys.size := by simpa [hq] using hi
      simp [sizeOf, typeInfo, hq, hs]
  have k := run_store_row (P := P) T g w xs ys hg hs e2 h1
  simp only [stR, Instr.storeAt, Instr.sureAddr, Sem.run_bind, Sem.run_pure, Result.andThen_ok, k]
theorem one_all {ys : Array Value} (h : ys.toList.all oneB = true) : ∀ v ∈ ys.toList, v.oneCell' = true := fun v hv => by rw [oneB_eq]; exact List.all_eq_true.1 h v hv
/-- A result that lies in memory, and one behind it. -/
theorem results_row_tmp {P : Program} {fn : Func} {p u : Tmp} {ty : TypeId} (h : fn.results = #[.cell p ty, .tmp u]) (tmps : Array Value) (w : World) (g : Nat) (t : TypeId) (cs : Array Value) (fr : Nat × Nat) (d : TypeDesc) (x : Value)
    (hp : tmps.getD p undef = .pointer (some ⟨g, 0, none⟩)) (hq : tmps.getD u undef = x) (hg : w.heap[g]? = some (.cells cs t fr))
    (hu : P.underlying ty = some d) (hd : (match d with | .struct _ | .array _ _ => true | _ => false) = true) (hi : (P.info? ty).map (·.size) = some cs.size) :
    (results fn tmps).run P w = .ok (.tuple #[.agg cs, x]) w := by
  rw [results_cell_tmp h, hp, hq]
  simp [asAddr, Result.andThen, run_loadVar_row w g t ty cs fr d hg hu hd hi]
theorem below_row {B g : Nat} {w0 w : World} (hb : Below B w0 w) (hBg : B ≤ g) (cs : Array Value) : Below B w0 (w.setRow g cs) :=
  hb.trans ⟨rfl, rfl, rfl, by simp [World.setRow], fun k hk => setRow_other w g k cs (by omega)⟩
theorem fr_row (w : World) (g : Nat) (cs : Array Value) : ∀ k, k ≠ g → (w.setRow g cs).heap[k]? = w.heap[k]? := fun k hk => setRow_other w g k cs hk
end Go.Proofs.YtjkilpjdgjijiaaDoor
