/- Reading plans; numbers that may be nil; five arguments. -/
import Derived.Test.YtohahhijbneheaaDoorRead
import Derived.Test.YtohahhijbneheaaDoorReadI
import Derived.Test.YtohahhijbneheaaDoorReadP
namespace Go.Proofs.YtohahhijbneheaaDoor
open Go.RowKit Go.ChangeShapes Go.WideShapes Go.ChangeAt
set_option linter.unusedVariables false

theorem plcells : Tryd.prog.cellsOf 24 = 2 := by kernel_rfl
theorem plcells_rows : Tryd.prog.cellsOf 22 = 1 := by kernel_rfl
theorem list2 {l : List Value} (h : l.length = 2) : ∃ x0 x1, l = [x0, x1] := by
  match l, h with
  | [x0, x1], _ => exact ⟨_, _, rfl⟩
set_option maxRecDepth 100000 in
theorem rd_plan_cells {H : Type} {enc : TypeId × Value → H} {w : World} {base : Nat} {spare : Nat → Bool} {held : Bool} {fuel : Nat} {cs : List Value} {x : DataW H × List MemPlace} (hl : cs.length = 2)
    (h : DataW.trod enc Tryd.prog w base spare held fuel 24 cs = some x) :
    ∃ (e : Int) (A : Option Addr) (c : Nat) (rs : List Ch), cs = [.int .i64 e, .slice A rs.length c] ∧ Mem w w.heap.size A rs := by
  obtain ⟨x0, x1, rfl⟩ := list2 hl
  obtain ⟨n0, y0, t0⟩ := rd_fieldAt Tryd.underlying24 h 0 3 0 1 rfl icells_int
  obtain ⟨z0, e0, -, w0⟩ := DataW.trod_int Tryd.underlying3 t0
  obtain ⟨n1, y1, t1⟩ := rd_fieldAt Tryd.underlying24 h 1 22 1 1 rfl plcells_rows
  obtain ⟨A, c, rs, e1, h1, h2, h3⟩ := rd_rows0 t1
  simp only [List.drop_zero, List.drop_succ_cons, List.take_succ_cons, List.take_zero, List.cons.injEq, and_true] at e0 e1
  subst e0 e1
  exact ⟨z0, A, c, rs, rfl, h3⟩
set_option maxRecDepth 100000 in
theorem rd_plan {H : Type} {enc : TypeId × Value → H} {w : World} {base : Nat} {spare : Nat → Bool} {held : Bool} {r : Reach} {b0 : Nat} {v : Value} {d : DataW H} {p : List MemPlace} (hv : Value.okWide Tryd.prog w r b0 24 v)
    (h : DataW.Trod enc Tryd.prog w base spare held 24 v d p) : ∃ (e : Int) (A : Option Addr) (c : Nat) (rs : List Ch), v = .agg #[.int .i64 e, .slice A rs.length c] ∧ Mem w w.heap.size A rs := by
  obtain ⟨cs, rfl, hsz⟩ := okWide_struct Tryd.underlying24 hv
  obtain ⟨fuel, hf⟩ := h
  rw [plcells] at hsz
  obtain ⟨e, A, c, rs, he, hm⟩ := rd_plan_cells (by simpa [Value.cells] using hsz) hf
  refine ⟨e, A, c, rs, ?_, hm⟩
  have e' : cs.toList = [.int .i64 e, .slice A rs.length c] := he
  have : cs = #[.int .i64 e, .slice A rs.length c] := Array.toList_inj.1 e'
  rw [this]
set_option maxRecDepth 100000 in
/-- A slice of numbers, nil or not. -/
theorem rd_ints2 {H : Type} {enc : TypeId × Value → H} {w : World} {base : Nat} {spare : Nat → Bool} {held : Bool} {v : Value} {d : DataW H} {ps : List MemPlace} {okb : Nat}
    (hv : Value.okWide Tryd.prog w .any okb 25 v) (h : DataW.Trod enc Tryd.prog w base spare held 25 v d ps) :
    ∃ (A : Option Addr) (c : Nat) (zs : List Int), v = .slice A zs.length c ∧ zs.length ≤ c ∧ c ≤ maxLen ∧ Sl w w.heap.size A (iv zs) ∧ (A = none → c = 0) := by
  obtain ⟨A, c, zs, rfl, h1, h2, h3⟩ := rd_ints hv h
  obtain ⟨m, hm⟩ := h
  exact ⟨A, c, zs, rfl, h1, h2, h3, fun e => (rd_nil Tryd.underlying25 (show DataW.trod enc Tryd.prog w base spare held m 25 [.slice A zs.length c] = some _ from hm) e).1⟩
theorem trodAll_five {H : Type} {enc : TypeId × Value → H} {P : Program} {w : World} {base : Nat} {spare : Nat → Bool} {held : Bool} {t t' t'' t3 t4 : TypeId} {args : Array Value} {ds : List (DataW H)} {ps : List MemPlace} (h : DataW.TrodAll enc P w base spare held [t, t', t'', t3, t4] args.toList ds ps) :
    ∃ v v' v'' v3 v4 d d' d'' d3 d4 p p' p'' p3 p4, args = #[v, v', v'', v3, v4] ∧ ds = [d, d', d'', d3, d4] ∧ ps = p ++ p' ++ p'' ++ p3 ++ p4 ∧ DataW.Trod enc P w base spare held t v d p ∧ DataW.Trod enc P w base spare held t' v' d' p' ∧ DataW.Trod enc P w base spare held t'' v'' d'' p'' ∧ DataW.Trod enc P w base spare held t3 v3 d3 p3 ∧ DataW.Trod enc P w base spare held t4 v4 d4 p4 := by
  obtain ⟨v, vs, d, ds', p, q, hargs, rfl, rfl, hd, hrest⟩ := trodAll_cons h
  obtain ⟨v', vs', d', ds'', p', q', rfl, rfl, rfl, hd', hrest'⟩ := trodAll_cons hrest
  obtain ⟨v'', vs'', d'', ds''', p'', q'', rfl, rfl, rfl, hd'', hrest''⟩ := trodAll_cons hrest'
  obtain ⟨v3, vs3, d3, ds3, p3, q3, rfl, rfl, rfl, hd3, hrest3⟩ := trodAll_cons hrest''
  obtain ⟨v4, vs4, d4, ds4, p4, q4, rfl, rfl, rfl, hd4, hrest4⟩ := trodAll_cons hrest3
  obtain ⟨rfl, rfl, rfl⟩ := trodAll_nil hrest4
  exact ⟨v, v', v'', v3, v4, d, d', d'', d3, d4, p, p', p'', p3, p4, by cases args; simp_all, rfl, by simp, hd, hd', hd'', hd3, hd4⟩
end Go.Proofs.YtohahhijbneheaaDoor
