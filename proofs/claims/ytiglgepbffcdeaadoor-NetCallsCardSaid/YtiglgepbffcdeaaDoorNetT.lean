/- net.twin: a message that shares nothing. -/
import Derived.Test.YtiglgepbffcdeaaDoorNetB
import Derived.Test.YtiglgepbffcdeaaDoorRpcR
import Derived.Test.YtiglgepbffcdeaaDoorWide
namespace Go.Proofs.YtiglgepbffcdeaaDoor
open Go.RowKit
set_option linter.unusedVariables false

/-- A message's two byte slices are rows of one's own. -/
structure OwnM (w : World) (n0 : Nat) (m : Msg) (A1 : Option Addr) (c1 : Nat) (A2 : Option Addr) (c2 : Nat) : Prop where
  cd : w.ownsRow n0 5 1 (.slice A1 m.cd.length c1) m.cd.length (bv m.cd)
  va : w.ownsRow n0 5 1 (.slice A2 m.va.length c2) m.va.length (bv m.va)
theorem owns_low {w : World} {b b' : Nat} {e : TypeId} {size n : Nat} {v : Value} {xs : List Value} (h : w.ownsRow b e size v n xs) (hb : b' ≤ b) : w.ownsRow b' e size v n xs := by
  refine ⟨h.1, ?_⟩
  rcases h.2 with h | ⟨g, cap, cur, h1, h2, h3⟩
  · exact .inl h
  · exact .inr ⟨g, cap, cur, h1, Nat.le_trans hb h2, h3⟩
theorem owns_keep {w w' : World} {base : Nat} {e : TypeId} {size n : Nat} {v : Value} {xs : List Value} (h : w.ownsRow base e size v n xs) (hb : Below w.heap.size w w') : w'.ownsRow base e size v n xs :=
  (Fr.of_below (M := fun _ => False) hb).owns h (fun _ _ x => x)
/-- A row stays while blocks of another type turn. -/
theorem owns_far {w : World} {base g i : Nat} {e t : TypeId} {size n : Nat} {v : Value} {xs : List Value} {cs : Array Value} (h : w.ownsRow base e size v n xs) (hg : w.heap[g]? = some (.cells cs t (0, 0))) (hne : e ≠ t) (u : Value) : (w.setCell ⟨g, i, none⟩ u).ownsRow base e size v n xs :=
  (fr_set w g i u).owns h (info_apart h hg hne)
theorem owns_row {w : World} {base g : Nat} {e t : TypeId} {size n : Nat} {v : Value} {xs : List Value} {cs : Array Value} (h : w.ownsRow base e size v n xs) (hg : w.heap[g]? = some (.cells cs t (0, 0))) (hne : e ≠ t) (ys : Array Value) : (w.setRow g ys).ownsRow base e size v n xs := by
  refine ⟨h.1, ?_⟩
  rcases h.2 with hn | ⟨k, cap, cur, e1, hb, hh, rest⟩
  · exact .inl hn
  · refine .inr ⟨k, cap, cur, e1, hb, ?_, rest⟩
    rw [setRow_other w g k ys (fun e2 => by
      subst e2
      rw [hg] at hh
      injection hh with hh
      injection hh with _ h3
      exact hne h3.symm)]
    exact hh

abbrev zcells : Array Value := #[.int .i64 0, .int .i64 0, .int .i64 0, .bool false, .int .i64 0, .int .i64 0, .int .i64 0, .int .i64 0, .slice none 0 0, .int .i64 0, .int .i64 0, .slice none 0 0, .int .i64 0, .int .i64 0, .int .i64 0, .int .i64 0]
abbrev mcs (a1 a2 a3 : Int) (a4 : Bool) (a5 a6 a7 a8 : Int) (s9 : Value) (a10 a11 : Int) (s12 : Value) (a13 a14 a15 a16 : Int) : Array Value :=
  #[.int .i64 a1, .int .i64 a2, .int .i64 a3, .bool a4, .int .i64 a5, .int .i64 a6, .int .i64 a7, .int .i64 a8, s9, .int .i64 a10, .int .i64 a11, s12, .int .i64 a13, .int .i64 a14, .int .i64 a15, .int .i64 a16]

set_option maxRecDepth 100000 in
set_option maxHeartbeats 4000000 in
theorem twin_lit (a1 a2 a3 : Int) (a4 : Bool) (a5 a6 a7 a8 : Int) (a9 : List UInt8) (a10 a11 : Int) (a12 : List UInt8) (a13 a14 a15 a16 : Int) (A1 A2 : Option Addr) (c1 c2 B : Nat) (w : World) (h1 : Sl w B A1 (bv a9)) (h2 : Sl w B A2 (bv a12)) (n1 : A1 = none → c1 = 0) (n2 : A2 = none → c2 = 0)
    (k1 : a9.length ≤ 70368744177664) (k2 : a12.length ≤ 70368744177664) (hB : B ≤ w.heap.size) :
    Calls Tryd.prog 59 #[.agg (mcs a1 a2 a3 a4 a5 a6 a7 a8 (.slice A1 a9.length c1) a10 a11 (.slice A2 a12.length c2) a13 a14 a15 a16)] w fun e w' =>
      (∃ B1 d1 B2 d2, e = .returned (.agg (mcs a1 a2 a3 a4 a5 a6 a7 a8 (.slice B1 a9.length d1) a10 a11 (.slice B2 a12.length d2) a13 a14 a15 a16)) ∧
        w'.ownsRow w.heap.size 5 1 (.slice B1 a9.length d1) a9.length (bv a9) ∧ w'.ownsRow w.heap.size 5 1 (.slice B2 a12.length d2) a12.length (bv a12)) ∧ Below w.heap.size w w' := by
  have H1 := Lib.hid h1
  have H2 := Lib.hid h2
  have HK := Lib.hid k2
  have HC := Lib.hid (fun (X : World) (hX : Below w.heap.size w X) => bclone_bytes A1 c1 B a9 X (h1.below (hX.mono hB)) n1 k1 (Nat.le_trans hB hX.size))
  have HC2 := Lib.hid (fun (X : World) (hX : Below w.heap.size w X) => bclone_bytes A2 c2 B a12 X (h2.below (hX.mono hB)) n2 k2 (Nat.le_trans hB hX.size))
  clear h1 h2 n1 n2 k1 k2
  go_enter Tryd.func59, Tryd.ntmps59
  go_wp2_with fail
  have B0 : Below w.heap.size w ((w.alloc (.cells (mcs a1 a2 a3 a4 a5 a6 a7 a8 (.slice A1 a9.length c1) a10 a11 (.slice A2 a12.length c2) a13 a14 a15 a16) 34)).alloc (.cells zcells 34)) := ((Below.refl _ _).alloc (Nat.le_refl _) _).alloc (by simp) _
  have m0 : ((w.alloc (.cells (mcs a1 a2 a3 a4 a5 a6 a7 a8 (.slice A1 a9.length c1) a10 a11 (.slice A2 a12.length c2) a13 a14 a15 a16) 34)).alloc (.cells zcells 34)).heap[w.heap.size]? = some (.cells (mcs a1 a2 a3 a4 a5 a6 a7 a8 (.slice A1 a9.length c1) a10 a11 (.slice A2 a12.length c2) a13 a14 a15 a16) 34 (0, 0)) :=
    (Below.heap_alloc _ _ _ (by simp)).trans (heap_alloc_new w _)
  have z0 := heap_alloc_new (w.alloc (.cells (mcs a1 a2 a3 a4 a5 a6 a7 a8 (.slice A1 a9.length c1) a10 a11 (.slice A2 a12.length c2) a13 a14 a15 a16) 34)) (.cells zcells 34)
  rw [World.size_alloc] at z0
  refine (HC.out _ B0).mono ?_
  rintro en W1 ⟨⟨B1, d1, rfl, own1⟩, hb1⟩
  have m1 : W1.heap[w.heap.size]? = some (.cells (mcs a1 a2 a3 a4 a5 a6 a7 a8 (.slice A1 a9.length c1) a10 a11 (.slice A2 a12.length c2) a13 a14 a15 a16) 34 (0, 0)) := (hb1.block _ (by simp; omega)).trans m0
  have z1 : W1.heap[w.heap.size + 1]? = some (.cells zcells 34 (0, 0)) := (hb1.block _ (by simp)).trans z0
  have B1' : Below w.heap.size w W1 := B0.trans (hb1.mono B0.size)
  have q1 := (Blk.of_heap m1).cell
  have f1 := (Blk.of_heap m1).free
  have m1s := cell_set (i := 8) m1 (.slice B1 a9.length d1)
  have z1s : (W1.setCell ⟨w.heap.size, 8, none⟩ (.slice B1 a9.length d1)).heap[w.heap.size + 1]? = some (.cells zcells 34 (0, 0)) := (Below.heap_setCell W1 ⟨w.heap.size, 8, none⟩ _ (w.heap.size + 1) (by simp)).trans z1
  have B1s : Below w.heap.size w (W1.setCell ⟨w.heap.size, 8, none⟩ (.slice B1 a9.length d1)) := B1'.setCell (p := ⟨w.heap.size, 8, none⟩) (Nat.le_refl _) _
  have own1s := owns_far (i := 8) own1 m1 (by decide) (.slice B1 a9.length d1)
  have OWN1 := Lib.hid (owns_low own1s B0.size)
  have M1 := Lib.hid m1s
  have Z1 := Lib.hid z1s
  have BB1 := Lib.hid B1s
  have hl1 := (Array.getElem?_eq_some_iff.1 m1).1
  clear m0 z0 m1 z1 B1' m1s z1s B1s own1s own1 hb1 B0
  go_wp2_with fail
  clear q1 f1
  obtain ⟨X1, hX1⟩ : ∃ X, W1.setCell ⟨w.heap.size, 8, none⟩ (.slice B1 a9.length d1) = X := ⟨_, rfl⟩
  rw [hX1] at OWN1 M1 Z1 BB1 ⊢
  clear hX1
  refine (HC2.out _ BB1.out).mono ?_
  rintro en W2 ⟨⟨B2, d2, rfl, own2⟩, hb2⟩
  have m2 : W2.heap[w.heap.size]? = some (.cells (mcs a1 a2 a3 a4 a5 a6 a7 a8 (.slice B1 a9.length d1) a10 a11 (.slice A2 a12.length c2) a13 a14 a15 a16) 34 (0, 0)) := (hb2.block _ (Array.getElem?_eq_some_iff.1 M1.out).1).trans M1.out
  have z2 : W2.heap[w.heap.size + 1]? = some (.cells zcells 34 (0, 0)) := (hb2.block _ (Array.getElem?_eq_some_iff.1 Z1.out).1).trans Z1.out
  have B2' : Below w.heap.size w W2 := BB1.out.trans (hb2.mono BB1.out.size)
  have q2 := (Blk.of_heap m2).cell
  have f2 := (Blk.of_heap m2).free
  have m2s : (W2.setCell ⟨w.heap.size, 11, none⟩ (.slice B2 a12.length d2)).heap[w.heap.size]? = some (.cells (mcs a1 a2 a3 a4 a5 a6 a7 a8 (.slice B1 a9.length d1) a10 a11 (.slice B2 a12.length d2) a13 a14 a15 a16) 34 (0, 0)) := cell_set (i := 11) m2 (.slice B2 a12.length d2)
  have z2s : (W2.setCell ⟨w.heap.size, 11, none⟩ (.slice B2 a12.length d2)).heap[w.heap.size + 1]? = some (.cells zcells 34 (0, 0)) := (Below.heap_setCell W2 ⟨w.heap.size, 11, none⟩ _ (w.heap.size + 1) (by simp)).trans z2
  have B2s : Below w.heap.size w (W2.setCell ⟨w.heap.size, 11, none⟩ (.slice B2 a12.length d2)) := B2'.setCell (p := ⟨w.heap.size, 11, none⟩) (Nat.le_refl _) _
  have own12 := owns_far (i := 11) (owns_keep OWN1.out hb2) m2 (by decide) (.slice B2 a12.length d2)
  have own22 := owns_far (i := 11) own2 m2 (by decide) (.slice B2 a12.length d2)
  have hld := ldR_row (P := Tryd.prog) 34 (W2.setCell ⟨w.heap.size, 11, none⟩ (.slice B2 a12.length d2)) w.heap.size 34 (mcs a1 a2 a3 a4 a5 a6 a7 a8 (.slice B1 a9.length d1) a10 a11 (.slice B2 a12.length d2) a13 a14 a15 a16) (0, 0) _ m2s Tryd.underlying34 rfl (by kernel_rfl)
  have hst := stR_row (P := Tryd.prog) 34 (W2.setCell ⟨w.heap.size, 11, none⟩ (.slice B2 a12.length d2)) (w.heap.size + 1) zcells (mcs a1 a2 a3 a4 a5 a6 a7 a8 (.slice B1 a9.length d1) a10 a11 (.slice B2 a12.length d2) a13 a14 a15 a16) z2s rfl (by kernel_rfl) (one_all rfl)
  have OWN12 := Lib.hid (owns_row own12 z2s (by decide) (mcs a1 a2 a3 a4 a5 a6 a7 a8 (.slice B1 a9.length d1) a10 a11 (.slice B2 a12.length d2) a13 a14 a15 a16))
  have OWN22 := Lib.hid (owns_row (owns_low own22 BB1.out.size) z2s (by decide) (mcs a1 a2 a3 a4 a5 a6 a7 a8 (.slice B1 a9.length d1) a10 a11 (.slice B2 a12.length d2) a13 a14 a15 a16))
  have ZR := Lib.hid (setRow_heap _ (w.heap.size + 1) zcells (mcs a1 a2 a3 a4 a5 a6 a7 a8 (.slice B1 a9.length d1) a10 a11 (.slice B2 a12.length d2) a13 a14 a15 a16) 34 (0, 0) z2s)
  have B3 := Lib.hid (below_row B2s (Nat.le_succ w.heap.size) (mcs a1 a2 a3 a4 a5 a6 a7 a8 (.slice B1 a9.length d1) a10 a11 (.slice B2 a12.length d2) a13 a14 a15 a16))
  have hl2 := (Array.getElem?_eq_some_iff.1 m2).1
  clear m2 z2 B2' m2s z2s B2s own12 own22 own2 hb2
  go_wp2_with fail
  refine bodyPost_ret (v := .agg (mcs a1 a2 a3 a4 a5 a6 a7 a8 (.slice B1 a9.length d1) a10 a11 (.slice B2 a12.length d2) a13 a14 a15 a16)) (results_cell_row Tryd.results59 _ _ (w.heap.size + 1) 34 _ (0, 0) _ rfl ZR.out Tryd.underlying34 rfl (by kernel_rfl)) rfl ?_
  exact ⟨⟨B1, d1, B2, d2, rfl, OWN12.out, OWN22.out⟩, B3.out⟩
theorem twin_any (m : Msg) (A1 A2 : Option Addr) (c1 c2 B : Nat) (w : World) (h1 : Sl w B A1 (bv m.cd)) (h2 : Sl w B A2 (bv m.va)) (n1 : A1 = none → c1 = 0) (n2 : A2 = none → c2 = 0)
    (k1 : m.cd.length ≤ 70368744177664) (k2 : m.va.length ≤ 70368744177664) (hB : B ≤ w.heap.size) :
    Calls Tryd.prog 59 #[m.val A1 c1 A2 c2] w fun e w' =>
      (∃ B1 d1 B2 d2, e = .returned (m.val B1 d1 B2 d2) ∧ OwnM w' w.heap.size m B1 d1 B2 d2) ∧ Below w.heap.size w w' := by
  obtain ⟨a1, a2, a3, a4, a5, a6, a7, a8, a9, a10, a11, a12, a13, a14, a15, a16⟩ := m
  refine (twin_lit a1 a2 a3 a4 a5 a6 a7 a8 a9 a10 a11 a12 a13 a14 a15 a16 A1 A2 c1 c2 B w h1 h2 n1 n2 k1 k2 hB).mono ?_
  rintro e w' ⟨⟨B1, d1, B2, d2, he, o1, o2⟩, hb⟩
  exact ⟨⟨B1, d1, B2, d2, he, o1, o2⟩, hb⟩
end Go.Proofs.YtiglgepbffcdeaaDoor
