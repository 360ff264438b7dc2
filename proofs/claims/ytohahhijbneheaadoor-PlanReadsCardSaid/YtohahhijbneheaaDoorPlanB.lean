/- Plans that are gathered chain by chain in new memory; the units of a first plan, plain. -/
import Derived.Test.YtohahhijbneheaaDoorPlanX
namespace Go.Proofs.YtohahhijbneheaaDoor
open Go.RowKit
set_option linter.unusedVariables false

def arithB : Bool := (List.range 8).all fun u => (List.range 8).all fun c => (List.range 8).all fun j => (List.range 8).all fun m =>
  !(decide (1 ≤ c ∧ j < c ∧ u ≤ j + m * c ∧ (m = 0 ∨ j + (m - 1) * c < u))) || decide ((List.range m).map (fun i => Int.ofNat (j + i * c)) = unitsOf c j u)
theorem arithB_true : arithB = true := by decide +kernel
theorem arith_units {u c j m : Nat} (hu : u < 8) (hc : c < 8) (hj : j < 8) (hm : m < 8) (h1 : 1 ≤ c) (h2 : j < c) (h3 : u ≤ j + m * c) (h4 : m = 0 ∨ j + (m - 1) * c < u) :
    (List.range m).map (fun i => Int.ofNat (j + i * c)) = unitsOf c j u := by
  have h := arithB_true
  unfold arithB at h
  simp only [List.all_eq_true, List.mem_range] at h
  have h5 := h u hu c hc j hj m hm
  rw [Bool.or_eq_true] at h5
  rcases h5 with h5 | h5
  · rw [decide_eq_true ⟨h1, h2, h3, h4⟩] at h5
    cases h5
  · exact of_decide_eq_true h5

/-- A plan under way: its block, its row of chains, each chain in new memory. -/
structure ColS (base : Nat) (e : Int) (bn : Nat) (v : Value) (rs : List Ch) (W : World) : Prop where
  n : Obj1 W bn 24 #[.int .i64 e, v]
  row : W.ownsRow base 25 1 v rs.length (rs.map Ch.val)
  own : ∀ r ∈ rs, W.ownsRow base 3 1 r.val r.l.length (iv r.l)
  ge : base ≤ bn
theorem ColS.below {base bn : Nat} {e : Int} {v : Value} {rs : List Ch} {W W' : World} (h : ColS base e bn v rs W) (hb : Below W.heap.size W W') : ColS base e bn v rs W' :=
  ⟨h.n.below hb h.n.lt, owns_below h.row hb, fun r hr => owns_below (h.own r hr) hb, h.ge⟩
theorem ColS.start {base : Nat} {e : Int} (W : World) (h : base ≤ W.heap.size) : ColS base e W.heap.size (.slice none 0 0) [] (W.alloc (.cells #[.int .i64 e, .slice none 0 0] 24)) :=
  ⟨Obj1.new _ _ _, World.ownsRow_nil _ _ _ _, by simp, h⟩
theorem ColS.bn2 {base bn : Nat} {e : Int} {v : Value} {rs : List Ch} {W w2 : World} {o : Obj} (h : ColS base e bn v rs W) (hgrow : (W.alloc o).grownBy w2 v.ownBlock) :
    w2.cell? ⟨bn, 1, none⟩ = some v ∧ w2.frozen? ⟨bn, 1, none⟩ = false := by
  have n2 := ((h.n.alloc o).grown hgrow ((h.n.alloc o).ne (e := 25) (h.row.alloc o) (by decide))).blk
  exact ⟨n2.cell 1, n2.free 1⟩
theorem ColS.step {base bn c : Nat} {e : Int} {v v' : Value} {rs : List Ch} {W w2 : World} {o : Obj} {A : Option Addr} {l : List Int} (h : ColS base e bn v rs W)
    (hg : W.ownsRow base 3 1 (.slice A l.length c) l.length (iv l))
    (hgrow : (W.alloc o).grownBy w2 v.ownBlock) (hown : w2.ownsRow base 25 1 v' (rs.length + 1) (rs.map Ch.val ++ [.slice A l.length c])) :
    ColS base e bn v' (rs ++ [⟨A, c, l⟩]) (w2.setCell ⟨bn, 1, none⟩ v') := by
  have n2 : Obj1 w2 bn 24 #[.int .i64 e, v] := (h.n.alloc o).grown hgrow ((h.n.alloc o).ne (e := 25) (h.row.alloc o) (by decide))
  have keep : ∀ {n : Nat} {u : Value} {xs : List Value}, W.ownsRow base 3 1 u n xs → (w2.setCell ⟨bn, 1, none⟩ v').ownsRow base 3 1 u n xs := by
    intro n u xs hu
    have f1 : Fr (fun j => v.ownBlock = some j) W w2 := ((Fr.refl _ W).alloc o).grown hgrow (fun j hj _ => hj)
    have h2 := f1.owns hu (fun j hj hm => owns_apart hu h.row (by decide) j hj hm)
    exact (fr_set w2 bn 1 v').owns h2 (info_apart h2 n2 (by decide))
  refine ⟨blk_set n2 v', ?_, ?_, h.ge⟩
  · have h2 := (fr_set w2 bn 1 v').owns hown (info_apart hown n2 (by decide))
    simpa [Ch.val] using h2
  · intro r hr
    rcases List.mem_append.1 hr with hr | hr
    · exact keep (h.own r hr)
    · rw [List.mem_singleton.1 hr]
      exact keep hg
theorem ColS.grow {base bn : Nat} {e : Int} {v v' : Value} {rs : List Ch} {B : Nat} {W w2 : World} {o : Obj} (h : ColS base e bn v rs W) (hB : B ≤ base) (hW : B ≤ W.heap.size) (hgrow : (W.alloc o).grownBy w2 v.ownBlock) :
    Below B W (w2.setCell ⟨bn, 1, none⟩ v') :=
  (((Below.refl B W).alloc hW o).grown hgrow (by simp; omega) (fun q hq => Nat.le_trans hB (own_lt h.row hq).2)).setCell (p := ⟨bn, 1, none⟩) (Nat.le_trans hB h.ge) _
/-- A turn of a block of another plan. -/
theorem ColS.far {base bn b i : Nat} {e : Int} {v : Value} {rs : List Ch} {W : World} {cs : Array Value} (h : ColS base e bn v rs W) (hz : Obj1 W b 24 cs) (hb : bn ≠ b) (u : Value) : ColS base e bn v rs (W.setCell ⟨b, i, none⟩ u) :=
  ⟨h.n.far (p := ⟨b, i, none⟩) hb u, (fr_set W b i u).owns h.row (info_apart h.row hz (by decide)), fun r hr => (fr_set W b i u).owns (h.own r hr) (info_apart (h.own r hr) hz (by decide)), h.ge⟩
theorem ColS.done {base bn : Nat} {e k : Int} {v : Value} {rs : List Ch} {W : World} (h : ColS base e bn v rs W) : NewPlan base e (rs.map (·.l)) k (.returned (.tuple #[.agg #[.int .i64 e, v], .int .i64 k])) W := by
  obtain ⟨A, c, rfl⟩ := own_form h.row
  exact ⟨A, c, rs, rfl, rfl, ⟨Sl.of_own h.row, fun r hr => ok_of_own (h.own r hr)⟩, ⟨Lo.of_own h.row, fun r hr => Lo.of_own (h.own r hr)⟩⟩
/-- The same, with the result's own block and what lay ahead. -/
structure ColZ (w : World) (e : Int) (bn bz : Nat) (v : Value) (rs : List Ch) (W : World) : Prop where
  col : ColS w.heap.size e bn v rs W
  z : Obj1 W bz 24 #[.int .i64 0, .slice none 0 0]
  ne : bz ≠ bn
  bel : Below w.heap.size w W
theorem ColZ.below {w W W' : World} {e : Int} {bn bz : Nat} {v : Value} {rs : List Ch} (h : ColZ w e bn bz v rs W) (hb : Below W.heap.size W W') : ColZ w e bn bz v rs W' :=
  ⟨h.col.below hb, h.z.below hb h.z.lt, h.ne, h.bel.trans (hb.mono h.bel.size)⟩
/-- A list of numbers under way, in memory that is newer than W0. -/
structure InnS (W0 : World) (l : List Int) (v : Value) (W : World) : Prop where
  row : W.ownsRow W0.heap.size 3 1 v l.length (iv l)
  bel : Below W0.heap.size W0 W
theorem InnS.start (W0 : World) : InnS W0 [] (.slice (some ⟨W0.heap.size, 0, none⟩) 0 0) (W0.alloc (.cells #[] 3)) :=
  ⟨World.ownsRow_made W0 #[] 0 (Nat.le_refl _) (Nat.zero_le _) rfl, (Below.refl _ _).alloc (Nat.le_refl _) _⟩
theorem InnS.snoc {W0 W w2 : World} {l : List Int} {v v' : Value} {o : Obj} {z : Int} (h : InnS W0 l v W)
    (hown : w2.ownsRow W0.heap.size 3 1 v' (l.length + 1) (iv l ++ [.int .i64 z])) (hgrow : (W.alloc o).grownBy w2 v.ownBlock) : InnS W0 (l ++ [z]) v' w2 := by
  refine ⟨?_, h.bel.trans (((Below.refl _ W).alloc h.bel.size o).grown hgrow (by have := h.bel.size; simp; omega) (fun q hq => (own_lt h.row hq).2))⟩
  have e : iv (l ++ [z]) = iv l ++ [.int .i64 z] := by simp [iv]
  rw [List.length_append, e]
  exact hown
theorem InnS.drewN {W0 W : World} {l : List Int} {v : Value} (h : InnS W0 l v W) (q : Nat) : InnS W0 l v (W.drewN q) := ⟨h.row, bdrewN h.bel q⟩
theorem ColZ.close {w W0 W w2 : World} {e : Int} {bn bz c : Nat} {v v' : Value} {rs : List Ch} {o : Obj} {A : Option Addr} {l : List Int} (h : ColZ w e bn bz v rs W0) (hi : InnS W0 l (.slice A l.length c) W)
    (hgrow : (W.alloc o).grownBy w2 v.ownBlock) (hown : w2.ownsRow w.heap.size 25 1 v' (rs.length + 1) (rs.map Ch.val ++ [.slice A l.length c])) :
    ColZ w e bn bz v' (rs ++ [⟨A, c, l⟩]) (w2.setCell ⟨bn, 1, none⟩ v') := by
  have h1 := h.below hi.bel
  exact ⟨h1.col.step (row_low hi.row h.bel.size) hgrow hown, ((h1.z.alloc o).grown hgrow ((h1.z.alloc o).ne (e := 25) (h1.col.row.alloc o) (by decide))).far (p := ⟨bn, 1, none⟩) h.ne _, h.ne,
    h1.bel.trans (h1.col.grow (Nat.le_refl _) h1.bel.size hgrow)⟩
theorem ColZ.done {w W : World} {e k : Int} {bn bz : Nat} {v : Value} {rs : List Ch} (h : ColZ w e bn bz v rs W) (u0 u1 : Value) :
    NewPlan w.heap.size e (rs.map (·.l)) k (.returned (.tuple #[.agg #[.int .i64 e, v], .int .i64 k])) ((W.setCell ⟨bz, 0, none⟩ u0).setCell ⟨bz, 1, none⟩ u1) :=
  ((h.col.far h.z (fun e => h.ne e.symm) u0).far (blk_set h.z u0) (fun e => h.ne e.symm) u1).done
end Go.Proofs.YtohahhijbneheaaDoor
