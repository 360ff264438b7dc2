/- EntryStreams: what the first loop holds. -/
import Derived.Test.YtpmanpckkpheeaaDoorStrP
import Derived.Maps.OwnIn
import Derived.Maps.AppendAt
import Derived.Maps.OwnSet
namespace Go.Proofs.YtpmanpckkpheeaaDoor
open Go.RowKit Go.Shelf
set_option linter.unusedVariables false

/-- Ints as values. -/
def iv (l : List Int) : List Value := l.map (.int .i64 ·)
def wantV (ss : List Int) (s : Int) (k : Nat) : List Value := iv ((wantOf ss s k).map Int.ofNat)

/-- What the first loop holds: the log's row, the wanted places' row, each stream's last place. -/
structure StS (W0 : World) (ss : List Int) (sw : Int) (k : Nat) (W : World) (gl cl gw cw : Nat) (D : DataW Unit) : Prop where
  bl : Boxed W (W0.heap.size + 1 + 1) 53 (.slice (some ⟨gl, 0, none⟩) k cl)
  rl : W.ownsRow W0.heap.size 45 7 (.slice (some ⟨gl, 0, none⟩) k cl) k (logCells ss k)
  bw : Boxed W (W0.heap.size + 1 + 1 + 1 + 1) 25 (.slice (some ⟨gw, 0, none⟩) (wantOf ss sw k).length cw)
  rw_ : W.ownsRow W0.heap.size 3 1 (.slice (some ⟨gw, 0, none⟩) (wantOf ss sw k).length cw) (wantOf ss sw k).length (wantV ss sw k)
  mp : W.ownsMap Tryd.prog 3 (plainElem Tryd.prog 3) (W0.heap.size + 1) k D
  mi : Maps.IsMap D
  md : ∀ s, 0 ≤ s → s ≤ 7 → Maps.has D (.int .i64 s) = decide (0 ≤ lastOf ss s k) ∧ (0 ≤ lastOf ss s k → D.atKey (.int .i64 s) (.lit (.int .i64 0)) = .lit (.int .i64 (lastOf ss s k)))
  bk : Below W0.heap.size W0 W

theorem ne_obj {W : World} {b b' : Nat} {o o' : Obj} (h : W.heap[b]? = some o) (h' : W.heap[b']? = some o') (hne : o ≠ o') : b ≠ b' := by
  rintro rfl
  rw [h] at h'
  exact hne (Option.some.inj h')
theorem row_obj {W : World} {base e size n g c : Nat} {xs : List Value} (h : W.ownsRow base e size (.slice (some ⟨g, 0, none⟩) n c) n xs) : base ≤ g ∧ ∃ cur, W.heap[g]? = some (.cells cur e (0, 0)) := by
  rcases h.2 with ⟨e', _⟩ | ⟨g', cap, cur, e', hb, hg, _⟩
  · cases e'
  · injection e' with e1
    injection e1 with e1
    injection e1 with e1
    subst e1
    exact ⟨hb, cur, hg⟩
theorem map_obj {W : World} {P : Program} {k : TypeId} {R : Value → Option (DataW Unit × List MemPlace)} {b n : Nat} {D : DataW Unit} (h : W.ownsMap P k R b n D) : ∃ es c, W.heap[b]? = some (.map es c) := by
  obtain ⟨es, c, hb, _⟩ := h
  exact ⟨es, c, hb⟩
theorem cells_ne {xs ys : Array Value} {t u : TypeId} {f f' : Nat × Nat} (h : t ≠ u) : Obj.cells xs t f ≠ Obj.cells ys u f' := fun e => by injection e with _ e2; exact h e2
theorem cells_map {xs : Array Value} {t : TypeId} {f : Nat × Nat} {es : Array MapEntry} {c : Nat} : Obj.cells xs t f ≠ Obj.map es c := fun e => by cases e
/-- A row over a turn of another block. -/
theorem row_kept {W W' : World} {base e size n g c : Nat} {xs : List Value} {row : Option Nat} (h : W.ownsRow base e size (.slice (some ⟨g, 0, none⟩) n c) n xs) (hg : W.grownBy W' row) (hne : some g ≠ row) : W'.ownsRow base e size (.slice (some ⟨g, 0, none⟩) n c) n xs :=
  h.kept hg (.inr hne)

section
variable {W0 : World} {ss : List Int} {sw : Int} {k : Nat} {W : World} {gl cl gw cw : Nat} {D : DataW Unit}
/-- The places apart. -/
theorem StS.apart (h : StS W0 ss sw k W gl cl gw cw D) : gl ≠ gw ∧ gl ≠ W0.heap.size + 1 ∧ gw ≠ W0.heap.size + 1 ∧ gl ≠ W0.heap.size + 1 + 1 ∧ gl ≠ W0.heap.size + 1 + 1 + 1 + 1 ∧ gw ≠ W0.heap.size + 1 + 1 ∧ gw ≠ W0.heap.size + 1 + 1 + 1 + 1 ∧ W0.heap.size ≤ gl ∧ W0.heap.size ≤ gw := by
  obtain ⟨hb1, c1, h1⟩ := row_obj h.rl
  obtain ⟨hb2, c2, h2⟩ := row_obj h.rw_
  obtain ⟨es, cc, h3⟩ := map_obj h.mp
  exact ⟨ne_obj h1 h2 (cells_ne (by decide)), ne_obj h1 h3 cells_map, ne_obj h2 h3 cells_map, ne_obj h1 h.bl (cells_ne (by decide)), ne_obj h1 h.bw (cells_ne (by decide)), ne_obj h2 h.bl (cells_ne (by decide)), ne_obj h2 h.bw (cells_ne (by decide)), hb1, hb2⟩

/-- Behind the log's append: all but its row and box are as they were. -/
theorem StS.logged (h : StS W0 ss sw k W gl cl gw cw D) {w1 : World} {gl' cl' : Nat} {ys : List Value} {o : Obj} (hown : w1.ownsRow W0.heap.size 45 7 (.slice (some ⟨gl', 0, none⟩) (k + 1) cl') (k + 1) ys) (hgrow : (W.alloc o).grownBy w1 (Value.slice (some ⟨gl, 0, none⟩) k cl).ownBlock) :
    Boxed w1 (W0.heap.size + 1 + 1) 53 (.slice (some ⟨gl, 0, none⟩) k cl) ∧
    (let w2 := w1.setCell ⟨W0.heap.size + 1 + 1, 0, none⟩ (.slice (some ⟨gl', 0, none⟩) (k + 1) cl')
     Boxed w2 (W0.heap.size + 1 + 1) 53 (.slice (some ⟨gl', 0, none⟩) (k + 1) cl') ∧ w2.ownsRow W0.heap.size 45 7 (.slice (some ⟨gl', 0, none⟩) (k + 1) cl') (k + 1) ys ∧
     Boxed w2 (W0.heap.size + 1 + 1 + 1 + 1) 25 (.slice (some ⟨gw, 0, none⟩) (wantOf ss sw k).length cw) ∧ w2.ownsRow W0.heap.size 3 1 (.slice (some ⟨gw, 0, none⟩) (wantOf ss sw k).length cw) (wantOf ss sw k).length (wantV ss sw k) ∧
     w2.ownsMap Tryd.prog 3 (plainElem Tryd.prog 3) (W0.heap.size + 1) k D ∧ Below W0.heap.size W0 w2) := by
  obtain ⟨a1, a2, a3, a4, a5, a6, a7, a8, a9⟩ := h.apart
  have hb := h.bk.size
  obtain ⟨k1, k2, k3, k4, k5⟩ := h.bl.appended (by decide) h.rl hb (by omega) hown hgrow
  have hr : (Value.slice (some ⟨gl, 0, none⟩) k cl).ownBlock = some gl := rfl
  rw [hr] at hgrow
  have hbox := ((h.bw.alloc o).kept hgrow (fun e => by injection e with e; exact a5 e.symm)).other (B' := W0.heap.size + 1 + 1) (by omega) (.slice (some ⟨gl', 0, none⟩) (k + 1) cl')
  have hrow := row_kept (row_kept (h.rw_.alloc o) hgrow (fun e => by injection e with e; exact a1 e.symm)) (grownBy_setCell' w1 (W0.heap.size + 1 + 1) (.slice (some ⟨gl', 0, none⟩) (k + 1) cl')) (fun e => by injection e with e; exact a6 e)
  have hmap := ((h.mp.alloc o).kept hgrow (fun e => by injection e with e; exact a2 e.symm)).setCell (a := ⟨W0.heap.size + 1 + 1, 0, none⟩) (by show W0.heap.size + 1 ≠ W0.heap.size + 1 + 1; omega) (.slice (some ⟨gl', 0, none⟩) (k + 1) cl')
  exact ⟨k1, k2, k3, hbox, hrow, hmap, h.bk.trans k5⟩
end

/-- One more place in the map. -/
theorem md_step {ss : List Int} {k : Nat} {D : DataW Unit} {sx : Int} (hx : s8 (ss.getD k 0) = sx) (hi : Maps.IsMap D)
    (h : ∀ s, 0 ≤ s → s ≤ 7 → Maps.has D (.int .i64 s) = decide (0 ≤ lastOf ss s k) ∧ (0 ≤ lastOf ss s k → D.atKey (.int .i64 s) (.lit (.int .i64 0)) = .lit (.int .i64 (lastOf ss s k)))) :
    ∀ s, 0 ≤ s → s ≤ 7 → Maps.has (D.put (.int .i64 sx) (.lit (.int .i64 (k : Int)))) (.int .i64 s) = decide (0 ≤ lastOf ss s (k + 1)) ∧ (0 ≤ lastOf ss s (k + 1) → (D.put (.int .i64 sx) (.lit (.int .i64 (k : Int)))).atKey (.int .i64 s) (.lit (.int .i64 0)) = .lit (.int .i64 (lastOf ss s (k + 1)))) := by
  intro s h0 h7
  by_cases e : s = sx
  · subst e
    have hl : lastOf ss s (k + 1) = (k : Int) := by unfold lastOf; rw [if_pos hx]
    rw [hl, Maps.has_put_same hi (by trivial), Maps.atKey_put_same hi (by trivial)]
    exact ⟨(decide_eq_true (by omega)).symm, fun _ => rfl⟩
  · have hl : lastOf ss s (k + 1) = lastOf ss s k := by
      rw [lastOf, if_neg]
      rw [hx]; exact fun e' => e e'.symm
    have hne : (Lit.int .i64 s) ≠ (.int .i64 sx) := fun e' => by injection e' with _ e'; exact e e'
    rw [hl, Maps.has_put_other hne, Maps.atKey_put_other hne]
    exact h s h0 h7

/-- Half a round: the log and the map have the new place, the wanted ones not yet. -/
structure Half (W0 : World) (ss : List Int) (sw : Int) (k : Nat) (W : World) (gl cl gw cw : Nat) (D : DataW Unit) : Prop where
  bl : Boxed W (W0.heap.size + 1 + 1) 53 (.slice (some ⟨gl, 0, none⟩) (k + 1) cl)
  rl : W.ownsRow W0.heap.size 45 7 (.slice (some ⟨gl, 0, none⟩) (k + 1) cl) (k + 1) (logCells ss (k + 1))
  bw : Boxed W (W0.heap.size + 1 + 1 + 1 + 1) 25 (.slice (some ⟨gw, 0, none⟩) (wantOf ss sw k).length cw)
  rw_ : W.ownsRow W0.heap.size 3 1 (.slice (some ⟨gw, 0, none⟩) (wantOf ss sw k).length cw) (wantOf ss sw k).length (wantV ss sw k)
  mp : W.ownsMap Tryd.prog 3 (plainElem Tryd.prog 3) (W0.heap.size + 1) (k + 1) D
  mi : Maps.IsMap D
  md : ∀ s, 0 ≤ s → s ≤ 7 → Maps.has D (.int .i64 s) = decide (0 ≤ lastOf ss s (k + 1)) ∧ (0 ≤ lastOf ss s (k + 1) → D.atKey (.int .i64 s) (.lit (.int .i64 0)) = .lit (.int .i64 (lastOf ss s (k + 1))))
  bk : Below W0.heap.size W0 W

/-- Behind the map's store. -/
theorem half_of {W0 : World} {ss : List Int} {sw sx : Int} {k : Nat} {w2 w3 : World} {gl cl gw cw : Nat} {D : DataW Unit}
    (h1 : Boxed w2 (W0.heap.size + 1 + 1) 53 (.slice (some ⟨gl, 0, none⟩) (k + 1) cl)) (h2 : w2.ownsRow W0.heap.size 45 7 (.slice (some ⟨gl, 0, none⟩) (k + 1) cl) (k + 1) (logCells ss (k + 1)))
    (h3 : Boxed w2 (W0.heap.size + 1 + 1 + 1 + 1) 25 (.slice (some ⟨gw, 0, none⟩) (wantOf ss sw k).length cw)) (h4 : w2.ownsRow W0.heap.size 3 1 (.slice (some ⟨gw, 0, none⟩) (wantOf ss sw k).length cw) (wantOf ss sw k).length (wantV ss sw k))
    (h5 : w2.ownsMap Tryd.prog 3 (plainElem Tryd.prog 3) (W0.heap.size + 1) k D) (h6 : Below W0.heap.size W0 w2)
    (hx : s8 (ss.getD k 0) = sx) (hi : Maps.IsMap D)
    (hm : ∀ s, 0 ≤ s → s ≤ 7 → Maps.has D (.int .i64 s) = decide (0 ≤ lastOf ss s k) ∧ (0 ≤ lastOf ss s k → D.atKey (.int .i64 s) (.lit (.int .i64 0)) = .lit (.int .i64 (lastOf ss s k))))
    (hown : w3.ownsMap Tryd.prog 3 (plainElem Tryd.prog 3) (W0.heap.size + 1) (k + 1) (D.put (.int .i64 sx) (.lit (.int .i64 (k : Int))))) (hgrow : w2.grownBy w3 (some (W0.heap.size + 1))) :
    Half W0 ss sw k w3 gl cl gw cw (D.put (.int .i64 sx) (.lit (.int .i64 (k : Int)))) := by
  obtain ⟨hb1, c1, q1⟩ := row_obj h2
  obtain ⟨hb2, c2, q2⟩ := row_obj h4
  obtain ⟨es, cc, q3⟩ := map_obj h5
  have n1 := ne_obj q1 q3 cells_map
  have n2 := ne_obj q2 q3 cells_map
  refine ⟨h1.kept hgrow (fun e => by injection e with e; omega), row_kept h2 hgrow (fun e => by injection e with e; exact n1 e), h3.kept hgrow (fun e => by injection e with e; omega), row_kept h4 hgrow (fun e => by injection e with e; exact n2 e), hown, hown.isMap, md_step hx hi hm, ?_⟩
  exact h6.trans ((Below.refl _ _).grown hgrow h6.size (fun q e => by cases e; omega))

theorem Half.done {W0 : World} {ss : List Int} {sw : Int} {k : Nat} {W : World} {gl cl gw cw : Nat} {D : DataW Unit} (h : Half W0 ss sw k W gl cl gw cw D) (hne : s8 (ss.getD k 0) ≠ sw) : StS W0 ss sw (k + 1) W gl cl gw cw D := by
  have e : wantOf ss sw (k + 1) = wantOf ss sw k := by rw [wantOf, if_neg hne]
  refine ⟨h.bl, h.rl, ?_, ?_, h.mp, h.mi, h.md, h.bk⟩
  · rw [e]; exact h.bw
  · unfold wantV; rw [e]; exact h.rw_
/-- Behind the wanted places' append. -/
theorem Half.wanted {W0 : World} {ss : List Int} {sw : Int} {k : Nat} {W : World} {gl cl gw cw : Nat} {D : DataW Unit} (h : Half W0 ss sw k W gl cl gw cw D) (he : s8 (ss.getD k 0) = sw) {w4 : World} {g5 c5 : Nat} {o : Obj}
    (hown : w4.ownsRow W0.heap.size 3 1 (.slice (some ⟨g5, 0, none⟩) ((wantOf ss sw k).length + 1) c5) ((wantOf ss sw k).length + 1) (.int .i64 (k : Int) :: wantV ss sw k)) (hgrow : (W.alloc o).grownBy w4 (some W.heap.size)) :
    Boxed w4 (W0.heap.size + 1 + 1 + 1 + 1) 25 (.slice (some ⟨gw, 0, none⟩) (wantOf ss sw k).length cw) ∧
    StS W0 ss sw (k + 1) (w4.setCell ⟨W0.heap.size + 1 + 1 + 1 + 1, 0, none⟩ (.slice (some ⟨g5, 0, none⟩) ((wantOf ss sw k).length + 1) c5)) gl cl g5 c5 D := by
  have e : wantOf ss sw (k + 1) = k :: wantOf ss sw k := by rw [wantOf, if_pos he]
  have el : (wantOf ss sw (k + 1)).length = (wantOf ss sw k).length + 1 := by rw [e]; rfl
  have ev : wantV ss sw (k + 1) = .int .i64 (k : Int) :: wantV ss sw k := by unfold wantV; rw [e]; rfl
  obtain ⟨hb1, c1, q1⟩ := row_obj h.rl
  have hl := h.bl.lt
  have hw := h.bw.lt
  have hg := (Array.getElem?_eq_some_iff.1 q1).1
  obtain ⟨es, cc, q3⟩ := map_obj h.mp
  have hm := (Array.getElem?_eq_some_iff.1 q3).1
  have k1 := (h.bl.alloc o).kept hgrow (fun e => by injection e with e; omega)
  have k2 := row_kept (h.rl.alloc o) hgrow (fun e => by injection e with e; omega)
  have k3 := (h.bw.alloc o).kept hgrow (fun e => by injection e with e; omega)
  have k4 := (h.mp.alloc o).kept hgrow (fun e => by injection e with e; omega)
  have k5 : Below W0.heap.size W0 w4 := h.bk.trans (((Below.refl _ W).alloc h.bk.size o).grown hgrow (by have := h.bk.size; simp; omega) (fun q e => by cases e; exact h.bk.size))
  have n1 : gl ≠ W0.heap.size + 1 + 1 + 1 + 1 := ne_obj q1 h.bw (cells_ne (by decide))
  obtain ⟨hb5, c6, q5⟩ := row_obj hown
  have n5 : g5 ≠ W0.heap.size + 1 + 1 + 1 + 1 := ne_obj q5 k3 (cells_ne (by decide))
  refine ⟨k3, ⟨k1.other (by omega) _, row_kept k2 (grownBy_setCell' w4 _ _) (fun e => by injection e with e; exact n1 e), ?_, ?_, k4.setCell (a := ⟨W0.heap.size + 1 + 1 + 1 + 1, 0, none⟩) (by show W0.heap.size + 1 ≠ W0.heap.size + 1 + 1 + 1 + 1; omega) _, h.mi, h.md, k5.setCell (p := ⟨W0.heap.size + 1 + 1 + 1 + 1, 0, none⟩) (by show W0.heap.size ≤ W0.heap.size + 1 + 1 + 1 + 1; omega) _⟩⟩
  · rw [el]; exact k3.set _
  · rw [el, ev]; exact row_kept hown (grownBy_setCell' w4 _ _) (fun e => by injection e with e; exact n5 e)

theorem sts_start (W0 : World) (ss : List Int) (sw : Int) :
    StS W0 ss sw 0 (((((W0.alloc (.cells #[] 45)).alloc (.map #[] 0)).alloc (.cells #[.slice (some ⟨W0.heap.size, 0, none⟩) 0 0] 53)).alloc (.cells #[] 3)).alloc (.cells #[.slice (some ⟨W0.heap.size + 1 + 1 + 1, 0, none⟩) 0 0] 25))
      W0.heap.size 0 (W0.heap.size + 1 + 1 + 1) 0 (.map []) := by
  have r0 : (W0.alloc (.cells #[] 45)).ownsRow W0.heap.size 45 7 (.slice (some ⟨W0.heap.size, 0, none⟩) 0 0) 0 [] :=
    ⟨rfl, .inr ⟨W0.heap.size, 0, #[], rfl, Nat.le_refl _, heap_alloc_new W0 _, Nat.le_refl _, Nat.zero_le _, rfl, rfl⟩⟩
  have m0 := World.ownsMap_made (H := Unit) (W0.alloc (.cells #[] 45)) Tryd.prog 3 (plainElem Tryd.prog 3)
  rw [World.size_alloc] at m0
  have b0 := Boxed.new ((W0.alloc (.cells #[] 45)).alloc (.map #[] 0)) 53 (.slice (some ⟨W0.heap.size, 0, none⟩) 0 0)
  rw [World.size_alloc, World.size_alloc] at b0
  have r1 : ((((W0.alloc (.cells #[] 45)).alloc (.map #[] 0)).alloc (.cells #[.slice (some ⟨W0.heap.size, 0, none⟩) 0 0] 53)).alloc (.cells #[] 3)).ownsRow W0.heap.size 3 1 (.slice (some ⟨W0.heap.size + 1 + 1 + 1, 0, none⟩) 0 0) 0 [] :=
    ⟨rfl, .inr ⟨W0.heap.size + 1 + 1 + 1, 0, #[], rfl, by omega, by have h := heap_alloc_new (((W0.alloc (.cells #[] 45)).alloc (.map #[] 0)).alloc (.cells #[.slice (some ⟨W0.heap.size, 0, none⟩) 0 0] 53)) (.cells #[] 3); rw [World.size_alloc, World.size_alloc, World.size_alloc] at h; exact h, Nat.le_refl _, Nat.zero_le _, rfl, rfl⟩⟩
  have b1 := Boxed.new ((((W0.alloc (.cells #[] 45)).alloc (.map #[] 0)).alloc (.cells #[.slice (some ⟨W0.heap.size, 0, none⟩) 0 0] 53)).alloc (.cells #[] 3)) 25 (.slice (some ⟨W0.heap.size + 1 + 1 + 1, 0, none⟩) 0 0)
  rw [World.size_alloc, World.size_alloc, World.size_alloc, World.size_alloc] at b1
  refine ⟨(b0.alloc _).alloc _, ((((r0.alloc _).alloc _).alloc _).alloc _), b1, r1.alloc _, (((m0.alloc _).alloc _).alloc _), m0.isMap, ?_, ?_⟩
  · intro s _ _
    refine ⟨?_, fun h => ?_⟩
    · show Maps.has _ _ = decide ((0 : Int) ≤ -1)
      rfl
    · exact absurd h (by show ¬ ((0 : Int) ≤ -1); decide)
  · exact (((((Below.refl _ _).alloc (Nat.le_refl _) _).alloc (by simp) _).alloc (by simp; omega) _).alloc (by simp; omega) _).alloc (by simp; omega) _
end Go.Proofs.YtpmanpckkpheeaaDoor
