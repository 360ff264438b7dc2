/- A Decode under way: a reader, the thing that is filled, the result's own memory. -/
import Derived.Test.YtjkilpjdgjijiaaDoorRd
namespace Go.Proofs.YtjkilpjdgjijiaaDoor
open Go.RowKit
set_option linter.unusedVariables false

/-- A Decode under way: the reader at g (R: what it is), the thing at gm, the result at gz. -/
structure DSt (T Q : TypeId) (R : World → Nat → PS → Prop) (w0 ws : World) (gz g gm : Nat) (zc mc : Array Value) (s : PS) : Prop where
  rd : R ws g s
  rb : ∃ xs, ws.heap[g]? = some (.cells xs Q (0, 0))
  hx : ws.heap[gm]? = some (.cells mc T (0, 0))
  hz : ws.heap[gz]? = some (.cells zc T (0, 0))
  bk : Below w0.heap.size w0 ws
  ge : w0.heap.size ≤ gm
  ne : gm ≠ gz
  tq : T ≠ Q
theorem DSt.box {T Q : TypeId} {R : World → Nat → PS → Prop} {w0 ws w1 : World} {gz g gm : Nat} {zc mc : Array Value} {s : PS} (h : DSt T Q R w0 ws gz g gm zc mc s) (hf : Fr (fun k => k = g) ws w1) : w1.heap[gm]? = some (.cells mc T (0, 0)) ∧ w1.heap[gz]? = some (.cells zc T (0, 0)) := by
  obtain ⟨xs, hb⟩ := h.rb
  refine ⟨hf.cells h.hx ?_, hf.cells h.hz ?_⟩
  · rintro rfl
    have := h.hx
    rw [hb] at this
    simp at this
    exact h.tq this.2.symm
  · rintro rfl
    have := h.hz
    rw [hb] at this
    simp at this
    exact h.tq this.2.symm
theorem cell_set' {w : World} {g i : Nat} {cs : Array Value} {t : TypeId} (h : w.heap[g]? = some (.cells cs t (0, 0))) (u : Value) :
    (w.setCell ⟨g, i, none⟩ u).heap[g]? = some (.cells (cs.setIfInBounds i u) t (0, 0)) := by
  simp [World.setCell, Array.getElem?_modify, h]
/-- A step: the reader takes, a cell of the thing is stored. -/
theorem DSt.step {T Q : TypeId} {R : World → Nat → PS → Prop} {w0 ws w1 : World} {gz g gm : Nat} {zc mc : Array Value} {s r : PS} (h : DSt T Q R w0 ws gz g gm zc mc s) (hr : R w1 g r) (hrb : ∃ xs, w1.heap[g]? = some (.cells xs Q (0, 0))) (hg : w0.heap.size ≤ g) (hf : Fr (fun k => k = g) ws w1)
    (hfar : ∀ {w w' : World} {g b : Nat} {s : PS} {cs : Array Value}, R w g s → w.heap[b]? = some (.cells cs T (0, 0)) → Fr (fun k => k = b) w w' → R w' g s) (i : Nat) (u : Value) :
    DSt T Q R w0 (w1.setCell ⟨gm, i, none⟩ u) gz g gm zc (mc.setIfInBounds i u) r := by
  obtain ⟨hx, hz⟩ := h.box hf
  have f : Fr (fun k => k = gm) w1 (w1.setCell ⟨gm, i, none⟩ u) := Fr.setCell (M := fun k => k = gm) (p := ⟨gm, i, none⟩) (Fr.refl _ _) (fun _ => rfl) _
  refine ⟨hfar hr hx f, ?_, cell_set' hx u, f.cells hz (fun e => h.ne e.symm), ?_, h.ge, h.ne, h.tq⟩
  · obtain ⟨xs, hb⟩ := hrb
    refine ⟨xs, f.cells hb ?_⟩
    rintro rfl
    rw [hb] at hx
    simp at hx
    exact h.tq hx.2.symm
  · exact (h.bk.trans (hf.below h.bk.size (fun k e => by rw [e]; exact hg))).setCell (p := ⟨gm, i, none⟩) h.ge u
/-- Bytes of the call's own are left by a step. -/
theorem DSt.row {T Q : TypeId} {R : World → Nat → PS → Prop} {w0 ws w1 : World} {gz g gm base n : Nat} {zc mc : Array Value} {s : PS} {v : Value} {xs : List Value} (h : DSt T Q R w0 ws gz g gm zc mc s) (hf : Fr (fun k => k = g) ws w1) (ho : ws.ownsRow base 5 1 v n xs) (h1 : 5 ≠ T) (h2 : 5 ≠ Q) (i : Nat) (u : Value) :
    (w1.setCell ⟨gm, i, none⟩ u).ownsRow base 5 1 v n xs := by
  obtain ⟨xs, hb⟩ := h.rb
  have ho1 := hf.owns ho (fun k hk e => owns_ne ho hb h2 (by rw [hk, e]))
  have hx := (h.box hf).1
  have f : Fr (fun k => k = gm) w1 (w1.setCell ⟨gm, i, none⟩ u) := Fr.setCell (M := fun k => k = gm) (p := ⟨gm, i, none⟩) (Fr.refl _ _) (fun _ => rfl) _
  exact f.owns ho1 (fun k hk e => owns_ne ho1 hx h1 (by rw [hk, e]))
/-- .. also those that it has just made. -/
theorem row_new {w1 : World} {gm base n : Nat} {T : TypeId} {mc : Array Value} {v : Value} {xs : List Value} (hx : w1.heap[gm]? = some (.cells mc T (0, 0))) (ho : w1.ownsRow base 5 1 v n xs) (h1 : 5 ≠ T) (i : Nat) (u : Value) : (w1.setCell ⟨gm, i, none⟩ u).ownsRow base 5 1 v n xs := by
  have f : Fr (fun k => k = gm) w1 (w1.setCell ⟨gm, i, none⟩ u) := Fr.setCell (M := fun k => k = gm) (p := ⟨gm, i, none⟩) (Fr.refl _ _) (fun _ => rfl) _
  exact f.owns ho (fun k hk e => owns_ne ho hx h1 (by rw [hk, e]))
theorem Rd.rb {w : World} {g : Nat} {s : PS} (h : Rd w g s) : ∃ xs, w.heap[g]? = some (.cells xs 99 (0, 0)) := by
  rcases h with ⟨_, h⟩ | ⟨l, A, c, _, h⟩
  · exact ⟨_, h⟩
  · exact ⟨_, h.blk⟩
theorem row_base {w : World} {b b' e size n : Nat} {v : Value} {xs : List Value} (h : w.ownsRow b e size v n xs) (hle : b' ≤ b) : w.ownsRow b' e size v n xs := by
  refine ⟨h.1, ?_⟩
  rcases h.2 with h0 | ⟨g', cap', cur, e1, e2, r⟩
  · exact .inl h0
  · exact .inr ⟨g', cap', cur, e1, Nat.le_trans hle e2, r⟩
/-- A byte as a number that may be below 0. -/
def i8of (x : Nat) : Int := if 127 < x then (x : Int) - 256 else (x : Int)
theorem i8_all : ∀ x : Nat, x < 256 → IntKind.i8.wrap (x : Int) = if 127 < x then (x : Int) - 256 else (x : Int) := by decide +kernel
theorem i8_conv (x : Nat) (h : x < 256) : wrap64 (IntKind.i8.wrap (x : Int)) = i8of x := by
  have e := i8_all x h
  rw [e]
  unfold i8of wrap64
  split <;> omega
theorem nat_conv (x : Nat) (h : x < 9223372036854775808) : wrap64 (x : Int) = (x : Int) := by unfold wrap64; omega
end Go.Proofs.YtjkilpjdgjijiaaDoor
