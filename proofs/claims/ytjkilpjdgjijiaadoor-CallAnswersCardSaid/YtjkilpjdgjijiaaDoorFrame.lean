/- A frame: which old blocks may have turned. -/
import Derived.Test.YtjkilpjdgjijiaaDoorBase
namespace Go.Proofs.YtjkilpjdgjijiaaDoor
open Go.RowKit
set_option linter.unusedVariables false

/-- Of the blocks that were there only those of M may have turned. -/
structure Fr (M : Nat → Prop) (w w' : World) : Prop where
  os : w'.os = w.os
  tape : w'.tape = w.tape
  output : w'.output = w.output
  size : w.heap.size ≤ w'.heap.size
  block : ∀ k, k < w.heap.size → ¬ M k → w'.heap[k]? = w.heap[k]?

section
variable {M M' : Nat → Prop} {a w w' : World}
theorem Fr.refl (M : Nat → Prop) (w : World) : Fr M w w := ⟨rfl, rfl, rfl, Nat.le_refl _, fun _ _ _ => rfl⟩
theorem Fr.mono (h : Fr M w w') (hm : ∀ k, k < w.heap.size → M k → M' k) : Fr M' w w' := ⟨h.os, h.tape, h.output, h.size, fun k hk hn => h.block k hk (fun x => hn (hm k hk x))⟩
theorem Fr.trans (h : Fr M a w) (k : Fr M' w w') (hm : ∀ i, i < a.heap.size → M' i → M i) : Fr M a w' :=
  ⟨k.os.trans h.os, k.tape.trans h.tape, k.output.trans h.output, Nat.le_trans h.size k.size,
   fun i hi hn => (k.block i (Nat.lt_of_lt_of_le hi h.size) (fun x => hn (hm i hi x))).trans (h.block i hi hn)⟩
theorem Fr.of_below (h : Below w.heap.size w w') : Fr M w w' := ⟨h.os, h.tape, h.output, h.size, fun k hk _ => h.block k hk⟩
theorem Fr.below {B : Nat} (h : Fr M w w') (hB : B ≤ w.heap.size) (hm : ∀ k, M k → B ≤ k) : Below B w w' :=
  ⟨h.os, h.tape, h.output, h.size, fun k hk => h.block k (by omega) (fun x => by have := hm k x; omega)⟩
theorem Fr.thenBelow (h : Fr M a w) (k : Below w.heap.size w w') : Fr M a w' := h.trans (M' := fun _ => False) (Fr.of_below k) (fun _ _ x => x.elim)
theorem Fr.alloc (h : Fr M a w) (o : Obj) : Fr M a (w.alloc o) := h.thenBelow ((Below.refl _ _).alloc (Nat.le_refl _) o)
theorem Fr.drew (h : Fr M a w) : Fr M a w.drew := ⟨h.os, h.tape, h.output, h.size, h.block⟩
theorem Fr.drewN (h : Fr M a w) (n : Nat) : Fr M a (w.drewN n) := ⟨h.os, h.tape, h.output, h.size, h.block⟩
theorem Fr.setCell (h : Fr M a w) {p : Addr} (hp : p.block < a.heap.size → M p.block) (u : Value) : Fr M a (w.setCell p u) :=
  h.trans (M' := fun k => k = p.block) ⟨rfl, rfl, rfl, by simp [World.setCell], fun k _ hk => Below.heap_setCell w p u k hk⟩ (fun i hi e => by subst e; exact hp hi)
theorem Fr.grown (h : Fr M a w) {row : Option Nat} (hg : w.grownBy w' row) (hr : ∀ k, row = some k → k < a.heap.size → M k) : Fr M a w' :=
  h.trans (M' := fun k => some k = row) ⟨hg.os, hg.tape, hg.output, hg.size, fun k hk hne => hg.block k hk hne⟩ (fun i hi e => hr i e.symm hi)

/-- An owned row stays while its block is none of M. -/
theorem Fr.owns {base : Nat} {e : TypeId} {size n : Nat} {v : Value} {xs : List Value} (h : Fr M w w') (ho : w.ownsRow base e size v n xs) (hm : ∀ k, v.ownBlock = some k → ¬ M k) : w'.ownsRow base e size v n xs := by
  refine ⟨ho.1, ?_⟩
  rcases ho.2 with hn | ⟨g, cap, cur, rfl, hb, hgg, rest⟩
  · exact .inl hn
  · refine .inr ⟨g, cap, cur, rfl, hb, ?_, rest⟩
    rw [h.block g (Array.getElem?_eq_some_iff.1 hgg).1 (hm g rfl)]
    exact hgg
/-- A row of one element type never lies in a block of another. -/
theorem owns_ne {base : Nat} {e t : TypeId} {size n g : Nat} {v : Value} {xs : List Value} {cs : Array Value} {fr : Nat × Nat} (ho : w.ownsRow base e size v n xs) (hg : w.heap[g]? = some (.cells cs t fr)) (hne : e ≠ t) :
    v.ownBlock ≠ some g := by
  rcases ho.2 with ⟨rfl, _⟩ | ⟨g', cap, cur, rfl, _, hh, _⟩
  · simp [Value.ownBlock]
  · intro he
    have : g' = g := by simpa [Value.ownBlock] using he
    subst this
    rw [hh] at hg
    injection hg with hg
    injection hg with _ ht
    exact hne ht
/-- Two rows of unlike element types lie in two blocks. -/
theorem owns_apart {base base' : Nat} {e t : TypeId} {size size' n n' : Nat} {v v' : Value} {xs xs' : List Value} (ho : w.ownsRow base e size v n xs) (ho' : w.ownsRow base' t size' v' n' xs') (hne : e ≠ t) :
    ∀ k, v.ownBlock = some k → v'.ownBlock ≠ some k := by
  intro k hk
  rcases ho.2 with ⟨rfl, _⟩ | ⟨g', cap, cur, rfl, _, hh, _⟩
  · simp [Value.ownBlock] at hk
  · have : g' = k := by simpa [Value.ownBlock] using hk
    subst this
    exact owns_ne ho' hh (Ne.symm hne)
theorem Fr.cells {g : Nat} {o : Obj} (h : Fr M w w') (hg : w.heap[g]? = some o) (hm : ¬ M g) : w'.heap[g]? = some o :=
  (h.block g (Array.getElem?_eq_some_iff.1 hg).1 hm).trans hg
end

/-- An owned row of bytes reads as a slice. -/
theorem Sl.of_own {w : World} {base : Nat} {e : TypeId} {n : Nat} {A : Option Addr} {c : Nat} {xs : List Value} (h : w.ownsRow base e 1 (.slice A n c) n xs) : Sl w w.heap.size A xs := by
  rcases h.2 with ⟨e', h0⟩ | ⟨g, cap, cur, e', hb, hh, hn, hc, hsz, ht⟩
  · have : xs = [] := List.eq_nil_of_length_eq_zero (by rw [h.1, h0])
    exact .inl this
  · injection e' with e1 e2 e3
    refine .inr ⟨g, 0, e1, (Array.getElem?_eq_some_iff.1 hh).1, fun k v hv => ?_⟩
    rw [← ht, List.getElem?_take] at hv
    rw [Nat.zero_add, cell_of_row w g k cur e (0, 0) hh]
    split at hv
    · simpa using hv
    · cases hv
end Go.Proofs.YtjkilpjdgjijiaaDoor
