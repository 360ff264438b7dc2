/- PlanAll: what the loops hold. -/
import Derived.Test.YtplhaghkhedliaaPallP
import Derived.Test.YtplhaghkhedliaaPlanX
import Derived.Test.YtplhaghkhedliaaSeen
namespace Go.Proofs.Ytplhaghkhedliaa
open Go.RowKit
set_option linter.unusedVariables false

/-- The plan, the map of those seen, the row of all so far. -/
structure AllS (W2 : World) (pb mb : Nat) (s : Value) (S : List Int) (v : Value) (W : World) : Prop where
  p : Obj1 W pb 25 #[.int .i64 0, s]
  seen : Seen W mb S
  row : W.ownsRow W2.heap.size 3 1 v S.length (iv S)
  bel : Below W2.heap.size W2 W
  pbw : W2.heap.size ≤ pb
  mbw : W2.heap.size ≤ mb

theorem AllS.grow {W2 : World} {pb mb : Nat} {s : Value} {S : List Int} {v : Value} {W W' : World} (h : AllS W2 pb mb s S v W) (hb : Below W.heap.size W W') : AllS W2 pb mb s S v W' :=
  ⟨h.p.below hb h.p.lt, h.seen.below hb h.seen.lt, owns_below h.row hb, h.bel.trans (hb.mono h.bel.size), h.pbw, h.mbw⟩
theorem AllS.apart {W2 : World} {pb mb : Nat} {s : Value} {S : List Int} {v : Value} {W : World} (h : AllS W2 pb mb s S v W) {n : Nat} {u : Value} {e : TypeId} {base size : Nat} {xs : List Value} (ho : W.ownsRow base e size u n xs) : some mb ≠ u.ownBlock := by
  intro e'
  obtain ⟨es, c, h1⟩ := h.seen.obj
  rcases ho.2 with ⟨rfl, _⟩ | ⟨g, cap, cur, rfl, _, hh, _⟩
  · simp [Value.ownBlock] at e'
  · have : mb = g := by simpa [Value.ownBlock] using e'
    subst this
    rw [hh] at h1; cases h1
/-- The number is put into the map. -/
theorem AllS.put {W2 : World} {pb mb : Nat} {s : Value} {S : List Int} {v : Value} {W W1 : World} {x : Int} (h : AllS W2 pb mb s S v W) (hs : Seen W1 mb (S ++ [x])) (hg : W.grownBy W1 (some mb)) :
    Obj1 W1 pb 25 #[.int .i64 0, s] ∧ W1.ownsRow W2.heap.size 3 1 v S.length (iv S) ∧ Below W2.heap.size W2 W1 := by
  obtain ⟨es, c, h1⟩ := h.seen.obj
  refine ⟨h.p.grown hg (fun e => ?_), h.row.kept hg (.inr (fun e => h.apart h.row e.symm)), h.bel.trans ((Below.refl _ W).grown hg h.bel.size (fun q e => by cases e; exact h.mbw))⟩
  injection e with e
  subst e
  have := h.p
  unfold Obj1 at this
  rw [h1] at this
  cases this
/-- .. and set behind the row. -/
theorem AllS.next {W2 : World} {pb mb : Nat} {s : Value} {S : List Int} {v v' : Value} {W W1 w2 : World} {x : Int} {o : Obj} (h : AllS W2 pb mb s S v W) (hs : Seen W1 mb (S ++ [x])) (hg : W.grownBy W1 (some mb))
    (hown : w2.ownsRow W2.heap.size 3 1 v' (S.length + 1) (iv S ++ [.int .i64 x])) (hgrow : (W1.alloc o).grownBy w2 v.ownBlock) : AllS W2 pb mb s (S ++ [x]) v' w2 := by
  obtain ⟨p1, r1, b1⟩ := h.put hs hg
  have hlt := hs.lt
  have hmb : some mb ≠ v.ownBlock := h.apart h.row
  refine ⟨(p1.alloc o).grown hgrow (p1.ne (e := 3) r1 (by decide)), ?_, ?_, ?_, h.pbw, h.mbw⟩
  · have h2 : Seen (W1.alloc o) mb (S ++ [x]) := hs.below ((Below.refl _ _).alloc (Nat.le_refl _) o) hlt
    exact h2.kept hgrow hmb
  · have e1 : (S ++ [x]).length = S.length + 1 := by simp
    have e2 : iv (S ++ [x]) = iv S ++ [.int .i64 x] := by simp [iv]
    rw [e1, e2]
    exact hown
  · exact b1.trans (((Below.refl _ W1).alloc b1.size o).grown hgrow (by have := b1.size; simp; omega) (fun q e => (own_lt h.row e).2))
/-- Another row of one's own, over a round. -/
theorem AllS.other {W2 : World} {pb mb : Nat} {s : Value} {S : List Int} {v v' u : Value} {W W1 w2 : World} {o : Obj} {n : Nat} {xs : List Value} (h : AllS W2 pb mb s S v W) (hg : W.grownBy W1 (some mb)) (hgrow : (W1.alloc o).grownBy w2 v.ownBlock)
    (hat : v'.ownBlock = v.ownBlock ∨ v'.ownBlock = some (W1.alloc o).heap.size) (ho : W.ownsRow W2.heap.size 3 1 u n xs) (hap : ∀ k, v.ownBlock = some k → u.ownBlock ≠ some k) :
    w2.ownsRow W2.heap.size 3 1 u n xs ∧ ∀ k, v'.ownBlock = some k → u.ownBlock ≠ some k := by
  have o1 : W1.ownsRow W2.heap.size 3 1 u n xs := ho.kept hg (.inr (fun e => h.apart ho e.symm))
  refine ⟨(o1.alloc o).kept hgrow ?_, fun k hk hu => ?_⟩
  · rcases hv : v.ownBlock with _ | k
    · rcases hu : u.ownBlock with _ | k
      · exact .inl rfl
      · exact .inr (by simp)
    · exact .inr (fun e => hap k hv e)
  · rcases hat with hat | hat
    · exact hap k (hat ▸ hk) hu
    · rw [hat] at hk
      injection hk with hk
      have := (own_lt o1 hu).1
      simp at hk
      omega
end Go.Proofs.Ytplhaghkhedliaa
