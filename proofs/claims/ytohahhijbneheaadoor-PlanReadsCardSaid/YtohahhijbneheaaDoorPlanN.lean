/- Plans that are made: the first, the next; rows of one's own side by side. -/
import Derived.Test.YtohahhijbneheaaDoorPlanC
import Derived.Test.YtohahhijbneheaaDoorPlanE
import Derived.Test.YtohahhijbneheaaDoorInts
import Derived.Deep.AppendLies
namespace Go.Proofs.YtohahhijbneheaaDoor
open Go.RowKit
set_option linter.unusedVariables false

/-- A first plan's chain j of c, of the units below n. -/
def unitsOf (c j n : Nat) : List Int := ((List.range n).filter (fun x => x % c == j)).map Int.ofNat
def firstP (u c : Nat) : List (List Int) := (List.range c).map (fun j => unitsOf c j u)
theorem unitsOf_step (c j n : Nat) : unitsOf c j (n + 1) = if n % c = j then unitsOf c j n ++ [(n : Int)] else unitsOf c j n := by
  unfold unitsOf
  rw [List.range_succ, List.filter_append, List.map_append]
  by_cases h : n % c = j
  · simp [h]
  · simp [h]
theorem unitsOf_len (c j n : Nat) : (unitsOf c j n).length ≤ n := by
  unfold unitsOf
  rw [List.length_map]
  exact Nat.le_trans (List.length_filter_le _ _) (by rw [List.length_range]; exact Nat.le_refl _)
/-- What stays of a chain. -/
def stayP (there c : List Int) : List Int := c.filter (fun x => decide (x ∈ there))
theorem keep_stay (there c : List Int) : keepI (fun x => !decide (x ∈ there)) c = stayP there c := by
  unfold keepI stayP
  simp

/-- Chains in memory, told by their lists. -/
structure Mem (w : World) (B : Nat) (A : Option Addr) (rs : List Ch) : Prop where
  sl : Sl w B A (rs.map Ch.val)
  ok : ∀ r ∈ rs, r.Ok w B
theorem Mem.below {w w' : World} {B : Nat} {A : Option Addr} {rs : List Ch} (h : Mem w B A rs) (hb : Below B w w') : Mem w' B A rs :=
  ⟨h.sl.below hb, fun r hr => ⟨(h.ok r hr).1.below hb, (h.ok r hr).2⟩⟩
theorem Mem.more {w : World} {B B' : Nat} {A : Option Addr} {rs : List Ch} (h : Mem w B A rs) (hB : B ≤ B') : Mem w B' A rs :=
  ⟨h.sl.more hB, fun r hr => ⟨(h.ok r hr).1.more hB, (h.ok r hr).2⟩⟩
/-- It lies in blocks from n0 on. -/
def Lo (n0 : Nat) (A : Option Addr) : Prop := ∀ a, A = some a → n0 ≤ a.block
abbrev LoAll (n0 : Nat) (A : Option Addr) (rs : List Ch) : Prop := Lo n0 A ∧ ∀ r ∈ rs, Lo n0 r.A
theorem Lo.of_own {w : World} {base : Nat} {e : TypeId} {size n c : Nat} {A : Option Addr} {xs : List Value} (h : w.ownsRow base e size (.slice A n c) n xs) : Lo base A := by
  intro a ha
  rcases h.2 with ⟨h0, _⟩ | ⟨g, cap, cur, h0, hb, _⟩
  · injection h0 with h0
    rw [h0] at ha; cases ha
  · injection h0 with h0
    rw [h0] at ha
    injection ha with ha
    rw [← ha]; exact hb
theorem Lo.mono {n0 n1 : Nat} {A : Option Addr} (h : Lo n0 A) (hn : n1 ≤ n0) : Lo n1 A := fun a ha => Nat.le_trans hn (h a ha)
theorem Sl.farLo {w : World} {B n0 : Nat} {A : Option Addr} {xs : List Value} (h : Sl w B A xs) (hl : Lo n0 A) {p : Addr} (hp : p.block < n0) (u : Value) : Sl (w.setCell p u) B A xs := by
  rcases h with h | ⟨b, o, rfl, hb, hr⟩
  · exact .inl h
  · have := hl _ rfl
    have h2 : n0 ≤ b := this
    exact .inr ⟨b, o, rfl, hb, hr.keep fun q hq => World.cell?_setCell_other w p q u (fun e => by subst e; omega)⟩
theorem Mem.far {w : World} {B n0 : Nat} {A : Option Addr} {rs : List Ch} (h : Mem w B A rs) (hl : LoAll n0 A rs) {p : Addr} (hp : p.block < n0) (u : Value) : Mem (w.setCell p u) B A rs :=
  ⟨h.sl.farLo hl.1 hp u, fun r hr => ⟨(h.ok r hr).1.farLo (hl.2 r hr) hp u, (h.ok r hr).2⟩⟩
/-- A plan in new memory: its epoch, its chains; the number of the error. -/
def NewPlan (n0 : Nat) (e : Int) (cs : List (List Int)) (k : Int) (en : Ending) (w' : World) : Prop :=
  ∃ A c rs, en = .returned (.tuple #[.agg #[.int .i64 e, .slice A rs.length c], .int .i64 k]) ∧ rs.map (·.l) = cs ∧ Mem w' w'.heap.size A rs ∧ LoAll n0 A rs
theorem NewPlan.nil (n0 : Nat) (k : Int) (w' : World) : NewPlan n0 0 [] k (.returned (.tuple #[.agg #[.int .i64 0, .slice none 0 0], .int .i64 k])) w' :=
  ⟨none, 0, [], rfl, rfl, ⟨.inl rfl, by simp⟩, ⟨fun a ha => (by cases ha), fun r hr => (by cases hr)⟩⟩

/-- Rows of one's own, side by side: the block R holds their slices. -/
structure OwnRows (W : World) (base R : Nat) (rs : List Ch) : Prop where
  blk : W.heap[R]? = some (.cells (rs.map Ch.val).toArray 25 (0, 0))
  own : ∀ j (h : j < rs.length), W.ownsRow base 3 1 rs[j].val rs[j].l.length (iv rs[j].l)
  apart : ∀ i j (hi : i < rs.length) (hj : j < rs.length), i ≠ j → ∀ g, rs[i].val.ownBlock = some g → rs[j].val.ownBlock ≠ some g

theorem own_lt {w : World} {base : Nat} {e : TypeId} {size n : Nat} {v : Value} {xs : List Value} (h : w.ownsRow base e size v n xs) {g : Nat} (hg : v.ownBlock = some g) : g < w.heap.size ∧ base ≤ g := by
  rcases h.2 with ⟨rfl, _⟩ | ⟨g', cap, cur, rfl, hb, hh, _⟩
  · simp [Value.ownBlock] at hg
  · have : g' = g := by simpa [Value.ownBlock] using hg
    subst this
    exact ⟨(Array.getElem?_eq_some_iff.1 hh).1, hb⟩

theorem OwnRows.step {W w2 : World} {base R j gg cap : Nat} {rs : List Ch} {x : Int} {o : Obj} (h : OwnRows W base R rs) (hj : j < rs.length)
    (hown : w2.ownsRow base 3 1 (.slice (some ⟨gg, 0, none⟩) (rs[j].l.length + 1) cap) (rs[j].l.length + 1) (iv rs[j].l ++ [.int .i64 x]))
    (hgrow : (W.alloc o).grownBy w2 rs[j].val.ownBlock) (hat : rs[j].val.ownBlock = some gg ∨ gg = W.heap.size + 1) :
    OwnRows (w2.setCell ⟨R, j, none⟩ (.slice (some ⟨gg, 0, none⟩) (rs[j].l.length + 1) cap)) base R (rs.set j ⟨some ⟨gg, 0, none⟩, cap, rs[j].l ++ [x]⟩) := by
  have hR : R < W.heap.size := (Array.getElem?_eq_some_iff.1 h.blk).1
  have hRj : some R ≠ rs[j].val.ownBlock := fun e => owns_ne (h.own j hj) h.blk (by decide) e.symm
  have hb2 : w2.heap[R]? = some (.cells (rs.map Ch.val).toArray 25 (0, 0)) :=
    (hgrow.block R (by simp; omega) hRj).trans ((Below.heap_alloc _ _ R hR).trans h.blk)
  have hval : (Ch.mk (some ⟨gg, 0, none⟩) cap (rs[j].l ++ [x])).val = .slice (some ⟨gg, 0, none⟩) (rs[j].l.length + 1) cap := by simp [Ch.val]
  have keep : ∀ i (hi : i < rs.length), i ≠ j → (w2.setCell ⟨R, j, none⟩ (.slice (some ⟨gg, 0, none⟩) (rs[j].l.length + 1) cap)).ownsRow base 3 1 rs[i].val rs[i].l.length (iv rs[i].l) := by
    intro i hi hne
    have f1 : Fr (fun k => rs[j].val.ownBlock = some k) W w2 := ((Fr.refl _ W).alloc o).grown hgrow (fun k hk _ => hk)
    have h2 := f1.owns (h.own i hi) (fun k hk hm => h.apart i j hi hj hne k hk hm)
    exact (fr_set w2 R j _).owns h2 (info_apart h2 hb2 (by decide))
  refine ⟨?_, ?_, ?_⟩
  · rw [blk_set hb2, List.map_set, hval]
    simp
  · intro i hi
    rw [List.length_set] at hi
    by_cases e : i = j
    · subst e
      rw [List.getElem_set_self]
      have e2 : (rs[i].l ++ [x]).length = rs[i].l.length + 1 := by simp
      show World.ownsRow _ _ _ _ (.slice (some ⟨gg, 0, none⟩) (rs[i].l ++ [x]).length cap) (rs[i].l ++ [x]).length (iv (rs[i].l ++ [x]))
      rw [e2]
      have e3 : iv (rs[i].l ++ [x]) = iv rs[i].l ++ [.int .i64 x] := by simp [iv]
      rw [e3]
      exact (fr_set w2 R i _).owns hown (info_apart hown hb2 (by decide))
    · rw [List.getElem_set_ne (fun h => e h.symm)]
      exact keep i hi e
  · intro i k hi hk hne g hg
    have hi' : i < rs.length := by simpa using hi
    have hk' : k < rs.length := by simpa using hk
    have old : ∀ i (hi : i < rs.length), i ≠ j → rs[i].val.ownBlock ≠ some gg := by
      intro i hi hne e
      rcases hat with h1 | h1
      · exact h.apart i j hi hj hne gg e h1
      · have := (own_lt (h.own i hi) e).1
        omega
    by_cases e : i = j
    · subst e
      rw [List.getElem_set_self] at hg
      rw [List.getElem_set_ne (fun h => hne h)]
      have : gg = g := by simpa [Value.ownBlock, Ch.val] using hg
      subst this
      exact old k hk' (fun h => hne h.symm)
    · rw [List.getElem_set_ne (fun h => e h.symm)] at hg
      by_cases e2 : k = j
      · subst e2
        rw [List.getElem_set_self]
        intro hh
        have : gg = g := by simpa [Value.ownBlock, Ch.val] using hh
        subst this
        exact old i hi' e hg
      · rw [List.getElem_set_ne (fun h => e2 h.symm)]
        exact h.apart i k hi' hk' hne g hg

theorem ok_of_own {W : World} {base : Nat} {r : Ch} (h : W.ownsRow base 3 1 r.val r.l.length (iv r.l)) : r.Ok W W.heap.size := by
  refine ⟨Sl.of_own h, ?_⟩
  rcases h.2 with ⟨e, h0⟩ | ⟨g, cap, cur, e, hb, hh, hn, hc, _⟩
  · have hx : Value.slice r.A r.l.length r.c = .slice none 0 0 := e
    injection hx with e1 e2 e3
    rw [e3, h0]
    exact ⟨Nat.le_refl _, Nat.zero_le _⟩
  · have hx : Value.slice r.A r.l.length r.c = .slice (some ⟨g, 0, none⟩) r.l.length cap := e
    injection hx with e1 e2 e3
    rw [e3]
    exact ⟨hn, hc⟩
theorem OwnRows.mem {W : World} {base R : Nat} {rs : List Ch} (h : OwnRows W base R rs) : Mem W W.heap.size (some ⟨R, 0, none⟩) rs := by
  refine ⟨.inr ⟨R, 0, rfl, (Array.getElem?_eq_some_iff.1 h.blk).1, fun k v hv => ?_⟩, fun r hr => ?_⟩
  · rw [Nat.zero_add, cell_of_row W R k _ _ (0, 0) h.blk]
    simpa using hv
  · obtain ⟨j, hj, rfl⟩ := List.getElem_of_mem hr
    exact ok_of_own (h.own j hj)
end Go.Proofs.YtohahhijbneheaaDoor
