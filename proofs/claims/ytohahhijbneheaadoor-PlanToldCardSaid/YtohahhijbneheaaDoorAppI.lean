/- append of what came in, nil or not, onto cells of one's own: as a step of a region that draws, and in the walk. -/
import Derived.Test.YtohahhijbneheaaDoorInts
import Derived.Test.YtohahhijbneheaaDoorAppB
import Derived.Deep.RegionLaw
namespace Go.Proofs.YtohahhijbneheaaDoor
open Go.RowKit
set_option linter.unusedVariables false

theorem Sl.newsV {w : World} {B : Nat} {ad : Addr} {l : List Value} (h : Sl w B (some ad) l) : ∀ j u, l[j]? = some u → w.cell? (ad.add j) = some u := by
  rcases h with h | ⟨b, o, e, -, hr⟩
  · intro j u hu; rw [h] at hu; simp at hu
  · injection e with e
    subst e
    intro j u hu
    have hadd : (⟨b, o, none⟩ : Addr).add j = ⟨b, o + j, none⟩ := by unfold Addr.add; split <;> simp_all
    rw [hadd]
    exact hr j u hu

/-- append(v, x...) of cells that came in, nil or not: at the operation. -/
theorem wp_append_any {o : Oper} {a : Act} {w : World} {K : Act → World → Prop} {Q : Exit → Act → World → Prop} (s x : Operand) (t : TypeId)
    (hop : o.op = .call { callee := .builtin .append, args := #[s, x], argTypes := #[t, t] })
    (base : Nat) (e : TypeId) (z : Value) (bytes : Nat) (ht : Tryd.prog.underlying t = some (.slice e)) (hinf : (Tryd.prog.info? e).map (fun i => (i.zero, i.size, i.bytes)) = some (some z, 1, bytes)) (hzs : z.cells.size = 1)
    (v : Value) (n : Nat) (xs : List Value) (hs : a.eval s = v) (hown : w.ownsRow base e 1 v n xs)
    (A : Option Addr) (c B : Nat) (l : List Value) (hx : a.eval x = .slice A l.length c) (hn : A = none → c = 0) (hsl : Sl w B A l) (h1 : ∀ u ∈ l, u.oneCell' = true) (hl : n + l.length ≤ maxLen) (hb : (n + l.length) * bytes ≤ 140737488355328) (hbase : base ≤ w.heap.size)
    (hK : ∀ v' w', w'.ownsRow base e 1 v' (n + l.length) (xs ++ l) → Below base w w' → (∀ b, b < w.heap.size → some b ≠ v.ownBlock → w'.heap[b]? = w.heap[b]?) → K (a.put o.dst v') w') : o.wp Tryd.prog a w K Q := by
  obtain ⟨i0, hi, hz0, hz1, hz2⟩ := info_parts hinf
  cases A with
  | some ad =>
    refine wp_append_own w s x t hop base e i0 z 1 bytes ht hi hz0 hz1 hz2 hzs (by decide) v n xs hs hown ad l.length c l hx (by rw [Nat.mul_one]) hsl.newsV h1 hl hb hbase ?_
    intro v' w' h1 h2 _
    exact hK v' w' h1 ((Below.refl _ _).grown h2 hbase (fun k hk => owns_ge hown k hk)) (fun b hb hne => h2.block b hb hne)
  | none =>
    obtain rfl := hn rfl
    have hl0 : l = [] := by
      rcases hsl with h | ⟨b, o, e, _⟩
      · exact h
      · cases e
    subst hl0
    have hr := run_append_owned_none (P := Tryd.prog) w base t o.type e i0 1 ht hi v n xs hown
    unfold Oper.wp execOp
    have hx' : a.eval x = .slice none 0 0 := hx
    simp only [hop, resolve, invoke, builtin, Sem.run_bind, Sem.run_pure, Result.andThen_ok, List.map_toArray, List.map_cons, List.map_nil, hs, hx', hr]
    exact hK v w (by simpa using hown) (Below.refl _ _) (fun _ _ _ => rfl)
theorem step_append_any {ops : Array Oper} {o : Oper} {a : Act} {w : World} {K : Act → World → Prop} {Q : Exit → Act → World → Prop} {E : Prop} (hgd : o.guard = none) (s x : Operand) (t : TypeId)
    (hop : o.op = .call { callee := .builtin .append, args := #[s, x], argTypes := #[t, t] })
    (base : Nat) (e : TypeId) (z : Value) (bytes : Nat) (ht : Tryd.prog.underlying t = some (.slice e)) (hinf : (Tryd.prog.info? e).map (fun i => (i.zero, i.size, i.bytes)) = some (some z, 1, bytes)) (hzs : z.cells.size = 1)
    (v : Value) (n : Nat) (xs : List Value) (hs : a.eval s = v) (hown : w.ownsRow base e 1 v n xs)
    (A : Option Addr) (c B : Nat) (l : List Value) (hx : a.eval x = .slice A l.length c) (hn : A = none → c = 0) (hsl : Sl w B A l) (h1 : ∀ u ∈ l, u.oneCell' = true) (hl : n + l.length ≤ maxLen) (hb : (n + l.length) * bytes ≤ 140737488355328) (hbase : base ≤ w.heap.size)
    (hK : ∀ v' w', w'.ownsRow base e 1 v' (n + l.length) (xs ++ l) → Below base w w' → (∀ b, b < w.heap.size → some b ≠ v.ownBlock → w'.heap[b]? = w.heap[b]?) → K (a.put o.dst v') w') :
    if Region.wanted o (yielded ops a.tmps) = true then Oper.wp Tryd.prog o a w K Q else E := by
  have hw : Region.wanted o (yielded ops a.tmps) = true := by simp [Region.wanted, hgd]
  rw [if_pos hw]
  exact wp_append_any s x t hop base e z bytes ht hinf hzs v n xs hs hown A c B l hx hn hsl h1 hl hb hbase hK
end Go.Proofs.YtohahhijbneheaaDoor
