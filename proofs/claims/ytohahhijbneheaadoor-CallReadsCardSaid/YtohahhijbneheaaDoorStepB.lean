/- append of bytes, at a step of a region that draws its order. -/
import Derived.Test.YtohahhijbneheaaDoorAppB
import Derived.Deep.RegionLaw
namespace Go.Proofs.YtohahhijbneheaaDoor
open Go.RowKit
set_option linter.unusedVariables false

/-- append(v, x...) of bytes, at a step of a region that draws its order. -/
theorem step_append_b {ops : Array Oper} {o : Oper} {a : Act} {w : World} {K : Act → World → Prop} {Q : Exit → Act → World → Prop} {E : Prop} (hg : o.guard = none) (s x : Operand)
    (hop : o.op = .call { callee := .builtin .append, args := #[s, x], argTypes := #[39, 39] })
    (base : Nat) (v : Value) (n : Nat) (xs : List UInt8) (hs : a.eval s = v) (hown : w.ownsRow base 5 1 v n (bv xs))
    (A : Option Addr) (k c B : Nat) (l : List UInt8) (hx : a.eval x = .slice A k c) (hk : k = l.length) (hn : A = none → c = 0) (hsl : Sl w B A (bv l)) (hl : n + l.length ≤ 70368744177664) (hbase : base ≤ w.heap.size)
    (hK : ∀ v' w', w'.ownsRow base 5 1 v' (n + l.length) (bv (xs ++ l)) → Below base w w' → K (a.put o.dst v') w') : if Region.wanted o (yielded ops a.tmps) = true then Oper.wp Tryd.prog o a w K Q else E := by
  subst hk
  rw [if_pos (by simp [Region.wanted, hg])]
  obtain ⟨i0, hi, hz0, hz1, hz2⟩ := info_parts Tryd.info_u8
  cases A with
  | some ad =>
    refine wp_append_own w s x 39 hop base 5 i0 (.int .u8 0) 1 1 Tryd.underlying39 hi hz0 hz1 hz2 rfl (by decide) v n (bv xs) hs hown ad l.length c (bv l) hx (by rw [bv_len, Nat.mul_one]) hsl.news (bv_one l) (by unfold maxLen; omega) (by omega) hbase ?_
    intro v' w' h1 h2 _
    exact hK v' w' (by rw [bv_app]; exact h1) ((Below.refl _ _).grown h2 hbase (fun k hk => owns_ge hown k hk))
  | none =>
    obtain rfl := hn rfl
    have hl0 : l = [] := by
      rcases hsl with h | ⟨b, o, e, _⟩
      · simpa [bv] using h
      · cases e
    subst hl0
    have hr := run_append_owned_none (P := Tryd.prog) w base 39 o.type 5 i0 1 Tryd.underlying39 hi v n (bv xs) hown
    unfold Oper.wp execOp
    have hx' : a.eval x = .slice none 0 0 := hx
    simp only [hop, resolve, invoke, builtin, Sem.run_bind, Sem.run_pure, Result.andThen_ok, List.map_toArray, List.map_cons, List.map_nil, hs, hx', hr]
    exact hK v w (by simpa using hown) (Below.refl _ _)
end Go.Proofs.YtohahhijbneheaaDoor
