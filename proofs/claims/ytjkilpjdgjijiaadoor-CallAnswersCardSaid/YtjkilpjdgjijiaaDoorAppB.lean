/- append of bytes that came in onto bytes that the call has made. -/
import Derived.Test.YtjkilpjdgjijiaaDoorFrame
import Derived.Test.YtjkilpjdgjijiaaDoorClone
import Derived.Laws.OwnMore
namespace Go.Proofs.YtjkilpjdgjijiaaDoor
open Go.RowKit
set_option linter.unusedVariables false

theorem owns_ge {w : World} {v : Value} {base e size n : Nat} {xs : List Value} (h : w.ownsRow base e size v n xs) : ∀ k, v.ownBlock = some k → base ≤ k := by
  intro k hk
  rcases h.2 with ⟨rfl, _⟩ | ⟨g', cap, cur, rfl, hb, _⟩
  · simp [Value.ownBlock] at hk
  · simp [Value.ownBlock] at hk; omega

/-- append(v, x...) of bytes that came in, nil or not, onto bytes that the call has made. -/
theorem wpList_append_bytes {ops : Array Oper} {rest : List Oper} {o : Oper} {a : Act} {w : World} {Q : Exit → Act → World → Prop} (hg : o.guard = none) (s x : Operand)
    (hop : o.op = .call { callee := .builtin .append, args := #[s, x], argTypes := #[22, 22] })
    (base : Nat) (v : Value) (n : Nat) (xs : List UInt8) (hs : a.eval s = v) (hown : w.ownsRow base 5 1 v n (bv xs))
    (A : Option Addr) (c B : Nat) (l : List UInt8) (hx : a.eval x = .slice A l.length c) (hn : A = none → c = 0) (hsl : Sl w B A (bv l)) (hl : n + l.length ≤ 70368744177664) (hbase : base ≤ w.heap.size)
    (hK : ∀ v' w', w'.ownsRow base 5 1 v' (n + l.length) (bv (xs ++ l)) → Below base w w' → wpList Tryd.prog ops Q rest (a.put o.dst v') w') : wpList Tryd.prog ops Q (o :: rest) a w := by
  obtain ⟨i0, hi, hz0, hz1, hz2⟩ := info_parts Tryd.info_u8
  cases A with
  | some ad =>
    refine wpList_append_own w hg s x 22 hop base 5 i0 (.int .u8 0) 1 1 Tryd.underlying22 hi hz0 hz1 hz2 rfl (by decide) v n (bv xs) hs hown ad l.length c (bv l) hx (by rw [bv_len, Nat.mul_one]) hsl.news (bv_one l) (by unfold maxLen; omega) (by omega) hbase ?_
    intro v' w' h1 h2 _
    refine hK v' w' (by rw [bv_app]; exact h1) ?_
    exact (Below.refl _ _).grown h2 hbase (fun k hk => owns_ge hown k hk)
  | none =>
    obtain rfl := hn rfl
    have hl0 : l = [] := by
      rcases hsl with h | ⟨b, o, e, _⟩
      · simpa [bv] using h
      · cases e
    subst hl0
    refine wpList_plain hg fun K hK' => ?_
    have hr := run_append_owned_none (P := Tryd.prog) w base 22 o.type 5 i0 1 Tryd.underlying22 hi v n (bv xs) hown
    unfold Oper.wp execOp
    have hx' : a.eval x = .slice none 0 0 := hx
    simp only [hop, resolve, invoke, builtin, Sem.run_bind, Sem.run_pure, Result.andThen_ok, List.map_toArray, List.map_cons, List.map_nil, hs, hx', hr]
    exact hK' _ _ (hK v w (by simpa using hown) (Below.refl _ _))

/-- The same, and what it turns: append(v, x...) of bytes that came in, nil or not, onto bytes that the call has made. -/
theorem wpList_append_bytesG {ops : Array Oper} {rest : List Oper} {o : Oper} {a : Act} {w : World} {Q : Exit → Act → World → Prop} (hg : o.guard = none) (s x : Operand)
    (hop : o.op = .call { callee := .builtin .append, args := #[s, x], argTypes := #[22, 22] })
    (base : Nat) (v : Value) (n : Nat) (xs : List UInt8) (hs : a.eval s = v) (hown : w.ownsRow base 5 1 v n (bv xs))
    (A : Option Addr) (c B : Nat) (l : List UInt8) (hx : a.eval x = .slice A l.length c) (hn : A = none → c = 0) (hsl : Sl w B A (bv l)) (hl : n + l.length ≤ 70368744177664) (hbase : base ≤ w.heap.size)
    (hK : ∀ v' w', w'.ownsRow base 5 1 v' (n + l.length) (bv (xs ++ l)) → w.grownBy w' v.ownBlock → wpList Tryd.prog ops Q rest (a.put o.dst v') w') : wpList Tryd.prog ops Q (o :: rest) a w := by
  obtain ⟨i0, hi, hz0, hz1, hz2⟩ := info_parts Tryd.info_u8
  cases A with
  | some ad =>
    refine wpList_append_own w hg s x 22 hop base 5 i0 (.int .u8 0) 1 1 Tryd.underlying22 hi hz0 hz1 hz2 rfl (by decide) v n (bv xs) hs hown ad l.length c (bv l) hx (by rw [bv_len, Nat.mul_one]) hsl.news (bv_one l) (by unfold maxLen; omega) (by omega) hbase ?_
    intro v' w' h1 h2 _
    exact hK v' w' (by rw [bv_app]; exact h1) h2
  | none =>
    obtain rfl := hn rfl
    have hl0 : l = [] := by
      rcases hsl with h | ⟨b, o, e, _⟩
      · simpa [bv] using h
      · cases e
    subst hl0
    refine wpList_plain hg fun K hK' => ?_
    have hr := run_append_owned_none (P := Tryd.prog) w base 22 o.type 5 i0 1 Tryd.underlying22 hi v n (bv xs) hown
    unfold Oper.wp execOp
    have hx' : a.eval x = .slice none 0 0 := hx
    simp only [hop, resolve, invoke, builtin, Sem.run_bind, Sem.run_pure, Result.andThen_ok, List.map_toArray, List.map_cons, List.map_nil, hs, hx', hr]
    exact hK' _ _ (hK v w (by simpa using hown) ⟨rfl, rfl, rfl, Nat.le_refl _, fun _ _ _ => rfl⟩)

end Go.Proofs.YtjkilpjdgjijiaaDoor
