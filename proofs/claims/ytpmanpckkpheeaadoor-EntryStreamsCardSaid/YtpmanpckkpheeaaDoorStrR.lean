/- EntryStreams: the first loop's operations. -/
import Derived.Test.YtpmanpckkpheeaaDoorStrQ
import Derived.Deep.AppendLies
import Derived.RangeFuncNested
namespace Go.Proofs.YtpmanpckkpheeaaDoor
open Go.RowKit Go.Shelf
set_option linter.unusedVariables false

theorem info_log : (Tryd.prog.info? 45).map (fun i => (i.zero, i.size, i.bytes)) = some (some (.agg #[.int .i64 0, .int .i64 0, .int .i64 0, .int .i64 0, .int .i64 0, .int .i64 0, .slice none 0 0]), 7, 72) := by kernel_rfl
theorem info_int : (Tryd.prog.info? 3).map (fun i => (i.zero, i.size, i.bytes)) = some (some (.int .i64 0), 1, 8) := by kernel_rfl
theorem zero_int (w : World) : (zeroValue 3).run Tryd.prog w = .ok (.int .i64 0) w := by kernel_rfl
theorem wf_small {z : Int} (h0 : -1 ≤ z) (h1 : z < 2 ^ 62) : (Lit.int .i64 z).wf = true := by
  simp only [Lit.wf, IntKind.min, IntKind.max, IntKind.signed, IntKind.bits, Bool.and_eq_true, decide_eq_true_eq, if_true]
  omega

section
variable {F : Fence} {nF : Nat} (w : World) {ops : Array Oper} {rest : List Oper} {o : Oper} {a : Act} {Q : Exit → Act → World → Prop}
/-- A look-up of which it is known what is there. -/
theorem lookup_is (hg : o.guard = none) (m x : Operand) (hop : o.op = Op.lookup 54 m x true) (b n : Nat) (D : DataW Unit)
    (hm : a.eval m = .map (some b)) (hown : w.ownsMap Tryd.prog 3 (plainElem Tryd.prog 3) b n D) (s c0 : Int) (bb : Bool) (hx : a.eval x = .int .i64 s) (hw : (Lit.int .i64 s).wf = true)
    (hc : D.atKey (.int .i64 s) (.lit (.int .i64 0)) = .lit (.int .i64 c0)) (hb : Maps.has D (.int .i64 s) = bb)
    (hK : wpListIn F nF Tryd.prog ops Q rest (a.put o.dst (.tuple #[.int .i64 c0, .bool bb])) w) :
    wpListIn F nF Tryd.prog ops Q (o :: rest) a w := by
  refine wpListIn_lookup_own_ok_int w hg m x 54 hop 3 3 .i64 (Maps.int_keyed Tryd.underlying3) Tryd.underlying54 Tryd.underlying3 (zero_int w) b n D hm hown _ _ hx (Maps.keyOf_int_mk Tryd.underlying3 hw) ?_
  intro c hat _
  rw [hc] at hat
  injection hat with e
  injection e with _ e
  subst e
  rw [hb]
  exact hK
theorem update_is (hg : o.guard = none) (m x v : Operand) (hop : o.op = Op.mapUpdate 54 m x v) (b n : Nat) (D : DataW Unit)
    (hm : a.eval m = .map (some b)) (hown : w.ownsMap Tryd.prog 3 (plainElem Tryd.prog 3) b n D) (hn : n < maxLen) (s u : Int) (hx : a.eval x = .int .i64 s) (hv : a.eval v = .int .i64 u) (hw : (Lit.int .i64 s).wf = true) (hwu : (Lit.int .i64 u).wf = true)
    (hK : ∀ w', w'.ownsMap Tryd.prog 3 (plainElem Tryd.prog 3) b (n + 1) (D.put (.int .i64 s) (.lit (.int .i64 u))) → w.grownBy w' (some b) → wpListIn F nF Tryd.prog ops Q rest (a.put o.dst undef) w') :
    wpListIn F nF Tryd.prog ops Q (o :: rest) a w :=
  wpListIn_mapUpdate_own w hg m x v 54 hop 3 3 (Maps.int_keyed Tryd.underlying3) Tryd.underlying54 (plainElem Tryd.prog 3) b n D hm hown hn _ _ _ hx hv (Maps.keyOf_int_mk Tryd.underlying3 hw) _ [] (plainElem_int Tryd.underlying3 hwu) hK
/-- One more entry, laid ready in a block of its own. -/
theorem append_log (hg : o.guard = none) (s x : Operand) (hop : o.op = Op.call { callee := Callee.builtin Builtin.append, args := #[s, x], argTypes := #[53, 53] })
    (base k g c : Nat) (xs : List Value) (hs : a.eval s = .slice (some ⟨g, 0, none⟩) k c) (hown : w.ownsRow base 45 7 (.slice (some ⟨g, 0, none⟩) k c) k xs) (e : Ent) (q : Nat) (hx : a.eval x = .slice (some ⟨q, 0, none⟩) 1 1)
    (hq : w.heap[q]? = some (.cells (entCells e).toArray 45 (0, 0))) (hk : k ≤ 200) (hb : base ≤ w.heap.size)
    (hK : ∀ g' c' w', w'.ownsRow base 45 7 (.slice (some ⟨g', 0, none⟩) (k + 1) c') (k + 1) (xs ++ entCells e) → w.grownBy w' (some g) → wpListIn F nF Tryd.prog ops Q rest (a.put o.dst (.slice (some ⟨g', 0, none⟩) (k + 1) c')) w') :
    wpListIn F nF Tryd.prog ops Q (o :: rest) a w := by
  obtain ⟨i0, hi, hz0, hz1, hz2⟩ := info_parts info_log
  refine wpListIn_append_own w hg s x 53 hop base 45 i0 _ 7 72 Tryd.underlying53 hi hz0 hz1 hz2 rfl (by decide) _ k xs hs hown ⟨q, 0, none⟩ 1 1 (entCells e) hx rfl (World.news_of_block (cs := (entCells e).toArray) hq) (by simp [entCells, Value.oneCell']) (by unfold maxLen; omega) (by omega) hb ?_
  intro v' w' h1 h2 _
  obtain ⟨g', c', rfl⟩ := ownsRow_succ h1
  exact hK g' c' w' h1 h2
/-- The wanted places behind a new one. -/
theorem append_want (hg : o.guard = none) (s x : Operand) (hop : o.op = Op.call { callee := Callee.builtin Builtin.append, args := #[s, x], argTypes := #[25, 25] })
    (base q m g c : Nat) (z : Int) (l : List Int) (hs : a.eval s = .slice (some ⟨q, 0, none⟩) 1 1) (hq : w.heap[q]? = some (.cells #[.int .i64 z] 3 (0, 0))) (hx : a.eval x = .slice (some ⟨g, 0, none⟩) m c)
    (hrow : w.ownsRow base 3 1 (.slice (some ⟨g, 0, none⟩) m c) m (iv l)) (hl : l.length = m) (hm : m ≤ 200) (hb : base ≤ q) (hqs : q ≤ w.heap.size)
    (hK : ∀ g' c' w', w'.ownsRow base 3 1 (.slice (some ⟨g', 0, none⟩) (m + 1) c') (m + 1) (.int .i64 z :: iv l) → w.grownBy w' (some q) → wpListIn F nF Tryd.prog ops Q rest (a.put o.dst (.slice (some ⟨g', 0, none⟩) (m + 1) c')) w') :
    wpListIn F nF Tryd.prog ops Q (o :: rest) a w := by
  obtain ⟨i0, hi, hz0, hz1, hz2⟩ := info_parts info_int
  have hown : w.ownsRow base 3 1 (.slice (some ⟨q, 0, none⟩) 1 1) 1 [.int .i64 z] := ⟨rfl, .inr ⟨q, 1, #[.int .i64 z], rfl, hb, hq, Nat.le_refl _, by decide, rfl, rfl⟩⟩
  refine wpListIn_append_own w hg s x 25 hop base 3 i0 _ 1 8 Tryd.underlying25 hi hz0 hz1 hz2 rfl (by decide) _ 1 [.int .i64 z] hs hown ⟨g, 0, none⟩ m c (iv l) hx (by show (l.map _).length = _; rw [List.length_map, hl]; omega) (hrow.cells (g := g) rfl) (by simp [iv, Value.oneCell']) (by unfold maxLen; omega) (by omega) (by omega) ?_
  intro v' w' h1 h2 _
  rw [Nat.add_comm 1 m] at h1
  obtain ⟨g', c', rfl⟩ := ownsRow_succ h1
  exact hK g' c' w' h1 h2
end

/-- What the map has of a stream. -/
theorem StS.look {W0 : World} {ss : List Int} {sw : Int} {k : Nat} {W : World} {gl cl gw cw : Nat} {D : DataW Unit} (h : StS W0 ss sw k W gl cl gw cw D) (s : Int) (h0 : 0 ≤ s) (h7 : s ≤ 7) :
    (0 ≤ lastOf ss s k ∧ Maps.has D (.int .i64 s) = true ∧ D.atKey (.int .i64 s) (.lit (.int .i64 0)) = .lit (.int .i64 (lastOf ss s k))) ∨
    (lastOf ss s k = -1 ∧ Maps.has D (.int .i64 s) = false ∧ D.atKey (.int .i64 s) (.lit (.int .i64 0)) = .lit (.int .i64 0)) := by
  obtain ⟨h1, h2⟩ := h.md s h0 h7
  have hr := lastOf_range ss s k
  by_cases hl : 0 ≤ lastOf ss s k
  · exact .inl ⟨hl, by rw [h1]; exact decide_eq_true hl, h2 hl⟩
  · have hf : Maps.has D (.int .i64 s) = false := by rw [h1]; exact decide_eq_false hl
    exact .inr ⟨by omega, hf, Maps.atKey_of_not_has hf _⟩
/-- What the read closure finds, later. -/
theorem StS.read {W0 : World} {ss : List Int} {sw : Int} {k : Nat} {W : World} {gl cl gw cw : Nat} {D : DataW Unit} (h : StS W0 ss sw k W gl cl gw cw D) {W4 W' : World} {n₁ : Nat} {M : Nat → Prop} (hb : Below W.heap.size W W4) (hn : W.heap.size ≤ n₁) (hM : ∀ j, j < W.heap.size → ¬ M j) (hk : Kept n₁ M W4 W') :
    W'.cell? ⟨W0.heap.size + 1 + 1, 0, none⟩ = some (.slice (some ⟨gl, 0, none⟩) k cl) ∧ ∀ j u, (logCells ss k)[j]? = some u → W'.cell? ⟨gl, j, none⟩ = some u := by
  have hl := h.bl.lt
  obtain ⟨_, cur, q1⟩ := row_obj h.rl
  have hg := (Array.getElem?_eq_some_iff.1 q1).1
  refine ⟨((hk.cell (by omega) (hM _ hl) 0).trans (hb.cell (p := ⟨W0.heap.size + 1 + 1, 0, none⟩) hl)).trans h.bl.cell, fun j u hj => ?_⟩
  have hc := h.rl.cells (g := gl) rfl j u hj
  rw [show ((⟨gl, 0, none⟩ : Addr).add j) = ⟨gl, j, none⟩ by simp [Addr.add]; exact fun e => e.symm] at hc
  exact ((hk.cell (by omega) (hM _ hg) j).trans (hb.cell (p := ⟨gl, j, none⟩) hg)).trans hc
/-- What the second loop's round finds. -/
theorem StS.want {W0 : World} {ss : List Int} {sw : Int} {k : Nat} {W : World} {gl cl gw cw : Nat} {D : DataW Unit} (h : StS W0 ss sw k W gl cl gw cw D) {W' : World} (hb : Below W.heap.size W W') :
    W'.cell? ⟨W0.heap.size + 1 + 1 + 1 + 1, 0, none⟩ = some (.slice (some ⟨gw, 0, none⟩) (wantOf ss sw k).length cw) ∧ ∀ j (hj : j < (wantOf ss sw k).length), W'.cell? ⟨gw, j, none⟩ = some (.int .i64 ((wantOf ss sw k)[j] : Int)) := by
  have hl := h.bw.lt
  obtain ⟨_, cur, q1⟩ := row_obj h.rw_
  have hg := (Array.getElem?_eq_some_iff.1 q1).1
  refine ⟨(hb.cell (p := ⟨W0.heap.size + 1 + 1 + 1 + 1, 0, none⟩) hl).trans h.bw.cell, fun j hj => ?_⟩
  have hc := h.rw_.cells (g := gw) rfl j (.int .i64 ((wantOf ss sw k)[j] : Int)) (by simp [wantV, iv, hj])
  rw [show ((⟨gw, 0, none⟩ : Addr).add j) = ⟨gw, j, none⟩ by simp [Addr.add]; exact fun e => e.symm] at hc
  exact (hb.cell (p := ⟨gw, j, none⟩) hg).trans hc
/-- A range over a function whose assignment lays a block. -/
theorem wpIn_rangeFunc_ownX {F : Fence} {n : Nat} {P : Program} {α : Type} {g : Operand} {ps : Array Tmp} {assign body : Code} {Q : Exit → Act → World → Prop} {a : Act} {w : World}
    (hro : F.round = none) (h1 : 1 ≤ n) {gf : Nat} {lb : Array Value} (hg : a.eval g = .func (.func gf) #[] lb) (hFg : F.fn gf) (eg : ∀ args w, (callFunc gf args).run P w = .ok (.enter gf args) w)
    {encs : α → Array Value} {Kp : World → World → Prop} {S Sp : List α → Prop} {N : Nat} {w0 : World} (hseq : SeqStopsK F (n - 1) P gf lb encs Kp S Sp N w0)
    (hKt : ∀ {A B C : World}, Kp A B → Kp B C → Kp A C) (hKb : ∀ (W : World) (l : Nat) (o o' : Obj), w.heap.size ≤ l → W.heap[l]? = some o → o.isCells = false → o.isWalk = false → Kp W (W.putObj l o')) (hb0 : Below w0.heap.size w0 w) (hps : ∀ x, (encs x).size = ps.size)
    (I : List α → World → Prop) (Ix : Code → List α → World → Prop) (hI : OwnFrom w.heap.size I) (hIx : ∀ c, OwnFrom w.heap.size (Ix c)) (h0 : I [] w) (C : α → Nat → World → Prop) (hC : ∀ x b, OwnFrom w.heap.size (fun (_ : Unit) W => C x b W))
    (f1 : α → Nat → Act)
    (hassign : ∀ (l : Nat) (pre : List α) (x : α) (W : World) (K : Act → World → Prop), I pre W → (∀ b W', KeepsFrom w.heap.size W W' → Kp W W' → I pre W' → C x b W' → K (f1 x b) W') →
      assign.wpIn (F.inRound l) (n - 1 - 1) P (Exit.then K (fun _ _ _ => False)) { tmps := (ps.zip (encs x)).foldl (fun t (p, v) => t.setIfInBounds p v) a.tmps, defers := [] } W)
    (hbody : ∀ (l : Nat) (pre : List α) (x : α) (b : Nat) (W : World), I pre W → C x b W → pre.length < N → body.wpIn (F.inRound l) (n - 1 - 1) P (ownPostG w.heap.size Kp I Ix (pre ++ [x]) W) (f1 x b) W)
    (hdone : ∀ (D : Nat) (xs : List α) (W : World), w.heap.size ≤ D → S xs → I xs W → W.heap[D]? = some (.deferred (some [])) → Q .normal { a with defers := { target := .collected D, args := #[] } :: a.defers } W)
    (hstop : ∀ (D : Nat) (c : Code) (pre : List α) (W : World), w.heap.size ≤ D → Sp pre → Ix c pre W → W.heap[D]? = some (.deferred (some [])) → c.wpIn F n P Q { a with defers := { target := .collected D, args := #[] } :: a.defers } W) :
    (Code.rangeFunc g ps assign body).wpIn F n P Q a w :=
  wpIn_rangeFunc_ownH hro h1 hg hFg eg hseq (fun h k => hKt h k) hKb hb0 hps I Ix hI hIx h0 (fun x a' W => ∃ b, a' = f1 x b ∧ C x b W)
    (fun x a' s A B row hs hg hr => by obtain ⟨b, e, h⟩ := hs; exact ⟨b, e, hC x b s A B row h hg hr⟩)
    (fun l pre x W K hi hK => hassign l pre x W K hi (fun b W' k1 k2 k3 k4 => hK _ _ k1 k2 k3 ⟨b, rfl, k4⟩))
    (fun l pre x a' W _ _ hi h => by obtain ⟨b, rfl, h⟩ := h; exact hbody l pre x b W hi h) hdone hstop
end Go.Proofs.YtpmanpckkpheeaaDoor
