/- octet.List, ahead of its walks: what holds between the rounds; turns' closure. -/
import Derived.Test.YtjkilpjdgjijiaaDoorDst
import Derived.RangeFuncNested
import Derived.RangeFuncBound
import Derived.RangeFuncCalls
import Derived.RangeFuncBox
import Derived.RangeFuncLeaves
import Derived.Shelf.Abstract
import Derived.Shelf.RegionOpen
import Derived.OwnWalkIn
import Derived.TacticsInMore
import Derived.LoopNIn
import Derived.LoopIn
import Derived.Test.YtjkilpjdgjijiaaDoorRango
import Derived.Deep.AppendLies
namespace Go.Proofs.YtjkilpjdgjijiaaDoor
open Go.RowKit Go.Shelf
set_option linter.unusedVariables false
attribute [local go_sem] Oper.semAt_some

theorem lst_low {w : World} {b b' : Nat} {e : TypeId} {size n : Nat} {v : Value} {xs : List Value} (h : w.ownsRow b e size v n xs) (hb : b' ≤ b) : w.ownsRow b' e size v n xs := by
  refine ⟨h.1, ?_⟩
  rcases h.2 with hn | ⟨g, cap, cur, rfl, hg, rest⟩
  · exact .inl hn
  · exact .inr ⟨g, cap, cur, rfl, Nat.le_trans hb hg, rest⟩
theorem lst_ge {w : World} {base : Nat} {e : TypeId} {size n : Nat} {v : Value} {xs : List Value} (h : w.ownsRow base e size v n xs) {g : Nat} (hg : v.ownBlock = some g) : base ≤ g := by
  rcases h.2 with ⟨rfl, _⟩ | ⟨g', cap, cur, rfl, hb, hh, _⟩
  · simp [Value.ownBlock] at hg
  · have : g' = g := by simpa [Value.ownBlock] using hg
    omega
/-- append at a step of a region that draws, inside a fence. -/
theorem stepIn_appendL {F : Fence} {nF : Nat} {P : Program} {ops : Array Oper} {o : Oper} {a : Act} {w : World} {K : Act → World → Prop} {Q : Exit → Act → World → Prop} {E : Prop}
    (hg : o.guard = none) (s x : Operand) (t : TypeId) (hop : o.op = Op.call { callee := Callee.builtin Builtin.append, args := #[s, x], argTypes := #[t, t] })
    (base : Nat) (e : TypeId) (i : TypeInfo) (z : Value) (size bytes : Nat) (h1 : P.underlying t = some (.slice e)) (h2 : P.info? e = some i) (h3 : i.zero = some z) (h4 : i.size = size) (h5 : i.bytes = bytes) (h6 : z.cells.size = size) (h7 : 0 < size)
    (v : Value) (n : Nat) (xs : List Value) (hs : a.eval s = v) (hown : w.ownsRow base e size v n xs)
    (ad : Addr) (m c : Nat) (news : List Value) (hx : a.eval x = .slice (some ad) m c) (hl : news.length = m * size) (hnews : ∀ j u, news[j]? = some u → w.cell? (ad.add j) = some u) (h1c : ∀ u ∈ news, u.oneCell' = true)
    (hm : 0 < m) (h63 : n + m ≤ maxLen) (hbytes : (n + m) * bytes ≤ 140737488355328) (hbase : base ≤ w.heap.size)
    (h : ∀ g cap w', w'.ownsRow base e size (.slice (some ⟨g, 0, none⟩) (n + m) cap) (n + m) (xs ++ news) → w.grownBy w' v.ownBlock → K (a.put o.dst (.slice (some ⟨g, 0, none⟩) (n + m) cap)) w') :
    if Region.wanted o (yielded ops a.tmps) = true then Oper.wpIn F nF P o a w K Q else E := by
  have hw : Region.wanted o (yielded ops a.tmps) = true := by simp [Region.wanted, hg]
  rw [if_pos hw]
  obtain ⟨g, cap, w', hr, r2, r3, r4, r5⟩ := run_append_lies (P := P) w t o.type base e i z size bytes h1 h2 h3 h4 h5 h6 h7 v n xs hown ad m c news hl hnews h1c hm h63 hbytes hbase w.heap.size rfl
  unfold Oper.wpIn
  refine ⟨?_, ?_⟩
  · simp [Oper.about, hop, resolve, Target.leads, Sem.run_pure]
  · rw [Oper.semAt_plain F _ _ (by rw [hop]; intro c hc'; cases hc')]
    simp [execOp, hop, resolve, invoke, builtin, hs, hx, hr, Result.andThen]
    exact h g cap w' r2 r3

/-- No block of cells of type t is in M. -/
def Off (M : Nat → Prop) (W : World) (t : TypeId) : Prop := ∀ k cs fr, W.heap[k]? = some (.cells cs t fr) → ¬ M k
theorem Off.none {W : World} {t : TypeId} : Off (fun _ => False) W t := fun _ _ _ _ h => h
theorem Off.one {W : World} {t u : TypeId} {g : Nat} {cs : Array Value} {fr : Nat × Nat} (h : W.heap[g]? = some (.cells cs u fr)) (hne : t ≠ u) : Off (fun k => k = g) W t := by
  rintro k cs' fr' hk rfl
  rw [h] at hk
  injection hk with hk
  injection hk with _ e
  exact hne e.symm
theorem Off.own {W : World} {t e : TypeId} {base size n : Nat} {v : Value} {xs : List Value} (h : W.ownsRow base e size v n xs) (hne : t ≠ e) : Off (fun k => v.ownBlock = some k) W t :=
  fun k cs fr hk hm => owns_ne h hk (fun e => hne e.symm) hm
theorem Off.obj {W : World} {t : TypeId} {b : Nat} {o : Obj} (h : W.heap[b]? = some o) (hc : o.isCells = false) : Off (fun k => k = b) W t := by
  rintro k cs fr hk rfl
  rw [h] at hk
  cases hk
  cases hc
theorem Off.cells {M : Nat → Prop} {W W' : World} {t : TypeId} {g : Nat} {cs : Array Value} {fr : Nat × Nat} (ho : Off M W t) (hf : Fr M W W') (h : W.heap[g]? = some (.cells cs t fr)) : W'.heap[g]? = some (.cells cs t fr) :=
  hf.cells h (ho g cs fr h)
theorem Off.row {M : Nat → Prop} {W W' : World} {e : TypeId} {base size n : Nat} {v : Value} {xs : List Value} (ho : Off M W e) (hf : Fr M W W') (h : W.ownsRow base e size v n xs) : W'.ownsRow base e size v n xs := by
  refine hf.owns h ?_
  intro k hk
  rcases h.2 with ⟨rfl, _⟩ | ⟨g, cap, cur, rfl, _, hh, _⟩
  · simp [Value.ownBlock] at hk
  · have : g = k := by simpa [Value.ownBlock] using hk
    subst this
    exact ho _ _ _ hh
theorem Rd.off {M : Nat → Prop} {W W' : World} {g : Nat} {s : PS} (h : Rd W g s) (hf : Fr M W W') (h1 : Off M W 5) (h2 : Off M W 99) : Rd W' g s := by
  rcases h with ⟨rfl, h⟩ | ⟨l, A, c, rfl, h⟩
  · exact .gone (h2.cells hf h)
  · refine .left ⟨h2.cells hf h.blk, ?_⟩
    rcases h.bytes with e | ⟨b, o, cs, fr, e, hb, r⟩
    · exact .inl e
    · exact .inr ⟨b, o, cs, fr, e, h1.cells hf hb, r⟩

/-- The types of a list: of its slice, of its things, of their own memory. -/
structure LTy (T E E' : TypeId) : Prop where
  e_r : E ≠ 99
  e_u : E ≠ 5
  t_r : T ≠ 99
  t_u : T ≠ 5
  t_e : T ≠ E
  d_r : E' ≠ 99
  d_e : E' ≠ E
  d_t : E' ≠ T
/-- A thing's own memory. -/
def DatOk {α : Type} (E' : TypeId) (dat : α → Option (Value × Nat × List Value)) (W : World) (base : Nat) (x : α) : Prop := ∀ v n xs, dat x = some (v, n, xs) → W.ownsRow base E' 1 v n xs
theorem DatOk.off {α : Type} {E' : TypeId} {dat : α → Option (Value × Nat × List Value)} {M : Nat → Prop} {W W' : World} {base : Nat} {x : α} (h : DatOk E' dat W base x) (hf : Fr M W W') (ho : Off M W E') : DatOk E' dat W' base x :=
  fun v n xs e => ho.row hf (h v n xs e)
theorem DatOk.low {α : Type} {E' : TypeId} {dat : α → Option (Value × Nat × List Value)} {W : World} {base base' : Nat} {x : α} (h : DatOk E' dat W base x) (hb : base' ≤ base) : DatOk E' dat W base' x :=
  fun v n xs e => lst_low (h v n xs e) hb
/-- What a List comes to. -/
def Listed {α β : Type} (E E' : TypeId) (val : α → Value) (dat : α → Option (Value × Nat × List Value)) (pl : α → β) (w : World) (g : Nat) (r : List β × PS) (e : Ending) (w' : World) : Prop :=
  (∃ (v : Value) (xs : List α), e = .returned v ∧ xs.map pl = r.1 ∧ w'.ownsRow w.heap.size E 1 v xs.length (xs.map val) ∧ ∀ x ∈ xs, DatOk E' dat w' w.heap.size x) ∧ Rd w' g r.2 ∧ Fr (fun k => k = g) w w'
/-- What holds between the rounds. -/
structure LS {α : Type} (T E E' : TypeId) (val : α → Value) (dat : α → Option (Value × Nat × List Value)) (W0 : World) (g Bo : Nat) (r : Loop) (xs : List α) (s : PS) (W : World) : Prop where
  fr : Fr (fun k => k = g ∨ k = Bo) W0 W
  out : ∃ v, Boxed W Bo T v ∧ W.ownsRow W0.heap.size E 1 v xs.length (xs.map val)
  dat : ∀ x ∈ xs, DatOk E' dat W W0.heap.size x
  rd : Rd W g s
  dfr : W.heap[W0.heap.size]? = some (.deferred (some []))
  rec_ : W.heap[W0.heap.size + 1]? = some (.loop r)
section
variable {α : Type} {T E E' : TypeId} {val : α → Value} {dat : α → Option (Value × Nat × List Value)} {W0 : World} {g Bo : Nat} {r : Loop} {xs : List α} {s : PS} {W : World}
theorem LS.below {W' : World} (h : LS T E E' val dat W0 g Bo r xs s W) (hb : Below W.heap.size W W') : LS T E E' val dat W0 g Bo r xs s W' := by
  have f : Fr (fun _ => False) W W' := Fr.of_below hb
  obtain ⟨v, h1, h2⟩ := h.out
  exact ⟨h.fr.thenBelow hb, ⟨v, f.cells h1 (fun x => x), Off.none.row f h2⟩, fun x hx => (h.dat x hx).off f .none, h.rd.below hb, f.cells h.dfr (fun x => x), f.cells h.rec_ (fun x => x)⟩
theorem LS.put {r' : Loop} (h : LS T E E' val dat W0 g Bo r xs s W) : LS T E E' val dat W0 g Bo r' xs s (W.putObj (W0.heap.size + 1) (.loop r')) := by
  have f : Fr (fun k => k = W0.heap.size + 1) W (W.putObj (W0.heap.size + 1) (.loop r')) := ⟨rfl, rfl, rfl, by simp, fun k _ hk => World.putObj_heap_other hk⟩
  have o : ∀ t, Off (fun k => k = W0.heap.size + 1) W t := fun t => Off.obj h.rec_ rfl
  obtain ⟨v, h1, h2⟩ := h.out
  refine ⟨h.fr.trans f (fun i hi e => by omega), ⟨v, (o _).cells f h1, (o _).row f h2⟩, fun x hx => (h.dat x hx).off f (o _), h.rd.off f (o _) (o _), (World.putObj_heap_other (by omega)).trans h.dfr, World.putObj_heap_same (Array.getElem?_eq_some_iff.1 h.rec_).1⟩
/-- The reader has taken. -/
theorem LS.read {W1 : World} {s' : PS} (ty : LTy T E E') (h : LS T E E' val dat W0 g Bo r xs s W) (hf : Fr (fun k => k = g) W W1) (hr : Rd W1 g s') : LS T E E' val dat W0 g Bo r xs s' W1 := by
  obtain ⟨cs, hg⟩ := h.rd.rb
  obtain ⟨v, h1, h2⟩ := h.out
  refine ⟨h.fr.trans hf (fun i hi e => .inl e), ⟨v, (Off.one hg ty.t_r).cells hf h1, (Off.one hg ty.e_r).row hf h2⟩, fun x hx => (h.dat x hx).off hf (Off.one hg ty.d_r), hr, hf.cells h.dfr ?_, hf.cells h.rec_ ?_⟩
  · rintro e; have h3 := h.dfr; rw [e, hg] at h3; cases h3
  · rintro e; have h3 := h.rec_; rw [e, hg] at h3; cases h3
/-- One round's append. -/
theorem LS.next {w2 : World} {gg cap : Nat} {v : Value} {x : α} {o : Obj} (ty : LTy T E E') (h : LS T E E' val dat W0 g Bo r xs s W) (hv : Boxed W Bo T v) (hrow : W.ownsRow W0.heap.size E 1 v xs.length (xs.map val)) (hx : DatOk E' dat W W0.heap.size x)
    (hown2 : w2.ownsRow W0.heap.size E 1 (.slice (some ⟨gg, 0, none⟩) (xs.length + 1) cap) (xs.length + 1) (xs.map val ++ [val x])) (hgrow : (W.alloc o).grownBy w2 v.ownBlock) :
    LS T E E' val dat W0 g Bo r (xs ++ [x]) s (w2.setCell ⟨Bo, 0, none⟩ (.slice (some ⟨gg, 0, none⟩) (xs.length + 1) cap)) := by
  have f1 : Fr (fun k => v.ownBlock = some k) W w2 := ((Fr.refl _ W).alloc o).grown hgrow (fun k hk _ => hk)
  have hv2 : Boxed w2 Bo T v := (Off.own hrow ty.t_e).cells f1 hv
  have f2 := fr_set w2 Bo 0 (.slice (some ⟨gg, 0, none⟩) (xs.length + 1) cap)
  have obj : ∀ {k : Nat} {o : Obj}, W.heap[k]? = some o → o.isCells = false → (w2.setCell ⟨Bo, 0, none⟩ (.slice (some ⟨gg, 0, none⟩) (xs.length + 1) cap)).heap[k]? = some o := by
    intro k o' hk hc
    have h1 : w2.heap[k]? = some o' := f1.cells hk (fun e => by
      rcases hrow.2 with ⟨rfl, _⟩ | ⟨g', cap', cur, rfl, _, hh, _⟩
      · simp [Value.ownBlock] at e
      · have : g' = k := by simpa [Value.ownBlock] using e
        subst this
        rw [hk] at hh
        injection hh with hh
        subst hh
        cases hc)
    exact f2.cells h1 (fun e => by subst e; rw [show w2.heap[_]? = _ from hv2] at h1; cases h1; cases hc)
  refine ⟨?_, ⟨_, cell_set (i := 0) hv2 _, ?_⟩, ?_, ?_, obj h.dfr rfl, obj h.rec_ rfl⟩
  · refine (h.fr.trans f1 (fun i hi e => ?_)).trans f2 (fun i hi e => .inr e)
    have := lst_ge hrow e
    omega
  · rw [List.map_append, List.map_singleton, List.length_append, List.length_singleton]
    exact (Off.one hv2 ty.t_e.symm).row f2 hown2
  · intro y hy
    have hy2 : DatOk E' dat W W0.heap.size y := by
      rcases List.mem_append.1 hy with hy | hy
      · exact h.dat y hy
      · rw [List.mem_singleton.1 hy]; exact hx
    exact (hy2.off f1 (Off.own hrow ty.d_e)).off f2 (Off.one hv2 ty.d_t)
  · exact (h.rd.off f1 (Off.own hrow ty.e_u.symm) (Off.own hrow ty.e_r.symm)).off f2 (Off.one hv2 ty.t_u.symm) (Off.one hv2 ty.t_r.symm)
end

set_option maxHeartbeats 1000000 in
theorem turns_inL (F : Fence) (n : Nat) (h5 : F.fn 58) (hro : F.round = none) (p0 : Option Addr) (z : Int) (w : World) :
    CallsIn F n Tryd.prog 58 #[.pointer p0, .int .i64 z] w fun e w' => e = .returned (.func (.func 73) #[] #[.pointer (some ⟨w.heap.size + 1, 0, none⟩), .pointer (some ⟨w.heap.size, 0, none⟩)]) ∧ w' = (w.alloc (.cells #[.pointer p0] 54)).alloc (.cells #[.int .i64 z] 3) := by
  refine callsIn_of_wp Tryd.func58 rfl h5 ?_ hro
  simp only [Tryd.ntmps58, List.size_toArray, List.length_cons, List.length_nil, Nat.reduceAdd, Nat.reduceSub, Array.replicate_succ, Array.replicate_zero, List.push_toArray, List.append_toArray, List.nil_append, List.cons_append]
  gi_wp2
  go_ret
  exact ⟨rfl, rfl⟩

set_option maxRecDepth 100000 in
set_option maxHeartbeats 2000000 in
/-- turns' closure: so many turns, as long as it hasn't gone wrong. -/
theorem turns1_any (F : Fence) (n : Nat) (h7 : F.fn 73) (hro : F.round = none) (hn : 1 ≤ n) (l Bn Br g q : Nat) (hq : q ≤ 1000000) {α : Type} (J : List α → PS → World → Prop)
    (hJr : ∀ pre s W, J pre s W → Rd W g s) (hJn : ∀ pre s W, J pre s W → W.cell? ⟨Bn, 0, none⟩ = some (.int .i64 (q : Int))) (hJb : ∀ pre s W, J pre s W → W.cell? ⟨Br, 0, none⟩ = some (.pointer (some ⟨g, 0, none⟩)))
    (hY : ∀ pre ls W, J pre (some ls) W → pre.length < q → YieldAt F (n - 1) Tryd.prog l #[.int .i64 (pre.length : Int)] W fun e W' => e = .returned (.bool true) ∧ ∃ x s', J (pre ++ [x]) s' W')
    (W : World) (s0 : PS) (h0 : J [] s0 W) :
    CallsIn F n Tryd.prog 73 #[.func (.yield l) #[] #[], .pointer (some ⟨Bn, 0, none⟩), .pointer (some ⟨Br, 0, none⟩)] W fun e W' => (∃ v, e = .returned v) ∧ ∃ ys s', J ys s' W' ∧ ys.length ≤ q ∧ (ys.length = q ∨ s' = none) := by
  have HJR := Lib.hid hJr
  have HJN := Lib.hid hJn
  have HJB := Lib.hid hJb
  have HY := Lib.hid hY
  have H0 := Lib.hid h0
  have hcn := hJn [] s0 W h0
  clear hJr hJn hJb hY h0
  refine callsIn_of_wp Tryd.func73 rfl h7 ?_ hro
  simp only [Tryd.ntmps73, List.size_toArray, List.length_cons, List.length_nil, Nat.reduceAdd, Nat.reduceSub, Array.replicate_succ, Array.replicate_zero, List.push_toArray, List.append_toArray, List.nil_append, List.cons_append]
  gi_wp2
  gi_loopw [6] (fun i wr => ∃ (k : Nat) (pre : List α) (s : PS), k ≤ q ∧ i = .int .i64 (k : Int) ∧ Hid (pre.length = k) ∧ Hid (J pre s wr)) (fun i _ => q - (intOf i).toNat)
  case atStart => exact ⟨0, [], s0, Nat.zero_le _, rfl, Lib.hid rfl, H0⟩
  case round =>
    obtain ⟨k, pre, s, hk, rfl, HPL, HJS⟩ := hrel
    by_cases hlt : k < q
    · have hi1 : (k : Int) < (q : Int) := by omega
      have hcb := HJB.out _ _ _ HJS.out
      have hR := HJR.out _ _ _ HJS.out
      cases s with
      | none =>
        have hG : Gone wr g := by
          rcases hR with ⟨_, h⟩ | ⟨l, A, c, e, _⟩
          · exact h
          · cases e
        have hg1 : wr.cell? ⟨g, 1, none⟩ = some (.bool true) := (Blk.of_heap hG).cell 1
        clear hR hG
        gi_wp2
        refine ⟨fun _ h => (by cases h), ?_⟩
        gi_wp2
        refine bodyPost_ret (results_none rfl _ _ _) rfl ?_
        refine ⟨⟨_, rfl⟩, pre, none, HJS.out, ?_, .inr rfl⟩
        have := HPL.out
        omega
      | some ls =>
        have hg1 : wr.cell? ⟨g, 1, none⟩ = some (.bool false) := by
          rcases hR with ⟨e, _⟩ | ⟨l, A, c, e, h⟩
          · cases e
          · exact (Blk.of_heap h.blk).cell 1
        obtain ⟨fn, tmps, assign, body, hy, hRd⟩ := HY.out pre ls wr HJS.out (by rw [HPL.out]; exact hlt)
        rw [HPL.out] at hy
        clear hR
        gi_wp2
        refine hRd.mono ?_
        rintro e W6 ⟨rfl, x, s', hJ6⟩
        have HJ6 := Lib.hid hJ6
        clear hJ6 hy
        gi_wp2
        go_roundw
        case rel => exact ⟨k + 1, _, s', by omega, by go_num, Lib.hid (by rw [List.length_append, HPL.out]; rfl), HJ6⟩
        case measure => simp [intOf]; omega
    · obtain rfl : k = q := by omega
      have hend : ¬ ((k : Int) < (k : Int)) := by omega
      gi_wp2
      go_end0
      exact ⟨⟨_, rfl⟩, pre, s, HJS.out, Nat.le_of_eq HPL.out, .inl HPL.out⟩
end Go.Proofs.YtjkilpjdgjijiaaDoor
