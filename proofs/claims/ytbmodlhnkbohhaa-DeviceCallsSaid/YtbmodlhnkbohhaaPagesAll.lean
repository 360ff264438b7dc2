/- (*device.Device).Pages. -/
import Derived.Test.YtbmodlhnkbohhaaPages
namespace Go.Proofs.Ytbmodlhnkbohhaa
open Go.RowKit Go.Shelf
set_option linter.unusedVariables false
attribute [local go_sem] Oper.semAt_some

theorem Try.info_bs : (Try.prog.info? 23).map (fun i => (i.zero, i.size, i.bytes)) = some (some (.slice none 0 0), 1, 24) := by kernel_rfl

/-- A row of byte slices. -/
abbrev Pg.sl (q : Pg) : Value := .slice q.A q.l.length q.c
/-- append at a step of a region that draws, inside a fence. -/
theorem stepIn_append {F : Fence} {nF : Nat} {P : Program} {ops : Array Oper} {o : Oper} {a : Act} {w : World} {K : Act → World → Prop} {Q : Exit → Act → World → Prop} {E : Prop}
    (hg : o.guard = none) (s x : Operand) (t : TypeId) (hop : o.op = Op.call { callee := Callee.builtin Builtin.append, args := #[s, x], argTypes := #[t, t] })
    (base : Nat) (e : TypeId) (i : TypeInfo) (z : Value) (size bytes : Nat) (h1 : P.underlying t = some (.slice e)) (h2 : P.info? e = some i) (h3 : i.zero = some z) (h4 : i.size = size) (h5 : i.bytes = bytes) (h6 : z.cells.size = size) (h7 : 0 < size)
    (v : Value) (n : Nat) (xs : List Value) (hs : a.eval s = v) (hown : w.ownsRow base e size v n xs)
    (ad : Addr) (m c : Nat) (news : List Value) (hx : a.eval x = .slice (some ad) m c) (hl : news.length = m * size) (hnews : ∀ j u, news[j]? = some u → w.cell? (ad.add j) = some u) (h1c : ∀ u ∈ news, u.oneCell' = true)
    (hm : 0 < m) (h63 : n + m ≤ maxLen) (hbytes : (n + m) * bytes ≤ 140737488355328) (hbase : base ≤ w.heap.size)
    (h : ∀ g cap w', w'.ownsRow base e size (.slice (some ⟨g, 0, none⟩) (n + m) cap) (n + m) (xs ++ news) → w.grownBy w' v.ownBlock → K (a.put o.dst (.slice (some ⟨g, 0, none⟩) (n + m) cap)) w') :
    if Region.wanted o (yielded ops a.tmps) = true then Oper.wpIn F nF P o a w K Q else E := by
  have hw : Region.wanted o (yielded ops a.tmps) = true := by simp [Region.wanted, hg]
  rw [if_pos hw]
  obtain ⟨g, cap, w', hr, r2, r3, r4, r5⟩ := run_append_lies (P := P) w t o.type base e i z size bytes h1 h2 h3 h4 h5 h6 h7 v n xs hown ad m c news hl hnews h1c hm h63 hbytes hbase w.heap.size rfl
  unfold Oper.wpIn
  refine ⟨?_, ?_⟩
  · simp [Oper.about, hop, resolve, Target.leads, Sem.run_pure]
  · rw [Oper.semAt_plain F _ _ (by rw [hop]; intro c hc'; cases hc')]
    simp [execOp, hop, resolve, invoke, builtin, hs, hx, hr, Result.andThen]
    exact h g cap w' r2 r3

/-- What a loop that collects clones has come to. -/
def Coll (B n₀ : Nat) (ls : List (List UInt8)) (W : World) : Prop :=
  ∃ (v : Value) (qs : List Pg), Boxed W B 22 v ∧ W.ownsRow n₀ 23 1 v qs.length (qs.map Pg.sl) ∧ qs.map (·.l) = ls ∧ ∀ q ∈ qs, q.ok W n₀

theorem Coll.kept {B n₀ : Nat} {ls : List (List UInt8)} {X Y : World} {row : Option Nat} (h : Coll B n₀ ls X) (hg : X.grownBy Y row) (hrow : ∀ r, row = some r → ∃ o : Obj, X.heap[r]? = some o ∧ o.isCells = false) : Coll B n₀ ls Y := by
  have keep : ∀ {base e size v n xs}, X.ownsRow base e size v n xs → Y.ownsRow base e size v n xs := by
    intro base e size v n xs hr
    refine hr.kept hg ?_
    rcases hr.2 with ⟨rfl, _⟩ | ⟨g, cap, cur, rfl, _, hgb, _⟩
    · exact .inl rfl
    · refine .inr fun e' => ?_
      obtain ⟨o, ho, hc⟩ := hrow g (by simpa [Value.ownBlock] using e'.symm)
      rw [hgb] at ho; cases ho; cases hc
  obtain ⟨v, qs, hv, hr, hl, hq⟩ := h
  refine ⟨v, qs, hv.kept hg (fun e' => ?_), keep hr, hl, fun q hm => keep (hq q hm)⟩
  obtain ⟨o, ho, hc⟩ := hrow B e'.symm
  rw [show X.heap[B]? = _ from hv] at ho; cases ho; cases hc

/-- One round's append. -/
theorem Coll.step {B n₀ c1 cap gg : Nat} {ls : List (List UInt8)} {l : List UInt8} {W w1 w2 : World} {v : Value} {qs : List Pg} {A1 : Option Addr} {o : Obj}
    (hv : Boxed W B 22 v) (hrow : W.ownsRow n₀ 23 1 v qs.length (qs.map Pg.sl)) (hls : qs.map (·.l) = ls) (hq : ∀ q ∈ qs, q.ok W n₀) (hn₀ : n₀ ≤ W.heap.size) (hB : n₀ ≤ B)
    (hb : Below W.drew.heap.size W.drew w1) (hown : w1.ownsRow W.drew.heap.size 5 1 (.slice A1 l.length c1) l.length (bv l))
    (hown2 : w2.ownsRow n₀ 23 1 (.slice (some ⟨gg, 0, none⟩) (qs.length + 1) cap) (qs.length + 1) (qs.map Pg.sl ++ [.slice A1 l.length c1])) (hgrow : (w1.alloc o).grownBy w2 v.ownBlock) :
    KeepsOthers W (w2.setCell ⟨B, 0, none⟩ (.slice (some ⟨gg, 0, none⟩) (qs.length + 1) cap)) ∧ Below n₀ W (w2.setCell ⟨B, 0, none⟩ (.slice (some ⟨gg, 0, none⟩) (qs.length + 1) cap)) ∧ Coll B n₀ (ls ++ [l]) (w2.setCell ⟨B, 0, none⟩ (.slice (some ⟨gg, 0, none⟩) (qs.length + 1) cap)) := by
  have hbW : Below W.heap.size W w1 := (bdrewN_refl _ W 1).trans hb
  have fW : Fr (fun _ => False) W w1 := Fr.of_below hbW
  have hv1 : Boxed w1 B _ v := fW.cells hv (fun x => x)
  have hrow1 := fW.owns hrow (fun _ _ x => x)
  obtain ⟨hv2, hv3, hr3, hk, hbl⟩ := hv1.appended (by decide) hrow1 (Nat.le_trans hn₀ hbW.size) hB hown2 hgrow
  have f1 : Fr (fun k => v.ownBlock = some k) w1 w2 := ((Fr.refl _ w1).alloc o).grown hgrow (fun k hk _ => hk)
  have f2 := fr_set w2 B 0 (.slice (some ⟨gg, 0, none⟩) (qs.length + 1) cap)
  have keepB : ∀ {A : Option Addr} {base n c : Nat} {xs : List Value}, w1.ownsRow base 5 1 (.slice A n c) n xs → (w2.setCell ⟨B, 0, none⟩ (.slice (some ⟨gg, 0, none⟩) (qs.length + 1) cap)).ownsRow base 5 1 (.slice A n c) n xs := by
    intro A base n c xs hx
    have h2 := f1.owns hx (fun k hk hm => owns_apart hx hrow1 (by decide) k hk hm)
    exact f2.owns h2 (info_apart h2 hv2 (by decide))
  have hbn : Below n₀ W w1 := hbW.mono hn₀
  refine ⟨⟨Nat.le_trans hbW.size hk.size, fun k ob hk1 hk2 => hk.same k ob ?_ hk2⟩, hbn.trans hbl, .slice (some ⟨gg, 0, none⟩) (qs.length + 1) cap, qs ++ [⟨1, A1, c1, l⟩], hv3, ?_, by simp [hls], ?_⟩
  · rw [hbW.block k (Array.getElem?_eq_some_iff.1 hk1).1]; exact hk1
  · simpa using hr3
  · intro q hm
    rcases List.mem_append.1 hm with hm | hm
    · exact keepB (fW.owns (hq q hm) (fun _ _ x => x))
    · simp at hm
      subst hm
      have := keepB hown
      refine ⟨this.1, ?_⟩
      rcases this.2 with h0 | ⟨g', cap', cur, e1, e2, r⟩
      · exact .inl h0
      · have e2' : W.heap.size ≤ g' := by simpa using e2
        exact .inr ⟨g', cap', cur, e1, by omega, r⟩

/-- What Pages comes to. -/
def Paged (ls : List (List UInt8)) (w : World) (e : Ending) (w' : World) : Prop :=
  ∃ (v : Value) (qs : List Pg), e = .returned v ∧ w'.ownsRow w.heap.size 23 1 v qs.length (qs.map Pg.sl) ∧ qs.map (·.l) = ls ∧ (∀ q ∈ qs, q.ok w' w.heap.size) ∧ Below w.heap.size w w'

set_option maxRecDepth 100000 in
set_option maxHeartbeats 4000000 in
theorem pages_any {w : World} {n0 g room lasts : Nat} {v : Value} {ps : List Pg} (h : Dev w n0 g v room ps lasts) (hl : ∀ p ∈ ps, PB w w.heap.size p) :
    Calls Try.prog 15 #[.pointer (some ⟨g, 0, none⟩)] w fun e w' => Paged ((wh ps).map (·.l)) w e w' := by
  refine (callsIn_wide (n := 6)).1 ?_
  have hrm : ps.length ≤ 65536 := by have := h.le; have := h.rm; omega
  refine callsIn_of_wp_marks Try.func15 rfl trivial ?_ rfl
  simp only [Try.ntmps15, List.size_toArray, List.length_cons, List.length_nil, Nat.reduceAdd, Nat.reduceSub, Array.replicate_succ, Array.replicate_zero, List.push_toArray, List.append_toArray, List.nil_append, List.cons_append]
  gi_wp2_with (refine ⟨trivial, ?_⟩; gi_at_call 47; refine (whole_in Fence.wide _ trivial rfl _ _).mono ?_; rintro e w' ⟨rfl, rfl⟩)
  have bO := Boxed.new w 22 (.slice none 0 0)
  have bN := Boxed.new (w.alloc (.cells #[.slice none 0 0] 22)) 25 (.pointer (some ⟨g, 0, none⟩))
  rw [World.size_alloc] at bN
  have hB0 : Below w.heap.size w ((w.alloc (.cells #[.slice none 0 0] 22)).alloc (.cells #[.pointer (some ⟨g, 0, none⟩)] 25)) := ((Below.refl _ w).alloc (Nat.le_refl _) _).alloc (by simp) _
  refine wpIn_rangeFunc_ownG rfl (by omega) (gf := 61) (lb := #[.pointer (some ⟨w.heap.size + 1, 0, none⟩)]) rfl trivial (enters_of Try.func61 (by kernel_rfl) rfl)
    (whole_stops Fence.wide _ trivial rfl (by omega) h rfl hl hB0 (by simp) bN.cell) belowK_t (belowK_b (by simp; omega)) (Below.refl _ _) (fun _ => rfl)
    (fun pre W => Coll w.heap.size w.heap.size (pre.map fun x => x.1.l) W ∧ Below w.heap.size w W)
    (fun _ _ _ => False)
    (OwnFrom.and (Own.from (fun s A B row hs hg hr => hs.kept hg hr) _) (ownFrom_below (Nat.le_refl _) (by simp; omega)))
    (fun _ _ _ _ _ hs _ _ => hs)
    ⟨⟨_, [], bO.alloc _, World.ownsRow_nil _ _ _ _, rfl, by simp⟩, hB0⟩
    (fun x => { tmps := #[.pointer (some ⟨g, 0, none⟩), undef, .slice none 0 0, .pointer (some ⟨w.heap.size, 0, none⟩), .slice x.1.A x.1.l.length x.1.c, .pointer (some ⟨g, 0, none⟩), .func (.func 61) #[] #[.pointer (some ⟨w.heap.size + 1, 0, none⟩)], .slice x.1.A x.1.l.length x.1.c, undef, undef, undef, undef, undef, undef], defers := [] }) ?assign ?body ?done ?stop
  case assign =>
    intro l x W K hK
    gi_wp2
    exact hK
  case body =>
    rintro l pre x W ⟨⟨v, qs, hv, hrow, hls, hq⟩, hB⟩ hlt
    obtain ⟨p, hp1, hp2, hp3⟩ := x
    obtain ⟨i0, hi, hz0, hz1, hz2⟩ := info_parts Try.info_bs
    have hc := hv.cell
    have hn₀ := hB.size
    have hsl : Sl W.drew w.heap.size p.A (bv p.l) := (hp1.below hB).drew
    have hqs : qs.length ≤ 65536 := by
      have e := congrArg List.length hls
      rw [List.length_map, List.length_map] at e
      omega
    have H63 : Hid (qs.length + 1 ≤ maxLen) := Lib.hid (by unfold maxLen; omega)
    have HBY : Hid ((qs.length + 1) * 24 ≤ 140737488355328) := Lib.hid (by omega)
    have HQ := Lib.hid hq
    clear hrm hqs hq
    gi_wp2
    refine wpIn_region_any (by kernel_rfl) ?_
    change wpAnyIn _ _ _ _ _ _ _ _ _ (World.drew _)
    refine wpAnyIn_ready (rs := [0, 1]) (by kernel_rfl) (by simp) ?_
    refine AllReadyIn.cons rfl (fun K hK => ?_) ?_
    next =>
      go_simp
      refine hK _ _ ?_
      clear hK K
      refine wpAnyIn_ready (rs := [1]) (by kernel_rfl) (by simp) ?_
      refine AllReadyIn.cons rfl (fun K hK => ?_) ?_
      next =>
        go_simp
        refine hK _ _ ?_
        clear hK K
        refine wpAnyIn_ready (rs := [2]) (by kernel_rfl) (by simp) ?_
        refine AllReadyIn.cons rfl (fun K hK => ?_) ?_
        next =>
          go_simp
          refine ⟨trivial, ?_⟩
          refine (CallsIn.inRound l (callsIn_wide.2 (clone_bytes p.A p.c w.heap.size p.l W.drew hsl hp2 hp3 (by simpa using hn₀)))).mono ?_
          rintro e w1 ⟨⟨A1, c1, rfl, hown⟩, hbl⟩
          have hv1 : Boxed w1 w.heap.size 22 v := (Fr.of_below (M := fun _ => False) ((bdrewN_refl _ W 1).trans hbl)).cells hv (fun x => x)
          have hrow1 := (Fr.of_below (M := fun _ => False) ((bdrewN_refl _ W 1).trans hbl)).owns hrow (fun _ _ x => x)
          have hcw := hv1.cell
          have hcb := (hv1.alloc (.cells #[.slice A1 p.l.length c1] 23)).cell
          go_simp
          refine hK _ _ ?_
          clear hK K
          refine wpAnyIn_ready (rs := [3]) (by kernel_rfl) (by simp) ?_
          refine AllReadyIn.cons rfl (fun K hK => ?_) ?_
          next =>
            go_simp
            refine hK _ _ ?_
            clear hK K
            refine wpAnyIn_ready (rs := [4]) (by kernel_rfl) (by simp) ?_
            refine AllReadyIn.cons rfl (fun K hK => ?_) ?_
            next =>
              refine stepIn_append rfl _ _ _ (by rfl) w.heap.size 23 i0 _ 1 24 Try.underlying22 hi hz0 hz1 hz2 rfl (by omega) v qs.length (qs.map Pg.sl) (by rfl) (hrow1.alloc _)
                ⟨w1.heap.size, 0, none⟩ 1 1 [.slice A1 p.l.length c1] (by rfl) (by rfl) (World.news_of_block (cs := #[.slice A1 p.l.length c1]) (t := 23) (fr := (0, 0)) (heap_alloc_new w1 _)) (by simp [Value.oneCell']) (by omega) H63.out HBY.out (by simp; have := hbl.size; simp at this; omega) ?_
              intro gg cap w2 hown2 hgrow
              have hv2 := Boxed.kept (hv1.alloc (.cells #[.slice A1 p.l.length c1] 23)) hgrow (Boxed.not_row (hv1.alloc (.cells #[.slice A1 p.l.length c1] 23)) (by decide) (hrow1.alloc (.cells #[.slice A1 p.l.length c1] 23)))
              have hc2 := hv2.cell
              have hf2 := hv2.frozen
              refine hK _ _ ?_
              clear hK K
              refine wpAnyIn_ready (rs := [5]) (by kernel_rfl) (by simp) ?_
              refine AllReadyIn.cons rfl (fun K hK => ?_) ?_
              next =>
                go_simp
                refine hK _ _ ?_
                clear hK K
                refine wpAnyIn_done (by kernel_rfl) ?_ _
                gi_wp2
                obtain ⟨k1, k2, k3⟩ := Coll.step hv hrow hls HQ.out hn₀ (Nat.le_refl _) hbl hown hown2 hgrow
                exact ⟨k1.from _, k2, by rw [List.map_append]; exact k3, hB.trans k2⟩
              exact AllReadyIn.nil
            exact AllReadyIn.nil
          exact AllReadyIn.nil
        exact AllReadyIn.nil
      exact AllReadyIn.nil
    refine AllReadyIn.cons rfl (fun K hK => ?_) ?_
    next =>
      go_simp
      refine hK _ _ ?_
      clear hK K
      refine wpAnyIn_ready (rs := [0, 2]) (by kernel_rfl) (by simp) ?_
      refine AllReadyIn.cons rfl (fun K hK => ?_) ?_
      next =>
        go_simp
        refine hK _ _ ?_
        clear hK K
        refine wpAnyIn_ready (rs := [2]) (by kernel_rfl) (by simp) ?_
        refine AllReadyIn.cons rfl (fun K hK => ?_) ?_
        next =>
          go_simp
          refine ⟨trivial, ?_⟩
          refine (CallsIn.inRound l (callsIn_wide.2 (clone_bytes p.A p.c w.heap.size p.l W.drew hsl hp2 hp3 (by simpa using hn₀)))).mono ?_
          rintro e w1 ⟨⟨A1, c1, rfl, hown⟩, hbl⟩
          have hv1 : Boxed w1 w.heap.size 22 v := (Fr.of_below (M := fun _ => False) ((bdrewN_refl _ W 1).trans hbl)).cells hv (fun x => x)
          have hrow1 := (Fr.of_below (M := fun _ => False) ((bdrewN_refl _ W 1).trans hbl)).owns hrow (fun _ _ x => x)
          have hcw := hv1.cell
          have hcb := (hv1.alloc (.cells #[.slice A1 p.l.length c1] 23)).cell
          go_simp
          refine hK _ _ ?_
          clear hK K
          refine wpAnyIn_ready (rs := [3]) (by kernel_rfl) (by simp) ?_
          refine AllReadyIn.cons rfl (fun K hK => ?_) ?_
          next =>
            go_simp
            refine hK _ _ ?_
            clear hK K
            refine wpAnyIn_ready (rs := [4]) (by kernel_rfl) (by simp) ?_
            refine AllReadyIn.cons rfl (fun K hK => ?_) ?_
            next =>
              refine stepIn_append rfl _ _ _ (by rfl) w.heap.size 23 i0 _ 1 24 Try.underlying22 hi hz0 hz1 hz2 rfl (by omega) v qs.length (qs.map Pg.sl) (by rfl) (hrow1.alloc _)
                ⟨w1.heap.size, 0, none⟩ 1 1 [.slice A1 p.l.length c1] (by rfl) (by rfl) (World.news_of_block (cs := #[.slice A1 p.l.length c1]) (t := 23) (fr := (0, 0)) (heap_alloc_new w1 _)) (by simp [Value.oneCell']) (by omega) H63.out HBY.out (by simp; have := hbl.size; simp at this; omega) ?_
              intro gg cap w2 hown2 hgrow
              have hv2 := Boxed.kept (hv1.alloc (.cells #[.slice A1 p.l.length c1] 23)) hgrow (Boxed.not_row (hv1.alloc (.cells #[.slice A1 p.l.length c1] 23)) (by decide) (hrow1.alloc (.cells #[.slice A1 p.l.length c1] 23)))
              have hc2 := hv2.cell
              have hf2 := hv2.frozen
              refine hK _ _ ?_
              clear hK K
              refine wpAnyIn_ready (rs := [5]) (by kernel_rfl) (by simp) ?_
              refine AllReadyIn.cons rfl (fun K hK => ?_) ?_
              next =>
                go_simp
                refine hK _ _ ?_
                clear hK K
                refine wpAnyIn_done (by kernel_rfl) ?_ _
                gi_wp2
                obtain ⟨k1, k2, k3⟩ := Coll.step hv hrow hls HQ.out hn₀ (Nat.le_refl _) hbl hown hown2 hgrow
                exact ⟨k1.from _, k2, by rw [List.map_append]; exact k3, hB.trans k2⟩
              exact AllReadyIn.nil
            exact AllReadyIn.nil
          exact AllReadyIn.nil
        exact AllReadyIn.nil
      refine AllReadyIn.cons rfl (fun K hK => ?_) ?_
      next =>
        go_simp
        refine ⟨trivial, ?_⟩
        refine (CallsIn.inRound l (callsIn_wide.2 (clone_bytes p.A p.c w.heap.size p.l W.drew hsl hp2 hp3 (by simpa using hn₀)))).mono ?_
        rintro e w1 ⟨⟨A1, c1, rfl, hown⟩, hbl⟩
        have hv1 : Boxed w1 w.heap.size 22 v := (Fr.of_below (M := fun _ => False) ((bdrewN_refl _ W 1).trans hbl)).cells hv (fun x => x)
        have hrow1 := (Fr.of_below (M := fun _ => False) ((bdrewN_refl _ W 1).trans hbl)).owns hrow (fun _ _ x => x)
        have hcw := hv1.cell
        have hcb := (hv1.alloc (.cells #[.slice A1 p.l.length c1] 23)).cell
        go_simp
        refine hK _ _ ?_
        clear hK K
        refine wpAnyIn_ready (rs := [0, 3]) (by kernel_rfl) (by simp) ?_
        refine AllReadyIn.cons rfl (fun K hK => ?_) ?_
        next =>
          go_simp
          refine hK _ _ ?_
          clear hK K
          refine wpAnyIn_ready (rs := [3]) (by kernel_rfl) (by simp) ?_
          refine AllReadyIn.cons rfl (fun K hK => ?_) ?_
          next =>
            go_simp
            refine hK _ _ ?_
            clear hK K
            refine wpAnyIn_ready (rs := [4]) (by kernel_rfl) (by simp) ?_
            refine AllReadyIn.cons rfl (fun K hK => ?_) ?_
            next =>
              refine stepIn_append rfl _ _ _ (by rfl) w.heap.size 23 i0 _ 1 24 Try.underlying22 hi hz0 hz1 hz2 rfl (by omega) v qs.length (qs.map Pg.sl) (by rfl) (hrow1.alloc _)
                ⟨w1.heap.size, 0, none⟩ 1 1 [.slice A1 p.l.length c1] (by rfl) (by rfl) (World.news_of_block (cs := #[.slice A1 p.l.length c1]) (t := 23) (fr := (0, 0)) (heap_alloc_new w1 _)) (by simp [Value.oneCell']) (by omega) H63.out HBY.out (by simp; have := hbl.size; simp at this; omega) ?_
              intro gg cap w2 hown2 hgrow
              have hv2 := Boxed.kept (hv1.alloc (.cells #[.slice A1 p.l.length c1] 23)) hgrow (Boxed.not_row (hv1.alloc (.cells #[.slice A1 p.l.length c1] 23)) (by decide) (hrow1.alloc (.cells #[.slice A1 p.l.length c1] 23)))
              have hc2 := hv2.cell
              have hf2 := hv2.frozen
              refine hK _ _ ?_
              clear hK K
              refine wpAnyIn_ready (rs := [5]) (by kernel_rfl) (by simp) ?_
              refine AllReadyIn.cons rfl (fun K hK => ?_) ?_
              next =>
                go_simp
                refine hK _ _ ?_
                clear hK K
                refine wpAnyIn_done (by kernel_rfl) ?_ _
                gi_wp2
                obtain ⟨k1, k2, k3⟩ := Coll.step hv hrow hls HQ.out hn₀ (Nat.le_refl _) hbl hown hown2 hgrow
                exact ⟨k1.from _, k2, by rw [List.map_append]; exact k3, hB.trans k2⟩
              exact AllReadyIn.nil
            exact AllReadyIn.nil
          exact AllReadyIn.nil
        refine AllReadyIn.cons rfl (fun K hK => ?_) ?_
        next =>
          go_simp
          refine hK _ _ ?_
          clear hK K
          refine wpAnyIn_ready (rs := [0]) (by kernel_rfl) (by simp) ?_
          refine AllReadyIn.cons rfl (fun K hK => ?_) ?_
          next =>
            go_simp
            refine hK _ _ ?_
            clear hK K
            refine wpAnyIn_ready (rs := [4]) (by kernel_rfl) (by simp) ?_
            refine AllReadyIn.cons rfl (fun K hK => ?_) ?_
            next =>
              refine stepIn_append rfl _ _ _ (by rfl) w.heap.size 23 i0 _ 1 24 Try.underlying22 hi hz0 hz1 hz2 rfl (by omega) v qs.length (qs.map Pg.sl) (by rfl) (hrow1.alloc _)
                ⟨w1.heap.size, 0, none⟩ 1 1 [.slice A1 p.l.length c1] (by rfl) (by rfl) (World.news_of_block (cs := #[.slice A1 p.l.length c1]) (t := 23) (fr := (0, 0)) (heap_alloc_new w1 _)) (by simp [Value.oneCell']) (by omega) H63.out HBY.out (by simp; have := hbl.size; simp at this; omega) ?_
              intro gg cap w2 hown2 hgrow
              have hv2 := Boxed.kept (hv1.alloc (.cells #[.slice A1 p.l.length c1] 23)) hgrow (Boxed.not_row (hv1.alloc (.cells #[.slice A1 p.l.length c1] 23)) (by decide) (hrow1.alloc (.cells #[.slice A1 p.l.length c1] 23)))
              have hc2 := hv2.cell
              have hf2 := hv2.frozen
              refine hK _ _ ?_
              clear hK K
              refine wpAnyIn_ready (rs := [5]) (by kernel_rfl) (by simp) ?_
              refine AllReadyIn.cons rfl (fun K hK => ?_) ?_
              next =>
                go_simp
                refine hK _ _ ?_
                clear hK K
                refine wpAnyIn_done (by kernel_rfl) ?_ _
                gi_wp2
                obtain ⟨k1, k2, k3⟩ := Coll.step hv hrow hls HQ.out hn₀ (Nat.le_refl _) hbl hown hown2 hgrow
                exact ⟨k1.from _, k2, by rw [List.map_append]; exact k3, hB.trans k2⟩
              exact AllReadyIn.nil
            exact AllReadyIn.nil
          exact AllReadyIn.nil
        exact AllReadyIn.nil
      exact AllReadyIn.nil
    exact AllReadyIn.nil
  case done =>
    rintro D ys W hD hys ⟨⟨v, qs, hv, hrow, hls, hq⟩, hB⟩ hK
    have hc := hv.cell
    have hl2 : qs.map (·.l) = (wh ps).map (·.l) := by rw [hls, ← hys, List.map_map]; rfl
    gi_wp2
    refine ⟨by simp, .inl ⟨_, _, rfl, run_takeDeferred hK, ?_⟩⟩
    exact ⟨_, results_tmp rfl _ _ _, v, qs, rfl, ownsRow_putObj hrow _ hK rfl, hl2, fun q hm => ownsRow_putObj (hq q hm) _ hK rfl, hB.trans (belowK_b (w := w) (Nat.le_refl _) W D _ _ (by simp at hD; omega) hK rfl rfl)⟩
  case stop =>
    rintro D c pre W _ _ h _
    exact h.elim
end Go.Proofs.Ytbmodlhnkbohhaa
