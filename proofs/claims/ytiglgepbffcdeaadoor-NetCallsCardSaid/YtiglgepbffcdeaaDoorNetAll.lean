/- (*net.Net).All: all messages under way, as copies, in their order. -/
import Derived.Test.YtiglgepbffcdeaaDoorNetC
import Derived.Test.YtiglgepbffcdeaaDoorRango
namespace Go.Proofs.YtiglgepbffcdeaaDoor
open Go.RowKit Go.Shelf
set_option linter.unusedVariables false
attribute [local go_sem] Oper.semAt_some

/-- What All has collected. -/
structure CollM (w : World) (xs : List Mm) (W : World) : Prop where
  box : ∃ v, Boxed W w.heap.size 56 v ∧ W.ownsRow w.heap.size 34 16 v xs.length (mcells xs)
  dat : ∀ x ∈ xs, x.own W w.heap.size
  bel : Below w.heap.size w W
/-- All old rows of cells are as they were. -/
def KeepC (W W' : World) : Prop := ∀ (k : Nat) (cs : Array Value) (t : TypeId) (fr : Nat × Nat), W.heap[k]? = some (.cells cs t fr) → W'.heap[k]? = some (.cells cs t fr)
theorem KeepC.of_below {W W' : World} (h : Below W.heap.size W W') : KeepC W W' := fun k cs t fr hk => (h.block k (Array.getElem?_eq_some_iff.1 hk).1).trans hk
theorem KeepC.putObj (W : World) (l : Nat) (r : Loop) (o : Obj) (h : W.heap[l]? = some (.loop r)) : KeepC W (W.putObj l o) := fun k cs t fr hk => by
  rw [World.putObj_heap_other (fun e => by subst e; rw [h] at hk; cases hk)]
  exact hk
theorem KeepC.owns {W W' : World} (hk : KeepC W W') {base n size : Nat} {e : TypeId} {u : Value} {xs : List Value} (h : W.ownsRow base e size u n xs) : W'.ownsRow base e size u n xs := by
  refine ⟨h.1, ?_⟩
  rcases h.2 with hn | ⟨g, cap, cur, rfl, hb, hh, rest⟩
  · exact .inl hn
  · exact .inr ⟨g, cap, cur, rfl, hb, hk _ _ _ _ hh, rest⟩
theorem CollM.keep {w W W' : World} {xs : List Mm} (h : CollM w xs W) (hk : KeepC W W') (hb : Below w.heap.size w W') : CollM w xs W' := by
  obtain ⟨v, h1, h2⟩ := h.box
  exact ⟨⟨v, hk _ _ _ _ h1, hk.owns h2⟩, fun x hx => ⟨hk.owns (h.dat x hx).cd, hk.owns (h.dat x hx).va⟩, hb⟩
/-- What holds between the rounds. -/
structure AllJ (w : World) (g D : Nat) (r : Loop) (xs : List Mm) (W : World) : Prop where
  coll : CollM w xs W
  net : Boxed W (w.heap.size + 1) 24 (.pointer (some ⟨g, 0, none⟩))
  dfr : W.heap[D]? = some (.deferred (some []))
  rec_ : W.heap[D + 1]? = some (.loop r)
theorem AllJ.below {w W W' : World} {g D : Nat} {r : Loop} {xs : List Mm} (h : AllJ w g D r xs W) (hb : Below W.heap.size W W') : AllJ w g D r xs W' :=
  ⟨h.coll.keep (.of_below hb) (h.coll.bel.trans (hb.mono h.coll.bel.size)), (hb.block _ h.net.lt).trans h.net, (hb.block _ (Array.getElem?_eq_some_iff.1 h.dfr).1).trans h.dfr, (hb.block _ (Array.getElem?_eq_some_iff.1 h.rec_).1).trans h.rec_⟩
theorem AllJ.put {w W : World} {g D : Nat} {r r' : Loop} {xs : List Mm} (h : AllJ w g D r xs W) (hD : w.heap.size + 2 ≤ D) : AllJ w g D r' xs (W.putObj (D + 1) (.loop r')) := by
  have hb : Below w.heap.size w (W.putObj (D + 1) (.loop r')) := h.coll.bel.trans ⟨rfl, rfl, rfl, by simp, fun k hk => World.putObj_heap_other (by omega)⟩
  refine ⟨h.coll.keep (.putObj W _ r _ h.rec_) hb, (World.putObj_heap_other (by omega)).trans h.net, (World.putObj_heap_other (by omega)).trans h.dfr, World.putObj_heap_same (Array.getElem?_eq_some_iff.1 h.rec_).1⟩
theorem own_ge' {w : World} {base : Nat} {e : TypeId} {size n : Nat} {v : Value} {xs : List Value} (h : w.ownsRow base e size v n xs) {g : Nat} (hg : v.ownBlock = some g) : base ≤ g := by
  rcases h.2 with ⟨rfl, _⟩ | ⟨g', cap, cur, rfl, hb, hh, _⟩
  · simp [Value.ownBlock] at hg
  · have : g' = g := by simpa [Value.ownBlock] using hg
    omega
/-- One round's append. -/
theorem AllJ.next {w W w2 : World} {g D gg cap : Nat} {r : Loop} {xs : List Mm} {v : Value} {x : Mm} {o : Obj} (h : AllJ w g D r xs W) (hD : w.heap.size + 2 ≤ D) (hv : Boxed W w.heap.size 56 v) (hrow : W.ownsRow w.heap.size 34 16 v xs.length (mcells xs)) (hx : x.own W w.heap.size)
    (hown2 : w2.ownsRow w.heap.size 34 16 (.slice (some ⟨gg, 0, none⟩) (xs.length + 1) cap) (xs.length + 1) (mcells xs ++ x.cs)) (hgrow : (W.alloc o).grownBy w2 v.ownBlock) :
    AllJ w g D r (xs ++ [x]) (w2.setCell ⟨w.heap.size, 0, none⟩ (.slice (some ⟨gg, 0, none⟩) (xs.length + 1) cap)) ∧ Boxed w2 w.heap.size 56 v := by
  have hne : ∀ {k : Nat} {o' : Obj}, W.heap[k]? = some o' → (∀ cs fr, o' ≠ .cells cs 34 fr) → some k ≠ v.ownBlock := by
    intro k o' hk hc e
    rcases hrow.2 with ⟨rfl, _⟩ | ⟨gb, cp, cur, rfl, _, hh, _⟩
    · simp [Value.ownBlock] at e
    · have : k = gb := by simpa [Value.ownBlock] using e
      subst this
      rw [hk] at hh
      injection hh with hh
      exact hc _ _ hh
  have f1 : Fr (fun k => v.ownBlock = some k) W w2 := ((Fr.refl _ W).alloc o).grown hgrow (fun k hk _ => hk)
  have far : ∀ {k : Nat} {o' : Obj}, W.heap[k]? = some o' → (∀ cs fr, o' ≠ .cells cs 34 fr) → w2.heap[k]? = some o' := by
    intro k o' hk hc
    exact (f1.block k (Array.getElem?_eq_some_iff.1 hk).1 (fun e => hne hk hc e.symm)).trans hk
  have hv2 : Boxed w2 w.heap.size 56 v := far hv (fun cs fr e => by injection e with _ e2; exact absurd e2 (by decide))
  have f2 := fr_set w2 w.heap.size 0 (.slice (some ⟨gg, 0, none⟩) (xs.length + 1) cap)
  have keepB : ∀ {base n : Nat} {u : Value} {ys : List Value}, W.ownsRow base 5 1 u n ys → (w2.setCell ⟨w.heap.size, 0, none⟩ (.slice (some ⟨gg, 0, none⟩) (xs.length + 1) cap)).ownsRow base 5 1 u n ys := by
    intro base n u ys hu
    have h2 := f1.owns hu (fun k hk hm => owns_apart hu hrow (by decide) k hk hm)
    exact f2.owns h2 (info_apart h2 hv2 (by decide))
  have far2 : ∀ {k : Nat} {o' : Obj}, k ≠ w.heap.size → w2.heap[k]? = some o' → (w2.setCell ⟨w.heap.size, 0, none⟩ (.slice (some ⟨gg, 0, none⟩) (xs.length + 1) cap)).heap[k]? = some o' := fun hk h => (Below.heap_setCell w2 ⟨w.heap.size, 0, none⟩ _ _ hk).trans h
  refine ⟨⟨⟨⟨_, cell_set (i := 0) hv2 _, ?_⟩, ?_, ?_⟩, ?_, ?_, ?_⟩, hv2⟩
  · rw [mcells_app, mcells_one, List.length_append]
    exact f2.owns hown2 (info_apart hown2 hv2 (by decide))
  · intro y hy
    rcases List.mem_append.1 hy with hy | hy
    · exact ⟨keepB (h.coll.dat y hy).cd, keepB (h.coll.dat y hy).va⟩
    · rw [List.mem_singleton.1 hy]
      exact ⟨keepB hx.cd, keepB hx.va⟩
  · exact (h.coll.bel.trans (((Below.refl _ W).alloc h.coll.bel.size o).grown hgrow (by have := h.coll.bel.size; simp; omega) (fun q hq => own_ge' hrow hq))).setCell (p := ⟨w.heap.size, 0, none⟩) (Nat.le_refl _) _
  · exact far2 (by omega) (far h.net (fun cs fr e => by injection e with _ e2; exact absurd e2 (by decide)))
  · exact far2 (by omega) (far h.dfr (fun cs fr e => by cases e))
  · exact far2 (by omega) (far h.rec_ (fun cs fr e => by cases e))

set_option maxRecDepth 100000 in
set_option maxHeartbeats 8000000 in
theorem net_all {w : World} {n0 g : Nat} {v : Value} {ms : List Mm} (h : NetS w n0 g v ms) :
    Calls Tryd.prog 33 #[.pointer (some ⟨g, 0, none⟩)] w fun e w' => (∃ v' ys, e = .returned v' ∧ ys.map (·.m) = ms.map (·.m) ∧ w'.ownsRow w.heap.size 34 16 v' ys.length (mcells ys) ∧ ∀ x ∈ ys, x.own w' w.heap.size) ∧ Below w.heap.size w w' := by
  have hle := h.le
  refine (callsIn_wide (n := 6)).1 ?_
  refine callsIn_of_wp_marks Tryd.func33 rfl trivial ?_ rfl
  simp only [Tryd.ntmps33, List.size_toArray, List.length_cons, List.length_nil, Nat.reduceAdd, Nat.reduceSub, Array.replicate_succ, Array.replicate_zero, List.push_toArray, List.append_toArray, List.nil_append, List.cons_append]
  gi_wp2_with (refine ⟨trivial, ?_⟩; gi_at_call 77; refine (each_in Fence.wide _ trivial rfl _ _).mono ?_; rintro e w' ⟨rfl, rfl⟩)
  have bO := Boxed.new w 56 (.slice none 0 0)
  have bN := Boxed.new (w.alloc (.cells #[.slice none 0 0] 56)) 24 (.pointer (some ⟨g, 0, none⟩))
  rw [World.size_alloc] at bN
  obtain ⟨W0, hW0⟩ : ∃ W0, (w.alloc (.cells #[.slice none 0 0] 56)).alloc (.cells #[.pointer (some ⟨g, 0, none⟩)] 24) = W0 := ⟨_, rfl⟩
  have hB0 : Below w.heap.size w W0 := by rw [← hW0]; exact ((Below.refl _ w).alloc (Nat.le_refl _) _).alloc (by simp) _
  have hbO : Boxed W0 w.heap.size 56 (.slice none 0 0) := by rw [← hW0]; exact bO.alloc _
  have hsz : W0.heap.size = w.heap.size + 2 := by rw [← hW0]; simp
  rw [hW0] at bN ⊢
  have HN := Lib.hid h
  clear bO hW0 h
  refine range_outer rfl (by omega) (gf := 118) (lb := #[.pointer (some ⟨w.heap.size + 1, 0, none⟩)]) rfl trivial (enters_of Tryd.func118 (by kernel_rfl) rfl) ?_
  intro fn hfn rec hrec W1 hW1
  have hL1 : W1.heap[W0.heap.size + 1]? = some (.loop (rec .ready none)) := by
    rw [← hW1]; have := World.alloc_heap_new (W0.alloc (.deferred (some []))) (.loop (rec .ready none)); rwa [World.size_alloc] at this
  have hK1 : W1.heap[W0.heap.size]? = some (.deferred (some [])) := by
    rw [← hW1]; exact (Below.heap_alloc _ _ _ (by simp)).trans (World.alloc_heap_new W0 _)
  have hb1 : Below W0.heap.size W0 W1 := by
    rw [← hW1]; exact ((Below.refl _ W0).alloc (Nat.le_refl _) _).alloc (by simp) _
  have hJ1 : AllJ w g W0.heap.size (rec .ready none) [] W1 :=
    ⟨⟨⟨_, (hb1.block _ hbO.lt).trans hbO, World.ownsRow_nil _ _ _ _⟩, fun x hx => absurd hx (by simp), hB0.trans (hb1.mono hB0.size)⟩, (hb1.block _ bN.lt).trans bN, hK1, hL1⟩
  refine (each1_in Fence.wide _ trivial trivial rfl (by omega) (fun h => callsIn_wide.2 h) (W0.heap.size + 1) (w.heap.size + 1) HN.out (AllJ w g W0.heap.size (rec .ready none)) (fun pre W W' hj hb => hj.below hb) (fun pre W hj => hj.coll.bel) (fun pre W hj => hj.net.cell) ?round W1 hJ1).mono ?done
  case round =>
    rintro pre x W hj hx hlen
    obtain ⟨⟨a1, a2, a3, a4, a5, a6, a7, a8, a9, a10, a11, a12, a13, a14, a15, a16⟩, A1, c1, A2, c2⟩ := x
    have hl := hj.rec_
    have hy := run_yield (P := Tryd.prog) (args := #[(Mm.mk (Msg.mk a1 a2 a3 a4 a5 a6 a7 a8 a9 a10 a11 a12 a13 a14 a15 a16) A1 c1 A2 c2).val]) hl (by rw [hrec]; rfl)
    rw [hrec] at hy
    refine ⟨fn, _, _, _, hy, roundIn_of_wpIn hfn ?_⟩
    obtain ⟨HJ, HX, HL⟩ : Hid (AllJ w g W0.heap.size (rec .ready none) pre W) ∧ Hid ((Mm.mk (Msg.mk a1 a2 a3 a4 a5 a6 a7 a8 a9 a10 a11 a12 a13 a14 a15 a16) A1 c1 A2 c2).own W w.heap.size) ∧ Hid (pre.length < ms.length) := ⟨hj, hx, hlen⟩
    clear hy hl hj hx hlen hJ1 hb1 hL1 hK1 hW1
    gi_wp2
    generalize hWM : W.alloc _ = WM
    have hbM : Below W.heap.size W WM := by rw [← hWM]; exact (Below.refl _ _).alloc (Nat.le_refl _) _
    have hM : WM.heap[W.heap.size]? = some (.cells (mcs a1 a2 a3 a4 a5 a6 a7 a8 (.slice A1 a9.length c1) a10 a11 (.slice A2 a12.length c2) a13 a14 a15 a16) 34 (0, 0)) := by rw [← hWM]; exact heap_alloc_new W _
    have hjM := HJ.out.below hbM
    have hxM : (Mm.mk (Msg.mk a1 a2 a3 a4 a5 a6 a7 a8 a9 a10 a11 a12 a13 a14 a15 a16) A1 c1 A2 c2).own WM w.heap.size := ⟨owns_keep HX.out.cd hbM, owns_keep HX.out.va hbM⟩
    have hbr := run_beginRound (P := Tryd.prog) hjM.rec_ (by rw [hrec])
    have hj2 := hjM.put (by omega) (r' := { rec .ready none with state := .busy })
    have hkc : KeepC WM (WM.putObj (W0.heap.size + 1) (.loop { rec .ready none with state := .busy })) := KeepC.putObj WM _ _ _ hjM.rec_
    rw [hrec] at hbr
    refine ⟨_, hbr, ?_⟩
    rw [hrec] at hj2 hkc
    generalize hW2 : WM.putObj _ _ = W2 at hj2 hkc ⊢
    have hM2 := hkc _ _ _ _ hM
    have hx2 : (Mm.mk (Msg.mk a1 a2 a3 a4 a5 a6 a7 a8 a9 a10 a11 a12 a13 a14 a15 a16) A1 c1 A2 c2).own W2 w.heap.size := ⟨hkc.owns hxM.cd, hkc.owns hxM.va⟩
    obtain ⟨vr, hbx, hrow⟩ := hj2.coll.box
    obtain ⟨Ar, cr, rfl⟩ := own_form hrow
    have hc2 := hbx.cell
    have hld2 := ldR_row (P := Tryd.prog) 34 W2 W.heap.size 34 (mcs a1 a2 a3 a4 a5 a6 a7 a8 (.slice A1 a9.length c1) a10 a11 (.slice A2 a12.length c2) a13 a14 a15 a16) (0, 0) _ hM2 Tryd.underlying34 rfl (by kernel_rfl)
    have H63 : Hid (pre.length + 1 ≤ maxLen) := by have := HL.out; unfold maxLen; show _ ≤ _; omega
    have HBY : Hid ((pre.length + 1) * 160 ≤ 140737488355328) := by have := HL.out; show _ ≤ _; omega
    have HSZ : Hid (w.heap.size ≤ (W2.alloc (.cells (mcs a1 a2 a3 a4 a5 a6 a7 a8 (.slice A1 a9.length c1) a10 a11 (.slice A2 a12.length c2) a13 a14 a15 a16) 34)).heap.size) := by have := hj2.coll.bel.size; show _ ≤ _; simp; omega
    have HROW := Lib.hid hrow
    have HJ2 := Lib.hid hj2
    have HX2 := Lib.hid hx2
    have HBX := Lib.hid hbx
    clear hWM hbM hM hjM hxM hbr hkc hM2 hx2 hrow hj2 hbx hW2
    gi_wp2_with (gi_at_builtin; obtain ⟨i0, hi0, hy0, hy1, hy2⟩ := info_parts info_msg; refine wpListIn_append_own _ rfl _ _ 56 rfl w.heap.size 34 i0 _ 16 160 Tryd.underlying56 hi0 hy0 hy1 hy2 rfl (by decide) (.slice Ar pre.length cr) pre.length (mcells pre) rfl (HROW.out.alloc _) ⟨W2.heap.size, 0, none⟩ 1 1 (mcs a1 a2 a3 a4 a5 a6 a7 a8 (.slice A1 a9.length c1) a10 a11 (.slice A2 a12.length c2) a13 a14 a15 a16).toList rfl rfl (World.news_of_block (t := 34) (fr := (0, 0)) (heap_alloc_new W2 _)) (by simp [Value.oneCell']) H63.out HBY.out HSZ.out ?_; intro v' w2 hown5 hgrow5 hnil5; obtain ⟨g6, c6, rfl⟩ := ownsRow_succ hown5; obtain ⟨hj6, hb6⟩ := AllJ.next HJ2.out (by omega) HBX.out HROW.out HX2.out hown5 hgrow5; have ckb := hb6.cell; have fkb := hb6.frozen; have HJ6 := Lib.hid hj6; clear hi0 hy0 hy1 hy2 i0 hgrow5 hown5 hnil5 hb6 hj6)
    have her := run_endRound (P := Tryd.prog) none HJ6.out.rec_
    have hj7 := HJ6.out.put (by omega) (r' := rec .ready none)
    rw [← hsz]
    refine ⟨_, _, her, rfl, ?_⟩
    rw [hrec] at hj7
    exact hj7
  case done =>
    rintro e W2 ⟨⟨v', rfl⟩, ys, hys, hJ2⟩
    refine ⟨none, _, by have := run_endLoop (P := Tryd.prog) hJ2.rec_ (by rw [hrec]; simp); rw [hrec] at this; exact this, ?_⟩
    have hJ3 := hJ2.put (by omega) (r' := { rec .ready none with state := .exhausted })
    rw [hrec] at hJ3
    generalize hW3 : W2.putObj _ _ = W3 at hJ3 ⊢
    obtain ⟨vr, hbx, hrow⟩ := hJ3.coll.box
    have hdat := hJ3.coll.dat
    have hbel := hJ3.coll.bel
    have hK := hJ3.dfr
    have hc1 := hbx.cell
    obtain ⟨Ar, cr, rfl⟩ := own_form hrow
    clear hW3 hJ2 hJ3 hbx hL1 hK1 hW1 hb1 hJ1
    have HR := Lib.hid hrow
    have HD := Lib.hid hdat
    have HB := Lib.hid hbel
    have HY := Lib.hid hys
    clear hrow hdat hbel hys
    gi_wp2
    refine ⟨by simp, .inl ⟨_, _, rfl, run_takeDeferred (by rw [← hsz]; exact hK), ?_⟩⟩
    rw [← hsz]
    have hkp : KeepC W3 (W3.putObj W0.heap.size (.deferred none)) := by
      intro k cs t fr hk
      rw [World.putObj_heap_other (fun e => by subst e; rw [hK] at hk; cases hk)]
      exact hk
    refine ⟨_, results_tmp (t := 2) rfl _ _ _, ⟨_, ys, rfl, HY.out, hkp.owns HR.out, fun x hx => ⟨hkp.owns (HD.out x hx).cd, hkp.owns (HD.out x hx).va⟩⟩, ?_⟩
    exact HB.out.trans (belowK_b (w := w) (Nat.le_refl _) W3 W0.heap.size _ _ (by omega) hK rfl rfl)
end Go.Proofs.YtiglgepbffcdeaaDoor
