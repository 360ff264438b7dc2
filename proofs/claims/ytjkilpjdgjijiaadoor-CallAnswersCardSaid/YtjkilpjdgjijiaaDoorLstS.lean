/- octet.List: of texts. -/
import Derived.Test.YtjkilpjdgjijiaaDoorLst
namespace Go.Proofs.YtjkilpjdgjijiaaDoor
open Go.RowKit Go.Shelf
set_option linter.unusedVariables false
attribute [local go_sem] Oper.semAt_some
theorem info_strL : (Tryd.prog.info? 9).map (fun i => (i.zero, i.size, i.bytes)) = some (some (.string ByteArray.empty), 1, 16) := by kernel_rfl
set_option maxRecDepth 100000 in
set_option maxHeartbeats 8000000 in
theorem list_texts {w : World} {g most : Nat} {s : PS} {β : Type} (one : PS → β × PS) (pl : ByteArray → β) (h : Rd w g s) (hl : psLen s ≤ 1000000) (hm : most ≤ 1000) (hps : ∀ l, psLen (one (some l)).2 ≤ psLen (some l))
    (hone : ∀ W ls, Rd W g (some ls) → psLen (some ls) ≤ 1000000 → Calls Tryd.prog 34 #[.pointer (some ⟨g, 0, none⟩)] W fun e W' => ∃ b7, e = .returned (.string b7) ∧ pl b7 = (one (some ls)).1 ∧ DatOk 3 (fun _ : ByteArray => none) W' W.heap.size b7 ∧ Rd W' g (one (some ls)).2 ∧ Fr (fun k => k = g) W W') :
    Calls Tryd.prog 33 #[.pointer (some ⟨g, 0, none⟩), .int .i64 (most : Int), .func (.func 34) #[] #[]] w (Listed 9 3 Value.string (fun _ : ByteArray => none) pl w g (plist most one s)) := by
  obtain ⟨q, s1, hcnt⟩ := isCount most s
  have heq : ∀ W, Sem.run Tryd.prog (binOp BinOp.eql 68 (Value.func (Fn.func 34) #[] #[]) Value.nilFunc) W = .ok (.bool false) W := fun W => rfl
  have hq : q ≤ 1000 := Nat.le_trans hcnt.le hm
  have hl1 := Nat.le_trans hcnt.len hl
  have HC := Lib.hid hcnt
  have HP : Hid (plist most one s = if (pmany one q s1).2 = none then ([], none) else pmany one q s1) := by
    show _ = _
    unfold plist
    rw [show pcount most s = (q, s1) from hcnt]
  have HPS := Lib.hid hps
  have HON := Lib.hid hone
  have bR := Boxed.new w 54 (.pointer (some ⟨g, 0, none⟩))
  have bF := Boxed.new (w.alloc (.cells #[.pointer (some ⟨g, 0, none⟩)] 54)) 68 (.func (.func 34) #[] #[])
  rw [World.size_alloc] at bF
  have bR2 := bR.alloc (.cells #[.func (.func 34) #[] #[]] 68)
  obtain ⟨X0, hX0⟩ : ∃ X, (w.alloc (.cells #[.pointer (some ⟨g, 0, none⟩)] 54)).alloc (.cells #[.func (.func 34) #[] #[]] 68) = X := ⟨_, rfl⟩
  have hb0 : Below w.heap.size w X0 := by rw [← hX0]; exact ((Below.refl _ w).alloc (Nat.le_refl _) _).alloc (by simp) _
  have hs0 : X0.heap.size = w.heap.size + 2 := by rw [← hX0]; simp
  rw [hX0] at bF bR2
  have HX0 := Lib.hid hX0
  have hgw := h.lt
  have HR0 := Lib.hid (h.below hb0)
  have LTY : Hid (LTy 28 9 3) := Lib.hid ⟨by decide, by decide, by decide, by decide, by decide, by decide, by decide, by decide⟩
  clear hcnt hps hone h bR hX0
  refine (callsIn_wide (n := 6)).1 ?_
  refine callsIn_of_wp_marks Tryd.func33 rfl trivial ?_ rfl
  simp only [Tryd.ntmps33, List.size_toArray, List.length_cons, List.length_nil, Nat.reduceAdd, Nat.reduceSub, Array.replicate_succ, Array.replicate_zero, List.push_toArray, List.append_toArray, List.nil_append, List.cons_append]
  gi_wp2_with fail
  refine ⟨trivial, ?_⟩
  gi_at_call 57
  rw [HX0.out]
  refine (callsIn_wide.2 (told_is HR0.out HC.out (by omega) (by omega))).mono ?_
  rintro e w1 ⟨rfl, hr1, hf1⟩
  have hb1R := (Off.one HR0.out.rb.choose_spec (by decide)).cells hf1 bR2
  have hb1F := (Off.one HR0.out.rb.choose_spec (by decide)).cells hf1 bF
  have hc1 := Boxed.cell hb1F
  have hc2 := Boxed.cell hb1R
  have hs1 := hf1.size
  have hz1 : w.heap.size < w1.heap.size := by omega
  have hz2 : w.heap.size + 1 < w1.heap.size := by omega
  have HF1 := Lib.hid hf1
  have HR1 := Lib.hid hr1
  have HB1R := Lib.hid hb1R
  have HB1F := Lib.hid hb1F
  clear hf1 hr1 hb1R hb1F
  gi_wp2_with fail
  refine ⟨trivial, ?_⟩
  gi_at_call 58
  refine (turns_inL Fence.wide _ trivial rfl _ _ _).mono ?_
  rintro e w' ⟨rfl, rfl⟩
  clear hc1 hc2
  gi_wp2_with fail
  obtain ⟨Bo, hBo⟩ : ∃ b, w1.heap.size = b := ⟨_, rfl⟩
  have bo := Boxed.new w1 28 (.slice none 0 0)
  have bq := Boxed.new (w1.alloc (.cells #[.slice none 0 0] 28)) 54 (.pointer (some ⟨g, 0, none⟩))
  have bn := Boxed.new ((w1.alloc (.cells #[.slice none 0 0] 28)).alloc (.cells #[.pointer (some ⟨g, 0, none⟩)] 54)) 3 (.int .i64 (q : Int))
  simp only [World.size_alloc] at bo bq bn ⊢
  have hbW : Below w1.heap.size w1 (((w1.alloc (.cells #[.slice none 0 0] 28)).alloc (.cells #[.pointer (some ⟨g, 0, none⟩)] 54)).alloc (.cells #[.int .i64 (q : Int)] 3)) := (((Below.refl _ w1).alloc (Nat.le_refl _) _).alloc (by simp) _).alloc (by simp; omega) _
  have hz : (((w1.alloc (.cells #[.slice none 0 0] 28)).alloc (.cells #[.pointer (some ⟨g, 0, none⟩)] 54)).alloc (.cells #[.int .i64 (q : Int)] 3)).heap.size = w1.heap.size + 3 := by simp
  have bo2 := (bo.alloc (.cells #[.pointer (some ⟨g, 0, none⟩)] 54)).alloc (.cells #[.int .i64 (q : Int)] 3)
  have bq2 := bq.alloc (.cells #[.int .i64 (q : Int)] 3)
  obtain ⟨W0, hW0⟩ : ∃ X, ((w1.alloc (.cells #[.slice none 0 0] 28)).alloc (.cells #[.pointer (some ⟨g, 0, none⟩)] 54)).alloc (.cells #[.int .i64 (q : Int)] 3) = X := ⟨_, rfl⟩
  rw [hW0] at hbW hz bo2 bq2 bn ⊢
  have bR0 : Boxed W0 w.heap.size 54 (.pointer (some ⟨g, 0, none⟩)) := (hbW.block _ hz1).trans HB1R.out
  have bF0 : Boxed W0 (w.heap.size + 1) 68 (.func (.func 34) #[] #[]) := (hbW.block _ hz2).trans HB1F.out
  have hr0 := HR1.out.below hbW
  have HFW : Hid (Fr (fun k => k = g) w W0) := Lib.hid ((((Fr.of_below (M := fun _ => False) hb0).mono (fun _ _ x => x.elim)).trans HF1.out (fun _ _ e => e)).thenBelow hbW)
  rw [hBo] at bo2 bq2 bn hz hz1 hz2 ⊢
  have hgBo : g ≠ Bo := by omega
  clear hz
  clear bo bq hbW hW0 HB1R HB1F HF1 HR1 HR0 HX0 bR2 bF hb0
  have HOK := Lib.hid (And.intro bo2 (And.intro bq2 (And.intro bn (And.intro bR0 (And.intro bF0 hr0)))))
  clear bo2 bq2 bn bR0 bF0 hr0
  refine range_outer rfl (by omega) (gf := 73) (lb := #[.pointer (some ⟨Bo + 1 + 1, 0, none⟩), .pointer (some ⟨Bo + 1, 0, none⟩)]) rfl trivial (enters_of Tryd.func73 (by kernel_rfl) rfl) ?_
  intro fn hfn rec hrec W1 hW1
  have hL1 : W1.heap[W0.heap.size + 1]? = some (.loop (rec .ready none)) := by
    rw [← hW1]; have := World.alloc_heap_new (W0.alloc (.deferred (some []))) (.loop (rec .ready none)); rwa [World.size_alloc] at this
  have hK1 : W1.heap[W0.heap.size]? = some (.deferred (some [])) := by
    rw [← hW1]; exact (Below.heap_alloc _ _ _ (by simp)).trans (World.alloc_heap_new W0 _)
  have hb1 : Below W0.heap.size W0 W1 := by
    rw [← hW1]; exact ((Below.refl _ W0).alloc (Nat.le_refl _) _).alloc (by simp) _
  have hJ1 : LS 28 9 3 Value.string (fun _ : ByteArray => none) W0 g Bo (rec .ready none) [] s1 W1 :=
    ⟨(Fr.of_below hb1), ⟨_, (hb1.block _ HOK.out.1.lt).trans HOK.out.1, World.ownsRow_nil _ _ _ _⟩, fun x hx => absurd hx (by simp), HOK.out.2.2.2.2.2.below hb1, hK1, hL1⟩
  clear hL1 hK1 hb1 hW1
  refine (turns1_any Fence.wide _ trivial rfl (by omega) (W0.heap.size + 1) (Bo + 1 + 1) (Bo + 1) g q (by omega) (fun pre s W => LS 28 9 3 Value.string (fun _ : ByteArray => none) W0 g Bo (rec .ready none) pre s W ∧ pmany one pre.length s1 = (pre.map pl, s) ∧ psLen s ≤ 1000000)
    (fun pre s W hj => hj.1.rd) (fun pre s W hj => Boxed.cell (hj.1.fr.cells HOK.out.2.2.1 (by rintro (e | e) <;> omega))) (fun pre s W hj => Boxed.cell (hj.1.fr.cells HOK.out.2.1 (by rintro (e | e) <;> omega))) ?round W1 s1 ⟨hJ1, rfl, hl1⟩).mono ?done
  case round =>
    rintro pre ls W ⟨hj, hpm, hpl⟩ hlt
    have hl := hj.rec_
    have hy := run_yield (P := Tryd.prog) (args := #[.int .i64 (pre.length : Int)]) hl (by rw [hrec]; rfl)
    rw [hrec] at hy
    refine ⟨fn, _, _, _, hy, roundIn_of_wpIn hfn ?_⟩
    obtain ⟨HJ, HPM, HLT⟩ : Hid (LS 28 9 3 Value.string (fun _ : ByteArray => none) W0 g Bo (rec .ready none) pre (some ls) W) ∧ Hid (pmany one pre.length s1 = (pre.map pl, some ls)) ∧ Hid (pre.length < q) := ⟨hj, hpm, hlt⟩
    clear hy hl hj hpm hlt hJ1
    gi_wp2
    have hbr := run_beginRound (P := Tryd.prog) HJ.out.rec_ (by rw [hrec])
    have hj2 := HJ.out.put (r' := { rec .ready none with state := .busy })
    rw [hrec] at hbr
    refine ⟨_, hbr, ?_⟩
    rw [hrec] at hj2
    generalize hW2 : W.putObj _ _ = W2 at hj2 ⊢
    obtain ⟨vr, hbx, hrow⟩ := hj2.out
    obtain ⟨Ar, cr, rfl⟩ := own_form hrow
    have hcO := hbx.cell
    have hcF := Boxed.cell (hj2.fr.cells HOK.out.2.2.2.2.1 (by rintro (e | e) <;> omega))
    have hcR := Boxed.cell (hj2.fr.cells HOK.out.2.2.2.1 (by rintro (e | e) <;> omega))
    have hjd := hj2.below ((Below.refl _ W2).drew)
    obtain ⟨xr, hxr⟩ := hj2.rd.rb
    have HRB : Hid (W2.drew.heap[g]? = some (.cells xr 99 (0, 0))) := Lib.hid hxr
    have HBX : Hid (Boxed W2.drew Bo 28 (.slice Ar pre.length cr)) := Lib.hid hbx
    have HROW : Hid (W2.drew.ownsRow W0.heap.size 9 1 (.slice Ar pre.length cr) pre.length (pre.map Value.string)) := Lib.hid hrow
    have HONE := Lib.hid (HON.out W2.drew ls hjd.rd hpl)
    have HJD := Lib.hid hjd
    have H63 : Hid (pre.length + 1 ≤ maxLen) := Lib.hid (by have := HLT.out; unfold maxLen; omega)
    have HBY : Hid ((pre.length + 1) * 16 ≤ 140737488355328) := Lib.hid (by have := HLT.out; omega)
    have HPS2 : Hid (psLen (one (some ls)).2 ≤ 1000000) := Lib.hid (Nat.le_trans (HPS.out ls) hpl)
    clear hbr hj2 hbx hrow hjd hxr hW2
    gi_wp2
    refine wpIn_region_any (by kernel_rfl) ?_
    change wpAnyIn _ _ _ _ _ _ _ _ _ (World.drew _)
    obtain ⟨i0, hi, hz0, hz1, hz2⟩ := info_parts info_strL
    refine wpAnyIn_ready (rs := [0, 1, 2]) (by kernel_rfl) (by simp) ?_
    refine AllReadyIn.cons rfl (fun K hK => ?_) ?_
    next =>
      go_simp
      refine hK _ _ ?_
      clear hK K
      refine wpAnyIn_ready (rs := [1, 2]) (by kernel_rfl) (by simp) ?_
      refine AllReadyIn.cons rfl (fun K hK => ?_) ?_
      next =>
        go_simp
        refine hK _ _ ?_
        clear hK K
        refine wpAnyIn_ready (rs := [2]) (by kernel_rfl) (by simp) ?_
        refine AllReadyIn.cons rfl (fun K hK => ?_) ?_
        next =>
          go_simp
          refine hK _ _ ?_
          clear hK K
          refine wpAnyIn_ready (rs := [3]) (by kernel_rfl) (by simp) ?_
          refine AllReadyIn.cons rfl (fun K hK => ?_) ?_
          next =>
            go_simp
            refine ⟨trivial, ?_⟩
            refine (CallsIn.inRound _ (callsIn_wide.2 HONE.out)).mono ?_
            rintro e w1 ⟨b7, rfl, hpl, hdx, hr1, hf1⟩
            have hj1 := HJD.out.read LTY.out hf1 hr1
            have hbx1 : Boxed w1 Bo 28 (.slice Ar pre.length cr) := (Off.one HRB.out (by decide)).cells hf1 HBX.out
            have hrow1 := (Off.one HRB.out (by decide)).row hf1 HROW.out
            have hcw := hbx1.cell
            have hcb := (hbx1.alloc (.cells #[.string b7] 9)).cell
            have h1f := hj1.fr.size
            have HJ1 := Lib.hid hj1
            have HDX := Lib.hid (hdx.low HJD.out.fr.size)
            have HPL := Lib.hid hpl
            have HB1 := Lib.hid hbx1
            have HR1 := Lib.hid hrow1
            clear hj1 hdx hpl hbx1 hrow1 hr1 hf1
            go_simp
            refine hK _ _ ?_
            clear hK K
            refine wpAnyIn_ready (rs := [4]) (by kernel_rfl) (by simp) ?_
            refine AllReadyIn.cons rfl (fun K hK => ?_) ?_
            next =>
              go_simp
              refine hK _ _ ?_
              clear hK K
              refine wpAnyIn_ready (rs := [5]) (by kernel_rfl) (by simp) ?_
              refine AllReadyIn.cons rfl (fun K hK => ?_) ?_
              next =>
                refine stepIn_appendL rfl _ _ _ (by rfl) W0.heap.size 9 i0 _ 1 16 Tryd.underlying28 hi hz0 hz1 hz2 rfl (by omega) (.slice Ar pre.length cr) pre.length (pre.map Value.string) (by rfl) (HR1.out.alloc _)
                  ⟨w1.heap.size, 0, none⟩ 1 1 [.string b7] (by rfl) (by rfl) (World.news_of_block (cs := #[.string b7]) (t := 9) (fr := (0, 0)) (heap_alloc_new w1 _)) (by simp [Value.oneCell']) (by omega) H63.out HBY.out (by simp; omega) ?_
                intro gg cap w2 hown2 hgrow
                have hv2 := Boxed.kept (Boxed.alloc HB1.out (.cells #[.string b7] 9)) hgrow (Boxed.not_row (Boxed.alloc HB1.out (.cells #[.string b7] 9)) (by decide) (HR1.out.alloc (.cells #[.string b7] 9)))
                have hc2 := hv2.cell
                have hf2 := hv2.frozen
                have HO2 := Lib.hid hown2
                have HG2 := Lib.hid hgrow
                clear hv2 hown2 hgrow
                refine hK _ _ ?_
                clear hK K
                refine wpAnyIn_ready (rs := [6]) (by kernel_rfl) (by simp) ?_
                refine AllReadyIn.cons rfl (fun K hK => ?_) ?_
                next =>
                  go_simp
                  refine hK _ _ ?_
                  clear hK K
                  refine wpAnyIn_done (by kernel_rfl) ?_ _
                  gi_wp2
                  have hj6 := HJ1.out.next (x := b7) LTY.out HB1.out HR1.out HDX.out HO2.out HG2.out
                  have her := run_endRound (P := Tryd.prog) none hj6.rec_
                  have hj7 := hj6.put (r' := rec .ready none)
                  rw [hrec] at hj7
                  refine ⟨_, _, her, rfl, b7, _, ?_, ?_, HPS2.out⟩
                  · rw [hrec]; exact hj7
                  · rw [List.length_append, List.length_singleton, List.map_append, pmany_snoc one _ _ _ _ HPM.out]; exact Prod.ext (congrArg (pre.map pl ++ [·]) HPL.out.symm) rfl
                exact AllReadyIn.nil
              exact AllReadyIn.nil
            exact AllReadyIn.nil
          exact AllReadyIn.nil
        exact AllReadyIn.nil
      refine AllReadyIn.cons rfl (fun K hK => ?_) ?_
      next =>
        go_simp
        refine hK _ _ ?_
        clear hK K
        refine wpAnyIn_ready (rs := [1]) (by kernel_rfl) (by simp) ?_
        refine AllReadyIn.cons rfl (fun K hK => ?_) ?_
        next =>
          go_simp
          refine hK _ _ ?_
          clear hK K
          refine wpAnyIn_ready (rs := [3]) (by kernel_rfl) (by simp) ?_
          refine AllReadyIn.cons rfl (fun K hK => ?_) ?_
          next =>
            go_simp
            refine ⟨trivial, ?_⟩
            refine (CallsIn.inRound _ (callsIn_wide.2 HONE.out)).mono ?_
            rintro e w1 ⟨b7, rfl, hpl, hdx, hr1, hf1⟩
            have hj1 := HJD.out.read LTY.out hf1 hr1
            have hbx1 : Boxed w1 Bo 28 (.slice Ar pre.length cr) := (Off.one HRB.out (by decide)).cells hf1 HBX.out
            have hrow1 := (Off.one HRB.out (by decide)).row hf1 HROW.out
            have hcw := hbx1.cell
            have hcb := (hbx1.alloc (.cells #[.string b7] 9)).cell
            have h1f := hj1.fr.size
            have HJ1 := Lib.hid hj1
            have HDX := Lib.hid (hdx.low HJD.out.fr.size)
            have HPL := Lib.hid hpl
            have HB1 := Lib.hid hbx1
            have HR1 := Lib.hid hrow1
            clear hj1 hdx hpl hbx1 hrow1 hr1 hf1
            go_simp
            refine hK _ _ ?_
            clear hK K
            refine wpAnyIn_ready (rs := [4]) (by kernel_rfl) (by simp) ?_
            refine AllReadyIn.cons rfl (fun K hK => ?_) ?_
            next =>
              go_simp
              refine hK _ _ ?_
              clear hK K
              refine wpAnyIn_ready (rs := [5]) (by kernel_rfl) (by simp) ?_
              refine AllReadyIn.cons rfl (fun K hK => ?_) ?_
              next =>
                refine stepIn_appendL rfl _ _ _ (by rfl) W0.heap.size 9 i0 _ 1 16 Tryd.underlying28 hi hz0 hz1 hz2 rfl (by omega) (.slice Ar pre.length cr) pre.length (pre.map Value.string) (by rfl) (HR1.out.alloc _)
                  ⟨w1.heap.size, 0, none⟩ 1 1 [.string b7] (by rfl) (by rfl) (World.news_of_block (cs := #[.string b7]) (t := 9) (fr := (0, 0)) (heap_alloc_new w1 _)) (by simp [Value.oneCell']) (by omega) H63.out HBY.out (by simp; omega) ?_
                intro gg cap w2 hown2 hgrow
                have hv2 := Boxed.kept (Boxed.alloc HB1.out (.cells #[.string b7] 9)) hgrow (Boxed.not_row (Boxed.alloc HB1.out (.cells #[.string b7] 9)) (by decide) (HR1.out.alloc (.cells #[.string b7] 9)))
                have hc2 := hv2.cell
                have hf2 := hv2.frozen
                have HO2 := Lib.hid hown2
                have HG2 := Lib.hid hgrow
                clear hv2 hown2 hgrow
                refine hK _ _ ?_
                clear hK K
                refine wpAnyIn_ready (rs := [6]) (by kernel_rfl) (by simp) ?_
                refine AllReadyIn.cons rfl (fun K hK => ?_) ?_
                next =>
                  go_simp
                  refine hK _ _ ?_
                  clear hK K
                  refine wpAnyIn_done (by kernel_rfl) ?_ _
                  gi_wp2
                  have hj6 := HJ1.out.next (x := b7) LTY.out HB1.out HR1.out HDX.out HO2.out HG2.out
                  have her := run_endRound (P := Tryd.prog) none hj6.rec_
                  have hj7 := hj6.put (r' := rec .ready none)
                  rw [hrec] at hj7
                  refine ⟨_, _, her, rfl, b7, _, ?_, ?_, HPS2.out⟩
                  · rw [hrec]; exact hj7
                  · rw [List.length_append, List.length_singleton, List.map_append, pmany_snoc one _ _ _ _ HPM.out]; exact Prod.ext (congrArg (pre.map pl ++ [·]) HPL.out.symm) rfl
                exact AllReadyIn.nil
              exact AllReadyIn.nil
            exact AllReadyIn.nil
          exact AllReadyIn.nil
        exact AllReadyIn.nil
      exact AllReadyIn.nil
    refine AllReadyIn.cons rfl (fun K hK => ?_) ?_
    next =>
      go_simp
      refine hK _ _ ?_
      clear hK K
      refine wpAnyIn_ready (rs := [0, 2]) (by kernel_rfl) (by simp) ?_
      refine AllReadyIn.cons rfl (fun K hK => ?_) ?_
      next =>
        go_simp
        refine hK _ _ ?_
        clear hK K
        refine wpAnyIn_ready (rs := [2]) (by kernel_rfl) (by simp) ?_
        refine AllReadyIn.cons rfl (fun K hK => ?_) ?_
        next =>
          go_simp
          refine hK _ _ ?_
          clear hK K
          refine wpAnyIn_ready (rs := [3]) (by kernel_rfl) (by simp) ?_
          refine AllReadyIn.cons rfl (fun K hK => ?_) ?_
          next =>
            go_simp
            refine ⟨trivial, ?_⟩
            refine (CallsIn.inRound _ (callsIn_wide.2 HONE.out)).mono ?_
            rintro e w1 ⟨b7, rfl, hpl, hdx, hr1, hf1⟩
            have hj1 := HJD.out.read LTY.out hf1 hr1
            have hbx1 : Boxed w1 Bo 28 (.slice Ar pre.length cr) := (Off.one HRB.out (by decide)).cells hf1 HBX.out
            have hrow1 := (Off.one HRB.out (by decide)).row hf1 HROW.out
            have hcw := hbx1.cell
            have hcb := (hbx1.alloc (.cells #[.string b7] 9)).cell
            have h1f := hj1.fr.size
            have HJ1 := Lib.hid hj1
            have HDX := Lib.hid (hdx.low HJD.out.fr.size)
            have HPL := Lib.hid hpl
            have HB1 := Lib.hid hbx1
            have HR1 := Lib.hid hrow1
            clear hj1 hdx hpl hbx1 hrow1 hr1 hf1
            go_simp
            refine hK _ _ ?_
            clear hK K
            refine wpAnyIn_ready (rs := [4]) (by kernel_rfl) (by simp) ?_
            refine AllReadyIn.cons rfl (fun K hK => ?_) ?_
            next =>
              go_simp
              refine hK _ _ ?_
              clear hK K
              refine wpAnyIn_ready (rs := [5]) (by kernel_rfl) (by simp) ?_
              refine AllReadyIn.cons rfl (fun K hK => ?_) ?_
              next =>
                refine stepIn_appendL rfl _ _ _ (by rfl) W0.heap.size 9 i0 _ 1 16 Tryd.underlying28 hi hz0 hz1 hz2 rfl (by omega) (.slice Ar pre.length cr) pre.length (pre.map Value.string) (by rfl) (HR1.out.alloc _)
                  ⟨w1.heap.size, 0, none⟩ 1 1 [.string b7] (by rfl) (by rfl) (World.news_of_block (cs := #[.string b7]) (t := 9) (fr := (0, 0)) (heap_alloc_new w1 _)) (by simp [Value.oneCell']) (by omega) H63.out HBY.out (by simp; omega) ?_
                intro gg cap w2 hown2 hgrow
                have hv2 := Boxed.kept (Boxed.alloc HB1.out (.cells #[.string b7] 9)) hgrow (Boxed.not_row (Boxed.alloc HB1.out (.cells #[.string b7] 9)) (by decide) (HR1.out.alloc (.cells #[.string b7] 9)))
                have hc2 := hv2.cell
                have hf2 := hv2.frozen
                have HO2 := Lib.hid hown2
                have HG2 := Lib.hid hgrow
                clear hv2 hown2 hgrow
                refine hK _ _ ?_
                clear hK K
                refine wpAnyIn_ready (rs := [6]) (by kernel_rfl) (by simp) ?_
                refine AllReadyIn.cons rfl (fun K hK => ?_) ?_
                next =>
                  go_simp
                  refine hK _ _ ?_
                  clear hK K
                  refine wpAnyIn_done (by kernel_rfl) ?_ _
                  gi_wp2
                  have hj6 := HJ1.out.next (x := b7) LTY.out HB1.out HR1.out HDX.out HO2.out HG2.out
                  have her := run_endRound (P := Tryd.prog) none hj6.rec_
                  have hj7 := hj6.put (r' := rec .ready none)
                  rw [hrec] at hj7
                  refine ⟨_, _, her, rfl, b7, _, ?_, ?_, HPS2.out⟩
                  · rw [hrec]; exact hj7
                  · rw [List.length_append, List.length_singleton, List.map_append, pmany_snoc one _ _ _ _ HPM.out]; exact Prod.ext (congrArg (pre.map pl ++ [·]) HPL.out.symm) rfl
                exact AllReadyIn.nil
              exact AllReadyIn.nil
            exact AllReadyIn.nil
          exact AllReadyIn.nil
        exact AllReadyIn.nil
      refine AllReadyIn.cons rfl (fun K hK => ?_) ?_
      next =>
        go_simp
        refine hK _ _ ?_
        clear hK K
        refine wpAnyIn_ready (rs := [0, 3]) (by kernel_rfl) (by simp) ?_
        refine AllReadyIn.cons rfl (fun K hK => ?_) ?_
        next =>
          go_simp
          refine hK _ _ ?_
          clear hK K
          refine wpAnyIn_ready (rs := [3]) (by kernel_rfl) (by simp) ?_
          refine AllReadyIn.cons rfl (fun K hK => ?_) ?_
          next =>
            go_simp
            refine ⟨trivial, ?_⟩
            refine (CallsIn.inRound _ (callsIn_wide.2 HONE.out)).mono ?_
            rintro e w1 ⟨b7, rfl, hpl, hdx, hr1, hf1⟩
            have hj1 := HJD.out.read LTY.out hf1 hr1
            have hbx1 : Boxed w1 Bo 28 (.slice Ar pre.length cr) := (Off.one HRB.out (by decide)).cells hf1 HBX.out
            have hrow1 := (Off.one HRB.out (by decide)).row hf1 HROW.out
            have hcw := hbx1.cell
            have hcb := (hbx1.alloc (.cells #[.string b7] 9)).cell
            have h1f := hj1.fr.size
            have HJ1 := Lib.hid hj1
            have HDX := Lib.hid (hdx.low HJD.out.fr.size)
            have HPL := Lib.hid hpl
            have HB1 := Lib.hid hbx1
            have HR1 := Lib.hid hrow1
            clear hj1 hdx hpl hbx1 hrow1 hr1 hf1
            go_simp
            refine hK _ _ ?_
            clear hK K
            refine wpAnyIn_ready (rs := [4]) (by kernel_rfl) (by simp) ?_
            refine AllReadyIn.cons rfl (fun K hK => ?_) ?_
            next =>
              go_simp
              refine hK _ _ ?_
              clear hK K
              refine wpAnyIn_ready (rs := [5]) (by kernel_rfl) (by simp) ?_
              refine AllReadyIn.cons rfl (fun K hK => ?_) ?_
              next =>
                refine stepIn_appendL rfl _ _ _ (by rfl) W0.heap.size 9 i0 _ 1 16 Tryd.underlying28 hi hz0 hz1 hz2 rfl (by omega) (.slice Ar pre.length cr) pre.length (pre.map Value.string) (by rfl) (HR1.out.alloc _)
                  ⟨w1.heap.size, 0, none⟩ 1 1 [.string b7] (by rfl) (by rfl) (World.news_of_block (cs := #[.string b7]) (t := 9) (fr := (0, 0)) (heap_alloc_new w1 _)) (by simp [Value.oneCell']) (by omega) H63.out HBY.out (by simp; omega) ?_
                intro gg cap w2 hown2 hgrow
                have hv2 := Boxed.kept (Boxed.alloc HB1.out (.cells #[.string b7] 9)) hgrow (Boxed.not_row (Boxed.alloc HB1.out (.cells #[.string b7] 9)) (by decide) (HR1.out.alloc (.cells #[.string b7] 9)))
                have hc2 := hv2.cell
                have hf2 := hv2.frozen
                have HO2 := Lib.hid hown2
                have HG2 := Lib.hid hgrow
                clear hv2 hown2 hgrow
                refine hK _ _ ?_
                clear hK K
                refine wpAnyIn_ready (rs := [6]) (by kernel_rfl) (by simp) ?_
                refine AllReadyIn.cons rfl (fun K hK => ?_) ?_
                next =>
                  go_simp
                  refine hK _ _ ?_
                  clear hK K
                  refine wpAnyIn_done (by kernel_rfl) ?_ _
                  gi_wp2
                  have hj6 := HJ1.out.next (x := b7) LTY.out HB1.out HR1.out HDX.out HO2.out HG2.out
                  have her := run_endRound (P := Tryd.prog) none hj6.rec_
                  have hj7 := hj6.put (r' := rec .ready none)
                  rw [hrec] at hj7
                  refine ⟨_, _, her, rfl, b7, _, ?_, ?_, HPS2.out⟩
                  · rw [hrec]; exact hj7
                  · rw [List.length_append, List.length_singleton, List.map_append, pmany_snoc one _ _ _ _ HPM.out]; exact Prod.ext (congrArg (pre.map pl ++ [·]) HPL.out.symm) rfl
                exact AllReadyIn.nil
              exact AllReadyIn.nil
            exact AllReadyIn.nil
          exact AllReadyIn.nil
        refine AllReadyIn.cons rfl (fun K hK => ?_) ?_
        next =>
          go_simp
          refine ⟨trivial, ?_⟩
          refine (CallsIn.inRound _ (callsIn_wide.2 HONE.out)).mono ?_
          rintro e w1 ⟨b7, rfl, hpl, hdx, hr1, hf1⟩
          have hj1 := HJD.out.read LTY.out hf1 hr1
          have hbx1 : Boxed w1 Bo 28 (.slice Ar pre.length cr) := (Off.one HRB.out (by decide)).cells hf1 HBX.out
          have hrow1 := (Off.one HRB.out (by decide)).row hf1 HROW.out
          have hcw := hbx1.cell
          have hcb := (hbx1.alloc (.cells #[.string b7] 9)).cell
          have h1f := hj1.fr.size
          have HJ1 := Lib.hid hj1
          have HDX := Lib.hid (hdx.low HJD.out.fr.size)
          have HPL := Lib.hid hpl
          have HB1 := Lib.hid hbx1
          have HR1 := Lib.hid hrow1
          clear hj1 hdx hpl hbx1 hrow1 hr1 hf1
          go_simp
          refine hK _ _ ?_
          clear hK K
          refine wpAnyIn_ready (rs := [0, 4]) (by kernel_rfl) (by simp) ?_
          refine AllReadyIn.cons rfl (fun K hK => ?_) ?_
          next =>
            go_simp
            refine hK _ _ ?_
            clear hK K
            refine wpAnyIn_ready (rs := [4]) (by kernel_rfl) (by simp) ?_
            refine AllReadyIn.cons rfl (fun K hK => ?_) ?_
            next =>
              go_simp
              refine hK _ _ ?_
              clear hK K
              refine wpAnyIn_ready (rs := [5]) (by kernel_rfl) (by simp) ?_
              refine AllReadyIn.cons rfl (fun K hK => ?_) ?_
              next =>
                refine stepIn_appendL rfl _ _ _ (by rfl) W0.heap.size 9 i0 _ 1 16 Tryd.underlying28 hi hz0 hz1 hz2 rfl (by omega) (.slice Ar pre.length cr) pre.length (pre.map Value.string) (by rfl) (HR1.out.alloc _)
                  ⟨w1.heap.size, 0, none⟩ 1 1 [.string b7] (by rfl) (by rfl) (World.news_of_block (cs := #[.string b7]) (t := 9) (fr := (0, 0)) (heap_alloc_new w1 _)) (by simp [Value.oneCell']) (by omega) H63.out HBY.out (by simp; omega) ?_
                intro gg cap w2 hown2 hgrow
                have hv2 := Boxed.kept (Boxed.alloc HB1.out (.cells #[.string b7] 9)) hgrow (Boxed.not_row (Boxed.alloc HB1.out (.cells #[.string b7] 9)) (by decide) (HR1.out.alloc (.cells #[.string b7] 9)))
                have hc2 := hv2.cell
                have hf2 := hv2.frozen
                have HO2 := Lib.hid hown2
                have HG2 := Lib.hid hgrow
                clear hv2 hown2 hgrow
                refine hK _ _ ?_
                clear hK K
                refine wpAnyIn_ready (rs := [6]) (by kernel_rfl) (by simp) ?_
                refine AllReadyIn.cons rfl (fun K hK => ?_) ?_
                next =>
                  go_simp
                  refine hK _ _ ?_
                  clear hK K
                  refine wpAnyIn_done (by kernel_rfl) ?_ _
                  gi_wp2
                  have hj6 := HJ1.out.next (x := b7) LTY.out HB1.out HR1.out HDX.out HO2.out HG2.out
                  have her := run_endRound (P := Tryd.prog) none hj6.rec_
                  have hj7 := hj6.put (r' := rec .ready none)
                  rw [hrec] at hj7
                  refine ⟨_, _, her, rfl, b7, _, ?_, ?_, HPS2.out⟩
                  · rw [hrec]; exact hj7
                  · rw [List.length_append, List.length_singleton, List.map_append, pmany_snoc one _ _ _ _ HPM.out]; exact Prod.ext (congrArg (pre.map pl ++ [·]) HPL.out.symm) rfl
                exact AllReadyIn.nil
              exact AllReadyIn.nil
            exact AllReadyIn.nil
          refine AllReadyIn.cons rfl (fun K hK => ?_) ?_
          next =>
            go_simp
            refine hK _ _ ?_
            clear hK K
            refine wpAnyIn_ready (rs := [0]) (by kernel_rfl) (by simp) ?_
            refine AllReadyIn.cons rfl (fun K hK => ?_) ?_
            next =>
              go_simp
              refine hK _ _ ?_
              clear hK K
              refine wpAnyIn_ready (rs := [5]) (by kernel_rfl) (by simp) ?_
              refine AllReadyIn.cons rfl (fun K hK => ?_) ?_
              next =>
                refine stepIn_appendL rfl _ _ _ (by rfl) W0.heap.size 9 i0 _ 1 16 Tryd.underlying28 hi hz0 hz1 hz2 rfl (by omega) (.slice Ar pre.length cr) pre.length (pre.map Value.string) (by rfl) (HR1.out.alloc _)
                  ⟨w1.heap.size, 0, none⟩ 1 1 [.string b7] (by rfl) (by rfl) (World.news_of_block (cs := #[.string b7]) (t := 9) (fr := (0, 0)) (heap_alloc_new w1 _)) (by simp [Value.oneCell']) (by omega) H63.out HBY.out (by simp; omega) ?_
                intro gg cap w2 hown2 hgrow
                have hv2 := Boxed.kept (Boxed.alloc HB1.out (.cells #[.string b7] 9)) hgrow (Boxed.not_row (Boxed.alloc HB1.out (.cells #[.string b7] 9)) (by decide) (HR1.out.alloc (.cells #[.string b7] 9)))
                have hc2 := hv2.cell
                have hf2 := hv2.frozen
                have HO2 := Lib.hid hown2
                have HG2 := Lib.hid hgrow
                clear hv2 hown2 hgrow
                refine hK _ _ ?_
                clear hK K
                refine wpAnyIn_ready (rs := [6]) (by kernel_rfl) (by simp) ?_
                refine AllReadyIn.cons rfl (fun K hK => ?_) ?_
                next =>
                  go_simp
                  refine hK _ _ ?_
                  clear hK K
                  refine wpAnyIn_done (by kernel_rfl) ?_ _
                  gi_wp2
                  have hj6 := HJ1.out.next (x := b7) LTY.out HB1.out HR1.out HDX.out HO2.out HG2.out
                  have her := run_endRound (P := Tryd.prog) none hj6.rec_
                  have hj7 := hj6.put (r' := rec .ready none)
                  rw [hrec] at hj7
                  refine ⟨_, _, her, rfl, b7, _, ?_, ?_, HPS2.out⟩
                  · rw [hrec]; exact hj7
                  · rw [List.length_append, List.length_singleton, List.map_append, pmany_snoc one _ _ _ _ HPM.out]; exact Prod.ext (congrArg (pre.map pl ++ [·]) HPL.out.symm) rfl
                exact AllReadyIn.nil
              exact AllReadyIn.nil
            exact AllReadyIn.nil
          exact AllReadyIn.nil
        exact AllReadyIn.nil
      exact AllReadyIn.nil
    refine AllReadyIn.cons rfl (fun K hK => ?_) ?_
    next =>
      go_simp
      refine hK _ _ ?_
      clear hK K
      refine wpAnyIn_ready (rs := [0, 1]) (by kernel_rfl) (by simp) ?_
      refine AllReadyIn.cons rfl (fun K hK => ?_) ?_
      next =>
        go_simp
        refine hK _ _ ?_
        clear hK K
        refine wpAnyIn_ready (rs := [1]) (by kernel_rfl) (by simp) ?_
        refine AllReadyIn.cons rfl (fun K hK => ?_) ?_
        next =>
          go_simp
          refine hK _ _ ?_
          clear hK K
          refine wpAnyIn_ready (rs := [3]) (by kernel_rfl) (by simp) ?_
          refine AllReadyIn.cons rfl (fun K hK => ?_) ?_
          next =>
            go_simp
            refine ⟨trivial, ?_⟩
            refine (CallsIn.inRound _ (callsIn_wide.2 HONE.out)).mono ?_
            rintro e w1 ⟨b7, rfl, hpl, hdx, hr1, hf1⟩
            have hj1 := HJD.out.read LTY.out hf1 hr1
            have hbx1 : Boxed w1 Bo 28 (.slice Ar pre.length cr) := (Off.one HRB.out (by decide)).cells hf1 HBX.out
            have hrow1 := (Off.one HRB.out (by decide)).row hf1 HROW.out
            have hcw := hbx1.cell
            have hcb := (hbx1.alloc (.cells #[.string b7] 9)).cell
            have h1f := hj1.fr.size
            have HJ1 := Lib.hid hj1
            have HDX := Lib.hid (hdx.low HJD.out.fr.size)
            have HPL := Lib.hid hpl
            have HB1 := Lib.hid hbx1
            have HR1 := Lib.hid hrow1
            clear hj1 hdx hpl hbx1 hrow1 hr1 hf1
            go_simp
            refine hK _ _ ?_
            clear hK K
            refine wpAnyIn_ready (rs := [4]) (by kernel_rfl) (by simp) ?_
            refine AllReadyIn.cons rfl (fun K hK => ?_) ?_
            next =>
              go_simp
              refine hK _ _ ?_
              clear hK K
              refine wpAnyIn_ready (rs := [5]) (by kernel_rfl) (by simp) ?_
              refine AllReadyIn.cons rfl (fun K hK => ?_) ?_
              next =>
                refine stepIn_appendL rfl _ _ _ (by rfl) W0.heap.size 9 i0 _ 1 16 Tryd.underlying28 hi hz0 hz1 hz2 rfl (by omega) (.slice Ar pre.length cr) pre.length (pre.map Value.string) (by rfl) (HR1.out.alloc _)
                  ⟨w1.heap.size, 0, none⟩ 1 1 [.string b7] (by rfl) (by rfl) (World.news_of_block (cs := #[.string b7]) (t := 9) (fr := (0, 0)) (heap_alloc_new w1 _)) (by simp [Value.oneCell']) (by omega) H63.out HBY.out (by simp; omega) ?_
                intro gg cap w2 hown2 hgrow
                have hv2 := Boxed.kept (Boxed.alloc HB1.out (.cells #[.string b7] 9)) hgrow (Boxed.not_row (Boxed.alloc HB1.out (.cells #[.string b7] 9)) (by decide) (HR1.out.alloc (.cells #[.string b7] 9)))
                have hc2 := hv2.cell
                have hf2 := hv2.frozen
                have HO2 := Lib.hid hown2
                have HG2 := Lib.hid hgrow
                clear hv2 hown2 hgrow
                refine hK _ _ ?_
                clear hK K
                refine wpAnyIn_ready (rs := [6]) (by kernel_rfl) (by simp) ?_
                refine AllReadyIn.cons rfl (fun K hK => ?_) ?_
                next =>
                  go_simp
                  refine hK _ _ ?_
                  clear hK K
                  refine wpAnyIn_done (by kernel_rfl) ?_ _
                  gi_wp2
                  have hj6 := HJ1.out.next (x := b7) LTY.out HB1.out HR1.out HDX.out HO2.out HG2.out
                  have her := run_endRound (P := Tryd.prog) none hj6.rec_
                  have hj7 := hj6.put (r' := rec .ready none)
                  rw [hrec] at hj7
                  refine ⟨_, _, her, rfl, b7, _, ?_, ?_, HPS2.out⟩
                  · rw [hrec]; exact hj7
                  · rw [List.length_append, List.length_singleton, List.map_append, pmany_snoc one _ _ _ _ HPM.out]; exact Prod.ext (congrArg (pre.map pl ++ [·]) HPL.out.symm) rfl
                exact AllReadyIn.nil
              exact AllReadyIn.nil
            exact AllReadyIn.nil
          exact AllReadyIn.nil
        exact AllReadyIn.nil
      refine AllReadyIn.cons rfl (fun K hK => ?_) ?_
      next =>
        go_simp
        refine hK _ _ ?_
        clear hK K
        refine wpAnyIn_ready (rs := [0, 3]) (by kernel_rfl) (by simp) ?_
        refine AllReadyIn.cons rfl (fun K hK => ?_) ?_
        next =>
          go_simp
          refine hK _ _ ?_
          clear hK K
          refine wpAnyIn_ready (rs := [3]) (by kernel_rfl) (by simp) ?_
          refine AllReadyIn.cons rfl (fun K hK => ?_) ?_
          next =>
            go_simp
            refine ⟨trivial, ?_⟩
            refine (CallsIn.inRound _ (callsIn_wide.2 HONE.out)).mono ?_
            rintro e w1 ⟨b7, rfl, hpl, hdx, hr1, hf1⟩
            have hj1 := HJD.out.read LTY.out hf1 hr1
            have hbx1 : Boxed w1 Bo 28 (.slice Ar pre.length cr) := (Off.one HRB.out (by decide)).cells hf1 HBX.out
            have hrow1 := (Off.one HRB.out (by decide)).row hf1 HROW.out
            have hcw := hbx1.cell
            have hcb := (hbx1.alloc (.cells #[.string b7] 9)).cell
            have h1f := hj1.fr.size
            have HJ1 := Lib.hid hj1
            have HDX := Lib.hid (hdx.low HJD.out.fr.size)
            have HPL := Lib.hid hpl
            have HB1 := Lib.hid hbx1
            have HR1 := Lib.hid hrow1
            clear hj1 hdx hpl hbx1 hrow1 hr1 hf1
            go_simp
            refine hK _ _ ?_
            clear hK K
            refine wpAnyIn_ready (rs := [4]) (by kernel_rfl) (by simp) ?_
            refine AllReadyIn.cons rfl (fun K hK => ?_) ?_
            next =>
              go_simp
              refine hK _ _ ?_
              clear hK K
              refine wpAnyIn_ready (rs := [5]) (by kernel_rfl) (by simp) ?_
              refine AllReadyIn.cons rfl (fun K hK => ?_) ?_
              next =>
                refine stepIn_appendL rfl _ _ _ (by rfl) W0.heap.size 9 i0 _ 1 16 Tryd.underlying28 hi hz0 hz1 hz2 rfl (by omega) (.slice Ar pre.length cr) pre.length (pre.map Value.string) (by rfl) (HR1.out.alloc _)
                  ⟨w1.heap.size, 0, none⟩ 1 1 [.string b7] (by rfl) (by rfl) (World.news_of_block (cs := #[.string b7]) (t := 9) (fr := (0, 0)) (heap_alloc_new w1 _)) (by simp [Value.oneCell']) (by omega) H63.out HBY.out (by simp; omega) ?_
                intro gg cap w2 hown2 hgrow
                have hv2 := Boxed.kept (Boxed.alloc HB1.out (.cells #[.string b7] 9)) hgrow (Boxed.not_row (Boxed.alloc HB1.out (.cells #[.string b7] 9)) (by decide) (HR1.out.alloc (.cells #[.string b7] 9)))
                have hc2 := hv2.cell
                have hf2 := hv2.frozen
                have HO2 := Lib.hid hown2
                have HG2 := Lib.hid hgrow
                clear hv2 hown2 hgrow
                refine hK _ _ ?_
                clear hK K
                refine wpAnyIn_ready (rs := [6]) (by kernel_rfl) (by simp) ?_
                refine AllReadyIn.cons rfl (fun K hK => ?_) ?_
                next =>
                  go_simp
                  refine hK _ _ ?_
                  clear hK K
                  refine wpAnyIn_done (by kernel_rfl) ?_ _
                  gi_wp2
                  have hj6 := HJ1.out.next (x := b7) LTY.out HB1.out HR1.out HDX.out HO2.out HG2.out
                  have her := run_endRound (P := Tryd.prog) none hj6.rec_
                  have hj7 := hj6.put (r' := rec .ready none)
                  rw [hrec] at hj7
                  refine ⟨_, _, her, rfl, b7, _, ?_, ?_, HPS2.out⟩
                  · rw [hrec]; exact hj7
                  · rw [List.length_append, List.length_singleton, List.map_append, pmany_snoc one _ _ _ _ HPM.out]; exact Prod.ext (congrArg (pre.map pl ++ [·]) HPL.out.symm) rfl
                exact AllReadyIn.nil
              exact AllReadyIn.nil
            exact AllReadyIn.nil
          exact AllReadyIn.nil
        refine AllReadyIn.cons rfl (fun K hK => ?_) ?_
        next =>
          go_simp
          refine ⟨trivial, ?_⟩
          refine (CallsIn.inRound _ (callsIn_wide.2 HONE.out)).mono ?_
          rintro e w1 ⟨b7, rfl, hpl, hdx, hr1, hf1⟩
          have hj1 := HJD.out.read LTY.out hf1 hr1
          have hbx1 : Boxed w1 Bo 28 (.slice Ar pre.length cr) := (Off.one HRB.out (by decide)).cells hf1 HBX.out
          have hrow1 := (Off.one HRB.out (by decide)).row hf1 HROW.out
          have hcw := hbx1.cell
          have hcb := (hbx1.alloc (.cells #[.string b7] 9)).cell
          have h1f := hj1.fr.size
          have HJ1 := Lib.hid hj1
          have HDX := Lib.hid (hdx.low HJD.out.fr.size)
          have HPL := Lib.hid hpl
          have HB1 := Lib.hid hbx1
          have HR1 := Lib.hid hrow1
          clear hj1 hdx hpl hbx1 hrow1 hr1 hf1
          go_simp
          refine hK _ _ ?_
          clear hK K
          refine wpAnyIn_ready (rs := [0, 4]) (by kernel_rfl) (by simp) ?_
          refine AllReadyIn.cons rfl (fun K hK => ?_) ?_
          next =>
            go_simp
            refine hK _ _ ?_
            clear hK K
            refine wpAnyIn_ready (rs := [4]) (by kernel_rfl) (by simp) ?_
            refine AllReadyIn.cons rfl (fun K hK => ?_) ?_
            next =>
              go_simp
              refine hK _ _ ?_
              clear hK K
              refine wpAnyIn_ready (rs := [5]) (by kernel_rfl) (by simp) ?_
              refine AllReadyIn.cons rfl (fun K hK => ?_) ?_
              next =>
                refine stepIn_appendL rfl _ _ _ (by rfl) W0.heap.size 9 i0 _ 1 16 Tryd.underlying28 hi hz0 hz1 hz2 rfl (by omega) (.slice Ar pre.length cr) pre.length (pre.map Value.string) (by rfl) (HR1.out.alloc _)
                  ⟨w1.heap.size, 0, none⟩ 1 1 [.string b7] (by rfl) (by rfl) (World.news_of_block (cs := #[.string b7]) (t := 9) (fr := (0, 0)) (heap_alloc_new w1 _)) (by simp [Value.oneCell']) (by omega) H63.out HBY.out (by simp; omega) ?_
                intro gg cap w2 hown2 hgrow
                have hv2 := Boxed.kept (Boxed.alloc HB1.out (.cells #[.string b7] 9)) hgrow (Boxed.not_row (Boxed.alloc HB1.out (.cells #[.string b7] 9)) (by decide) (HR1.out.alloc (.cells #[.string b7] 9)))
                have hc2 := hv2.cell
                have hf2 := hv2.frozen
                have HO2 := Lib.hid hown2
                have HG2 := Lib.hid hgrow
                clear hv2 hown2 hgrow
                refine hK _ _ ?_
                clear hK K
                refine wpAnyIn_ready (rs := [6]) (by kernel_rfl) (by simp) ?_
                refine AllReadyIn.cons rfl (fun K hK => ?_) ?_
                next =>
                  go_simp
                  refine hK _ _ ?_
                  clear hK K
                  refine wpAnyIn_done (by kernel_rfl) ?_ _
                  gi_wp2
                  have hj6 := HJ1.out.next (x := b7) LTY.out HB1.out HR1.out HDX.out HO2.out HG2.out
                  have her := run_endRound (P := Tryd.prog) none hj6.rec_
                  have hj7 := hj6.put (r' := rec .ready none)
                  rw [hrec] at hj7
                  refine ⟨_, _, her, rfl, b7, _, ?_, ?_, HPS2.out⟩
                  · rw [hrec]; exact hj7
                  · rw [List.length_append, List.length_singleton, List.map_append, pmany_snoc one _ _ _ _ HPM.out]; exact Prod.ext (congrArg (pre.map pl ++ [·]) HPL.out.symm) rfl
                exact AllReadyIn.nil
              exact AllReadyIn.nil
            exact AllReadyIn.nil
          refine AllReadyIn.cons rfl (fun K hK => ?_) ?_
          next =>
            go_simp
            refine hK _ _ ?_
            clear hK K
            refine wpAnyIn_ready (rs := [0]) (by kernel_rfl) (by simp) ?_
            refine AllReadyIn.cons rfl (fun K hK => ?_) ?_
            next =>
              go_simp
              refine hK _ _ ?_
              clear hK K
              refine wpAnyIn_ready (rs := [5]) (by kernel_rfl) (by simp) ?_
              refine AllReadyIn.cons rfl (fun K hK => ?_) ?_
              next =>
                refine stepIn_appendL rfl _ _ _ (by rfl) W0.heap.size 9 i0 _ 1 16 Tryd.underlying28 hi hz0 hz1 hz2 rfl (by omega) (.slice Ar pre.length cr) pre.length (pre.map Value.string) (by rfl) (HR1.out.alloc _)
                  ⟨w1.heap.size, 0, none⟩ 1 1 [.string b7] (by rfl) (by rfl) (World.news_of_block (cs := #[.string b7]) (t := 9) (fr := (0, 0)) (heap_alloc_new w1 _)) (by simp [Value.oneCell']) (by omega) H63.out HBY.out (by simp; omega) ?_
                intro gg cap w2 hown2 hgrow
                have hv2 := Boxed.kept (Boxed.alloc HB1.out (.cells #[.string b7] 9)) hgrow (Boxed.not_row (Boxed.alloc HB1.out (.cells #[.string b7] 9)) (by decide) (HR1.out.alloc (.cells #[.string b7] 9)))
                have hc2 := hv2.cell
                have hf2 := hv2.frozen
                have HO2 := Lib.hid hown2
                have HG2 := Lib.hid hgrow
                clear hv2 hown2 hgrow
                refine hK _ _ ?_
                clear hK K
                refine wpAnyIn_ready (rs := [6]) (by kernel_rfl) (by simp) ?_
                refine AllReadyIn.cons rfl (fun K hK => ?_) ?_
                next =>
                  go_simp
                  refine hK _ _ ?_
                  clear hK K
                  refine wpAnyIn_done (by kernel_rfl) ?_ _
                  gi_wp2
                  have hj6 := HJ1.out.next (x := b7) LTY.out HB1.out HR1.out HDX.out HO2.out HG2.out
                  have her := run_endRound (P := Tryd.prog) none hj6.rec_
                  have hj7 := hj6.put (r' := rec .ready none)
                  rw [hrec] at hj7
                  refine ⟨_, _, her, rfl, b7, _, ?_, ?_, HPS2.out⟩
                  · rw [hrec]; exact hj7
                  · rw [List.length_append, List.length_singleton, List.map_append, pmany_snoc one _ _ _ _ HPM.out]; exact Prod.ext (congrArg (pre.map pl ++ [·]) HPL.out.symm) rfl
                exact AllReadyIn.nil
              exact AllReadyIn.nil
            exact AllReadyIn.nil
          exact AllReadyIn.nil
        exact AllReadyIn.nil
      exact AllReadyIn.nil
    exact AllReadyIn.nil
  case done =>
    rintro e W2 ⟨⟨v', rfl⟩, ys, s', ⟨hJ2, hpm, hpl⟩, hle, hfin⟩
    have HFIN : Hid (pmany one q s1 = (ys.map pl, s')) := Lib.hid (by
      rcases hfin with h | h
      · rw [← h]; exact hpm
      · subst h; exact pmany_gone one _ _ _ q hpm hle)
    refine ⟨none, _, by have := run_endLoop (P := Tryd.prog) hJ2.rec_ (by rw [hrec]; simp); rw [hrec] at this; exact this, ?_⟩
    have hJ3 := hJ2.put (r' := { rec .ready none with state := .exhausted })
    rw [hrec] at hJ3
    generalize hW3 : W2.putObj _ _ = W3 at hJ3 ⊢
    have hcR := Boxed.cell (hJ3.fr.cells HOK.out.2.2.2.1 (by rintro (e | e) <;> omega))
    have HJ3 := Lib.hid hJ3
    have hK := hJ3.dfr
    obtain ⟨vr, hbx, hrow⟩ := hJ3.out
    obtain ⟨Ar, cr, rfl⟩ := own_form hrow
    have hcO := hbx.cell
    have HROW := Lib.hid hrow
    clear hW3 hJ2 hbx hrow hJ1 hfin hpm hpl hle
    have hoff : ∀ t, Off (fun k => k = W0.heap.size) W3 t := fun t => Off.obj hK rfl
    have hfd : Fr (fun k => k = W0.heap.size) W3 (W3.putObj W0.heap.size (.deferred none)) := ⟨rfl, rfl, rfl, by simp, fun k _ hk => World.putObj_heap_other hk⟩
    have HEND : Hid (Fr (fun k => k = g) w (W3.putObj W0.heap.size (.deferred none))) := Lib.hid (by
      refine (HFW.out.trans hJ3.fr (fun i hi e => ?_)).trans hfd (fun i hi e => ?_)
      · rcases e with e | e
        · exact e
        · omega
      · have := HFW.out.size; omega)
    have HRE : Hid (Rd (W3.putObj W0.heap.size (.deferred none)) g s') := Lib.hid (hJ3.rd.off hfd (hoff _) (hoff _))
    have HDAT : Hid (∀ x ∈ ys, DatOk 3 (fun _ : ByteArray => none) (W3.putObj W0.heap.size (.deferred none)) w.heap.size x) := Lib.hid (fun x hx => ((hJ3.dat x hx).off hfd (hoff _)).low HFW.out.size)
    have HOWN : Hid ((W3.putObj W0.heap.size (.deferred none)).ownsRow w.heap.size 9 1 (.slice Ar ys.length cr) ys.length (ys.map Value.string)) := Lib.hid (lst_low ((hoff _).row hfd HROW.out) HFW.out.size)
    have HK := Lib.hid hK
    have hrd := hJ3.rd
    clear hJ3 hoff hfd hK
    cases s' with
    | none =>
      have hG : Gone W3 g := by
        rcases hrd with ⟨_, h⟩ | ⟨l, A, c, e, _⟩
        · exact h
        · cases e
      have hg1 : W3.cell? ⟨g, 1, none⟩ = some (.bool true) := (Blk.of_heap hG).cell 1
      clear hrd hG
      gi_wp2
      refine ⟨by simp, .inl ⟨_, _, rfl, run_takeDeferred HK.out, ?_⟩⟩
      refine ⟨_, results_tmp rfl _ _ _, ?_⟩
      rw [HP.out, HFIN.out, if_pos (show ((ys.map pl, none) : List β × PS).2 = none from rfl)]
      exact ⟨⟨_, [], rfl, rfl, World.ownsRow_nil _ _ _ _, fun x hx => absurd hx (by simp)⟩, HRE.out, HEND.out⟩
    | some l =>
      have hg1 : W3.cell? ⟨g, 1, none⟩ = some (.bool false) := by
        rcases hrd with ⟨e, _⟩ | ⟨l, A, c, e, h⟩
        · cases e
        · exact (Blk.of_heap h.blk).cell 1
      clear hrd
      gi_wp2
      refine ⟨by simp, .inl ⟨_, _, rfl, run_takeDeferred HK.out, ?_⟩⟩
      refine ⟨_, results_tmp rfl _ _ _, ?_⟩
      rw [HP.out, HFIN.out, if_neg (by simp)]
      exact ⟨⟨_, ys, rfl, rfl, HOWN.out, HDAT.out⟩, HRE.out, HEND.out⟩
end Go.Proofs.YtjkilpjdgjijiaaDoor
