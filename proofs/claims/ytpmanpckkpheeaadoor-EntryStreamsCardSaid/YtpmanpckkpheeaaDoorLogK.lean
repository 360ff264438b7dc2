/- tidelinelaw07.speaks. -/
import Derived.Test.YtpmanpckkpheeaaDoorLogW
import Derived.Test.YtpmanpckkpheeaaDoorLogD
import Derived.Test.YtpmanpckkpheeaaDoorLogEr
import Derived.Laws.EntriesVeiled
namespace Go.Proofs.YtpmanpckkpheeaaDoor
open Go.RowKit Go.Shelf
set_option linter.unusedVariables false
attribute [local go_sem] Oper.semAt_some

theorem Sl.new_blockL (w : World) (l : List UInt8) (fr : Nat × Nat) : Sl (w.alloc (.cells (bv l).toArray 5 fr)) (w.heap.size + 1) (some ⟨w.heap.size, 0, none⟩) (bv l) := by
  refine .inr ⟨w.heap.size, 0, rfl, by omega, fun k v hk => ?_⟩
  rw [Nat.zero_add]
  have h := heap_alloc_new w (.cells (bv l).toArray 5 fr)
  unfold World.cell?
  simp only [h]
  simpa using hk

theorem sp2_any (z : Int) (w : World) :
    Calls Tryd.prog 72 #[.int .i64 z] w fun e w' => e = .returned (.tuple #[.agg #[.int .i64 0, .int .i64 0, .int .i64 0, .int .i64 0, .int .i64 0, .int .i64 (-1), .slice none 0 0], .bool true]) ∧ Below w.heap.size w w' := by
  go_enter Tryd.func72, Tryd.ntmps72
  go_wp2
  refine bodyPost_ret (v := .tuple #[.agg #[.int .i64 0, .int .i64 0, .int .i64 0, .int .i64 0, .int .i64 0, .int .i64 (-1), .slice none 0 0], .bool true]) (results_row_tmp Tryd.results72 _ _ w.heap.size 45 #[.int .i64 0, .int .i64 0, .int .i64 0, .int .i64 0, .int .i64 0, .int .i64 (-1), .slice none 0 0] (0, 0) _ _ rfl rfl (heap_alloc_new w _) Tryd.underlying45 rfl (by kernel_rfl)) rfl ⟨rfl, (Below.refl _ _).alloc (Nat.le_refl _) _⟩

set_option maxRecDepth 100000 in
set_option maxHeartbeats 4000000 in
theorem espeak_any (w : World) (hT : Tab w) :
    Calls Tryd.prog 27 #[] w fun e w' => e = .returned (.bool true) ∧ Below w.heap.size w w' := by
  refine (callsIn_wide (n := 6)).1 ?_
  have HT := Lib.hid hT
  clear hT
  refine callsIn_of_wp_marks Tryd.func27 rfl trivial ?_ rfl
  simp only [Tryd.ntmps27, List.size_toArray, List.length_cons, List.length_nil, Nat.reduceAdd, Nat.reduceSub, Array.replicate_succ, Array.replicate_zero, List.push_toArray, List.append_toArray, List.nil_append, List.cons_append]
  gi_wp2
  have hb0 : Below w.heap.size w (w.alloc (.cells #[.int .u8 7] 5)) := (Below.refl _ _).alloc (Nat.le_refl _) _
  have hs0 : Sl (w.alloc (.cells #[.int .u8 7] 5)) (w.heap.size + 1) (some ⟨w.heap.size, 0, none⟩) (bv [7]) := Sl.new_blockL w [7] (0, 0)
  have hright : Lg.right ⟨1, 0, 0, 0, 0, -1, [7]⟩ = true := by decide
  have hdec : (unw (wrapped (encLog ⟨1, 0, 0, 0, 0, -1, [7]⟩))).bind decLog = some ⟨1, 0, 0, 0, 0, -1, [7]⟩ := by
    rw [unw_wrapped, Option.bind_some, decLog_enc _ hright]
  have hlen : (wrapped (encLog ⟨1, 0, 0, 0, 0, -1, [7]⟩)).length = 31 := by rw [wrapped_len, encLog_len]; rfl
  have henc := logenc_ok ⟨1, 0, 0, 0, 0, -1, [7]⟩ (some ⟨w.heap.size, 0, none⟩) 1 (w.heap.size + 1) (w.alloc (.cells #[.int .u8 7] 5)) (HT.out.below HT.out.1 hb0) hs0 (fun e => by cases e) (by simp) hright
  obtain ⟨LA, hLA⟩ : ∃ L, wrapped (encLog ⟨1, 0, 0, 0, 0, -1, [7]⟩) = L := ⟨_, rfl⟩
  rw [hLA] at henc hdec hlen
  have HE := Lib.hid henc
  have HDE := Lib.hid hdec
  have HLN := Lib.hid hlen
  have HB0 := Lib.hid hb0
  clear henc hdec hlen hb0 hs0 hright hLA
  refine ⟨trivial, ?_⟩
  refine (callsIn_wide.2 HE.out).mono ?_
  rintro e W1 ⟨⟨A1, c1, rfl, ho⟩, hb1⟩
  have HB1 := Lib.hid (HB0.out.trans (hb1.mono HB0.out.size))
  have hcl : LA.length ≤ c1 := by
    rcases ho.2 with ⟨_, h0⟩ | ⟨g', cap', cur, e, q1, q2, q3, _⟩
    · have := HLN.out; omega
    · injection e with e1 e2 e3; omega
  have hdc := logdec_any A1 c1 W1.heap.size LA W1 (HT.out.below HT.out.1 HB1.out) (Sl.of_own ho) hcl (by have := HLN.out; omega) (Nat.le_refl _)
  rw [HDE.out] at hdc
  have HDC := Lib.hid hdc
  clear ho hb1 hcl hdc
  gi_wp2
  refine ⟨trivial, ?_⟩
  refine (callsIn_wide.2 HDC.out).mono ?_
  rintro e W2 ⟨A2, c2, he, hb2, -⟩
  have he : e = .returned (.tuple #[.agg #[.int .i64 1, .int .i64 0, .int .i64 0, .int .i64 0, .int .i64 0, .int .i64 (-1), .slice A2 1 c2], .int .i64 0]) := he
  subst he
  have HB2 := Lib.hid (HB1.out.trans (hb2.mono HB1.out.size))
  clear hb2
  gi_wp2
  refine ⟨trivial, ?_⟩
  refine (ewalk_in 5 (-1) 71 #[] _).mono ?_
  rintro e W3 ⟨rfl, rfl⟩
  gi_wp2
  have hx0 : (W2.alloc (.cells #[.int .i64 1, .int .i64 0, .int .i64 0, .int .i64 0, .int .i64 0, .int .i64 (-1), .slice A2 1 c2] 45)).heap[W2.heap.size]? = _ := heap_alloc_new W2 _
  have hn0 := heap_alloc_new (W2.alloc (.cells #[.int .i64 1, .int .i64 0, .int .i64 0, .int .i64 0, .int .i64 0, .int .i64 (-1), .slice A2 1 c2] 45)) (.cells #[.int .i64 0] 3)
  rw [World.size_alloc] at hn0
  have hB3 := (HB2.out.alloc HB2.out.size (.cells #[.int .i64 1, .int .i64 0, .int .i64 0, .int .i64 0, .int .i64 0, .int .i64 (-1), .slice A2 1 c2] 45)).alloc (by have := HB2.out.size; simp; omega) (.cells #[.int .i64 0] 3)
  have hx3 := (Below.heap_alloc (W2.alloc (.cells #[.int .i64 1, .int .i64 0, .int .i64 0, .int .i64 0, .int .i64 0, .int .i64 (-1), .slice A2 1 c2] 45)) (.cells #[.int .i64 0] 3) W2.heap.size (by simp)).trans hx0
  obtain ⟨W3, hW3⟩ : ∃ X, (W2.alloc (.cells #[.int .i64 1, .int .i64 0, .int .i64 0, .int .i64 0, .int .i64 0, .int .i64 (-1), .slice A2 1 c2] 45)).alloc (.cells #[.int .i64 0] 3) = X := ⟨_, rfl⟩
  have hsz3 : W3.heap.size = W2.heap.size + 2 := by rw [← hW3]; simp
  rw [hW3] at hn0 hB3 hx3
  rw [hW3]
  have hb34 : Below W3.heap.size W3 ((W3.alloc (.cells #[.int .i64 (-1)] 3)).alloc (.cells #[.func (.func 71) #[] #[]] 56)) := ((Below.refl _ _).alloc (Nat.le_refl _) _).alloc (by simp) _
  have hBa : ((W3.alloc (.cells #[.int .i64 (-1)] 3)).alloc (.cells #[.func (.func 71) #[] #[]] 56)).cell? ⟨W2.heap.size + 1 + 1, 0, none⟩ = some (.int .i64 (-1)) := by
    rw [show W2.heap.size + 1 + 1 = W3.heap.size by omega]
    rw [World.cell?_alloc_lt _ _ _ (by simp)]
    exact (Blk.new W3 _ _).cell 0
  have hBr : ((W3.alloc (.cells #[.int .i64 (-1)] 3)).alloc (.cells #[.func (.func 71) #[] #[]] 56)).cell? ⟨W2.heap.size + 1 + 1 + 1, 0, none⟩ = some (.func (.func 71) #[] #[]) := by
    rw [show W2.heap.size + 1 + 1 + 1 = (W3.alloc (.cells #[.int .i64 (-1)] 3)).heap.size by simp; omega]
    exact (Blk.new (W3.alloc (.cells #[.int .i64 (-1)] 3)) _ _).cell 0
  obtain ⟨W4, hW4⟩ : ∃ X, (W3.alloc (.cells #[.int .i64 (-1)] 3)).alloc (.cells #[.func (.func 71) #[] #[]] 56) = X := ⟨_, rfl⟩
  have hsz4 : W4.heap.size = W2.heap.size + 4 := by rw [← hW4]; simp; omega
  rw [hW4] at hb34 hBa hBr ⊢
  have hbn4 : Blk W4 (W2.heap.size + 1) #[.int .i64 0] := (Blk.of_heap hn0).below hb34 (by omega)
  have hbx4 : Blk W4 W2.heap.size #[.int .i64 1, .int .i64 0, .int .i64 0, .int .i64 0, .int .i64 0, .int .i64 (-1), .slice A2 1 c2] := (Blk.of_heap hx3).below hb34 (by omega)
  have hB4 := hB3.trans (hb34.mono hB3.size)
  clear hW3 hW4 hx0 hn0 hB3 hx3 hb34 hsz3
  refine wpIn_rangeFunc_ownG rfl (by omega) (gf := 85) (lb := #[.pointer (some ⟨W2.heap.size + 1 + 1, 0, none⟩), .pointer (some ⟨W2.heap.size + 1 + 1 + 1, 0, none⟩)]) rfl trivial (enters_of Tryd.func85 (by kernel_rfl) rfl)
    (ewalk_stops 5 (by omega) (W2.heap.size + 1 + 1) (W2.heap.size + 1 + 1 + 1) W4.heap.size (fun k => k = W2.heap.size + 1) 71 #[] (-1) [] (show (-1 : Int) < 0 by decide) W4 (fun _ => rfl) (enters_of Tryd.func71 (by kernel_rfl) rfl) (fun e he => by cases he) hBa hBr ⟨by omega, by omega⟩ ⟨by omega, by omega⟩ (Nat.le_refl _)) kept_t (kept_b (Nat.le_refl _)) (Below.refl _ _) (fun _ => rfl)
    (fun pre W => (W.cell? ⟨W2.heap.size + 1, 0, none⟩ = some (.int .i64 (pre.length : Int)) ∧ W.frozen? ⟨W2.heap.size + 1, 0, none⟩ = false ∧ W.cell? ⟨W2.heap.size, 6, none⟩ = some (.slice A2 1 c2)) ∧ Below w.heap.size w W)
    (fun _ _ _ => False)
    (OwnFrom.and (Own.from (fun s A B row hs hg hr => ⟨cell_kept hs.1 hg hr, (frozen_kept hs.1 hg hr).trans hs.2.1, cell_kept hs.2.2 hg hr⟩) _) (ownFrom_below (Nat.le_refl _) hB4.size))
    (fun _ _ _ _ _ hs _ _ => hs)
    ⟨⟨hbn4.cell 0, hbn4.free 0, hbx4.cell 6⟩, hB4⟩
    ?a1 ?assign ?body ?done ?stop
  case assign =>
    intro l x W K hK
    apply wpIn_skip
    exact hK
  case body =>
    intro l pre x W _ hlt
    exact absurd hlt (Nat.not_lt_zero _)
  case stop =>
    rintro D c pre W _ _ h _
    exact h.elim
  case done =>
    rintro D ys W5 hD rfl ⟨⟨hc5, hf5, hx5⟩, hB5⟩ hK5
    have hD5 : W4.heap.size ≤ D := hD
    clear hbn4 hbx4 hB4 hBa hBr
    gi_wp2
    refine ⟨trivial, ?_⟩
    refine (ewalk_in 5 3 72 #[] _).mono ?_
    rintro e W6 ⟨rfl, rfl⟩
    gi_wp2
    have hb56 : Below W5.heap.size W5 ((W5.alloc (.cells #[.int .i64 3] 3)).alloc (.cells #[.func (.func 72) #[] #[]] 56)) := ((Below.refl _ _).alloc (Nat.le_refl _) _).alloc (by simp) _
    have hBa : ((W5.alloc (.cells #[.int .i64 3] 3)).alloc (.cells #[.func (.func 72) #[] #[]] 56)).cell? ⟨W5.heap.size, 0, none⟩ = some (.int .i64 3) := by
      rw [World.cell?_alloc_lt _ _ _ (by simp)]
      exact (Blk.new W5 _ _).cell 0
    have hBr : ((W5.alloc (.cells #[.int .i64 3] 3)).alloc (.cells #[.func (.func 72) #[] #[]] 56)).cell? ⟨W5.heap.size + 1, 0, none⟩ = some (.func (.func 72) #[] #[]) := by
      rw [show W5.heap.size + 1 = (W5.alloc (.cells #[.int .i64 3] 3)).heap.size by simp]
      exact (Blk.new (W5.alloc (.cells #[.int .i64 3] 3)) _ _).cell 0
    obtain ⟨W6, hW6⟩ : ∃ X, (W5.alloc (.cells #[.int .i64 3] 3)).alloc (.cells #[.func (.func 72) #[] #[]] 56) = X := ⟨_, rfl⟩
    have hsz6 : W6.heap.size = W5.heap.size + 2 := by rw [← hW6]; simp
    rw [hW6] at hb56 hBa hBr ⊢
    have hD5' : D < W5.heap.size := (Array.getElem?_eq_some_iff.1 hK5).1
    have hc6 := (hb56.cell (p := ⟨W2.heap.size + 1, 0, none⟩) (by show W2.heap.size + 1 < W5.heap.size; omega)).trans hc5
    have hf6 := (hb56.frozen (p := ⟨W2.heap.size + 1, 0, none⟩) (by show W2.heap.size + 1 < W5.heap.size; omega)).trans hf5
    have hx6 := (hb56.cell (p := ⟨W2.heap.size, 6, none⟩) (by show W2.heap.size < W5.heap.size; omega)).trans hx5
    have hK6 := (hb56.block D hD5').trans hK5
    have hB6 := hB5.trans (hb56.mono hB5.size)
    clear hW6 hc5 hf5 hx5 hK5 hB5 hb56
    refine wpIn_rangeFunc_ownG rfl (by omega) (gf := 85) (lb := #[.pointer (some ⟨W5.heap.size, 0, none⟩), .pointer (some ⟨W5.heap.size + 1, 0, none⟩)]) rfl trivial (enters_of Tryd.func85 (by kernel_rfl) rfl)
      (ewalk_stops 5 (by omega) W5.heap.size (W5.heap.size + 1) W6.heap.size (fun k => k = W2.heap.size + 1) 72 #[] 3 [⟨3, 0, 0, 0, 0, 0, -1⟩] ⟨rfl, by decide, by decide, (show (-1 : Int) < 0 by decide)⟩ W6 (fun _ => rfl) (enters_of Tryd.func72 (by kernel_rfl) rfl)
        (fun e he W' _ => by obtain rfl := List.mem_singleton.1 he; exact sp2_any 3 W') hBa hBr ⟨by omega, by omega⟩ ⟨by omega, by omega⟩ (Nat.le_refl _)) kept_t (kept_b (Nat.le_refl _)) (Below.refl _ _) (fun _ => rfl)
      (fun pre W => ((W.cell? ⟨W2.heap.size + 1, 0, none⟩ = some (.int .i64 (pre.length : Int)) ∧ W.frozen? ⟨W2.heap.size + 1, 0, none⟩ = false ∧ W.cell? ⟨W2.heap.size, 6, none⟩ = some (.slice A2 1 c2)) ∧ W.heap[D]? = some (.deferred (some []))) ∧ Below w.heap.size w W)
      (fun _ _ _ => False)
      (OwnFrom.and (OwnFrom.and (Own.from (fun s A B row hs hg hr => ⟨cell_kept hs.1 hg hr, (frozen_kept hs.1 hg hr).trans hs.2.1, cell_kept hs.2.2 hg hr⟩) _) (fun s A B row hs hg hr => (hg.block D (Array.getElem?_eq_some_iff.1 hs).1 (fun e => by have := (hr D e.symm).1; omega)).trans hs)) (ownFrom_below (Nat.le_refl _) hB6.size))
      (fun _ _ _ _ _ hs _ _ => hs)
      ⟨⟨⟨hc6, hf6, hx6⟩, hK6⟩, hB6⟩
      ?a2 ?assign2 ?body2 ?done2 ?stop2
    case assign2 =>
      intro l x W K hK
      apply wpIn_skip
      exact hK
    case body2 =>
      rintro l pre x W ⟨⟨⟨hc, hf, hx⟩, hd⟩, hB⟩ hlt
      have hsz2 := HB2.out.size
      clear hBa hBr hc6 hf6 hx6 hK6 hB6
      dsimp only [Ent.enc, Ent.val]
      simp only [List.zip_toArray, List.zip_cons_cons, List.zip_nil_left, List.foldl_toArray, List.foldl_cons, List.foldl_nil, List.setIfInBounds_toArray, List.set_cons_succ, List.set_cons_zero]
      obtain rfl : pre = [] := List.eq_nil_of_length_eq_zero (by have : pre.length < 1 := hlt; omega)
      gi_wp2
      refine ⟨(KeepsOthers.setCell _ _ _).from _, Kept.setCell _ _ _ (.inr rfl), ⟨⟨World.cell?_setCell_same' _ _ _ (by rw [hc]; rfl), by rw [World.frozen?_setCell]; exact hf, ?_⟩, ?_⟩, hB.setCell (p := ⟨W2.heap.size + 1, 0, none⟩) (by show w.heap.size ≤ W2.heap.size + 1; omega) _⟩
      · rw [World.cell?_setCell_other W ⟨W2.heap.size + 1, 0, none⟩ ⟨W2.heap.size, 6, none⟩ _ (fun e => by injection e with e1; omega)]
        exact hx
      · rw [Below.heap_setCell W ⟨W2.heap.size + 1, 0, none⟩ _ D (by show D ≠ W2.heap.size + 1; omega)]
        exact hd
    case stop2 =>
      rintro D c pre W _ _ h _
      exact h.elim
    case done2 =>
      rintro D2 ys W7 hD2 rfl ⟨⟨⟨hc7, hf7, hx7⟩, hd7⟩, hB7⟩ hK7
      have hDD : W6.heap.size ≤ D2 := hD2
      gi_wp2
      clear hBa hBr hc6 hf6 hx6 hK6
      refine ⟨by simp, .inl ⟨_, _, rfl, run_takeDeferred hK7, ?_⟩⟩
      have hP := belowK_b (w := W6) (Nat.le_refl _) W7 D2 _ (.deferred none) hDD hK7 rfl rfl
      have hKD := (hP.block D (by omega)).trans hd7
      have hB8 := hB7.trans (belowK_b (w := W6) hB6.size W7 D2 _ (.deferred none) hDD hK7 rfl rfl)
      have hBD : w.heap.size ≤ D := by have := HB2.out.size; omega
      refine ⟨by simp, .inl ⟨_, _, rfl, run_takeDeferred hKD, ?_⟩⟩
      exact ⟨_, results_tmp rfl _ _ _, rfl, hB8.trans (belowK_b (w := w) (Nat.le_refl _) _ D _ (.deferred none) hBD hKD rfl rfl)⟩
end Go.Proofs.YtpmanpckkpheeaaDoor
