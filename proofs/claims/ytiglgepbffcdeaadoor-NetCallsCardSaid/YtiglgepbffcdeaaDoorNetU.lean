/- (*net.Net).Take: it takes out. -/
import Derived.Test.YtiglgepbffcdeaaDoorNetK
namespace Go.Proofs.YtiglgepbffcdeaaDoor
open Go.RowKit
set_option linter.unusedVariables false

theorem own_blk_lt {w : World} {base : Nat} {e : TypeId} {size n : Nat} {v : Value} {xs : List Value} (h : w.ownsRow base e size v n xs) {g : Nat} (hg : v.ownBlock = some g) : g < w.heap.size := by
  rcases h.2 with ⟨rfl, _⟩ | ⟨g', cap, cur, rfl, hb, hh, _⟩
  · simp [Value.ownBlock] at hg
  · have : g' = g := by simpa [Value.ownBlock] using hg
    subst this
    exact (Array.getElem?_eq_some_iff.1 hh).1
set_option maxRecDepth 100000 in
set_option maxHeartbeats 8000000 in
theorem net_take_out {w : World} {n0 g : Nat} {v : Value} {ms : List Mm} (h : NetS w n0 g v ms) (hne : ms ≠ []) (z : Int) (hn0 : n0 ≤ w.heap.size) :
    Calls Tryd.prog 16 #[.pointer (some ⟨g, 0, none⟩), .int .i64 z, .bool false] w fun e w' =>
      ∃ (i : Nat) (hi : i < ms.length) (B1 : Option Addr) (d1 : Nat) (B2 : Option Addr) (d2 : Nat), (i : Int) = z % (ms.length : Int) ∧ e = .returned (.tuple #[ms[i].m.val B1 d1 B2 d2, .int .i64 0]) ∧ OwnM w' w.heap.size ms[i].m B1 d1 B2 d2 ∧ Taken n0 g v ms i w w' := by
  obtain ⟨A0, c0, rfl⟩ := h.form
  obtain ⟨gu, hgu⟩ : ∃ gu, A0 = some ⟨gu, 0, none⟩ := by
    rcases h.row.2 with ⟨_, h0⟩ | ⟨gu, cap, cur, e', hb, _⟩
    · exact absurd (List.eq_nil_of_length_eq_zero h0) hne
    · injection e' with e1
      exact ⟨gu, e1⟩
  subst hgu
  have H := Lib.hid h
  have hgl : gu < w.heap.size := (own_blk_lt h.row rfl)
  have HGL := Lib.hid hgl
  have HPL := Lib.hid (fun (X : World) (hX : Below w.heap.size w X) => net_place (h.below hX) hne z)
  obtain ⟨n, hN⟩ : ∃ n, ms.length = n := ⟨_, rfl⟩
  have HN := Lib.hid hN
  have hcg := h.bk.cell 0
  have hlg := h.lt
  have hnz : ¬ (n = 0) := fun e => hne (List.eq_nil_of_length_eq_zero (by rw [hN, e]))
  have hnz2 : ¬ ((n : Int) = 0) := by omega
  have hn4 : ¬ ((4096 : Int) < (n : Int)) := by have := h.le; omega
  rw [hN] at hcg
  clear h hne hN hgl
  go_enter Tryd.func16, Tryd.ntmps16
  go_wp2_with fail
  have b0 : Below w.heap.size w (w.alloc (.cells zcells 34)) := (Below.refl _ _).alloc (Nat.le_refl _) _
  have z0 : (w.alloc (.cells zcells 34)).heap[w.heap.size]? = some (.cells zcells 34 (0, 0)) := heap_alloc_new w _
  refine (HPL.out _ b0).mono ?_
  rintro en W0 ⟨⟨i, hi, hiz, rfl⟩, rfl⟩
  have H0 := Lib.hid (H.out.below b0)
  obtain ⟨W0, hW0⟩ : ∃ X, w.alloc (.cells zcells 34) = X := ⟨_, rfl⟩
  rw [hW0] at b0 z0 H0 ⊢
  have hcg0 := (b0.cell (p := ⟨g, 0, none⟩) hlg).trans hcg
  have hlg0 := H0.out.lt
  have hld := ld_msg_at H0.out.row hi
  have hin : i < n := by rw [← HN.out]; exact hi
  have hii : (i : Int) < (n : Int) := by omega
  have hxe : ∃ x, ms[i] = x := ⟨_, rfl⟩
  obtain ⟨x, hx⟩ := hxe
  have HX := Lib.hid hx
  have hown := H0.out.dat x (by rw [← hx]; exact List.getElem_mem hi)
  have hfit := H0.out.fit x (by rw [← hx]; exact List.getElem_mem hi)
  rw [hx] at hld
  obtain ⟨⟨a1, a2, a3, a4, a5, a6, a7, a8, a9, a10, a11, a12, a13, a14, a15, a16⟩, A1, c1, A2, c2⟩ := x
  have ho1 : W0.ownsRow n0 5 1 (.slice A1 a9.length c1) a9.length (bv a9) := hown.cd
  have ho2 : W0.ownsRow n0 5 1 (.slice A2 a12.length c2) a12.length (bv a12) := hown.va
  have hf1 : a9.length ≤ 65536 := hfit.1
  have hf2 : a12.length ≤ 1000 := hfit.2
  have HTW := Lib.hid (twin_lit a1 a2 a3 a4 a5 a6 a7 a8 a9 a10 a11 a12 a13 a14 a15 a16 A1 A2 c1 c2 W0.heap.size W0 (Sl.of_own ho1) (Sl.of_own ho2) (own_nil ho1) (own_nil ho2) (by omega) (by omega) (Nat.le_refl _))
  replace hld : ldR Tryd.prog 34 (.pointer (some ⟨gu, i * 16, none⟩)) W0 = .ok (.value (.agg (mcs a1 a2 a3 a4 a5 a6 a7 a8 (.slice A1 a9.length c1) a10 a11 (.slice A2 a12.length c2) a13 a14 a15 a16))) W0 := hld
  have HI := Lib.hid hi
  have HIZ := Lib.hid hiz
  have B0 := Lib.hid b0
  have Z0 := Lib.hid z0
  have hzlt : w.heap.size < W0.heap.size := (Array.getElem?_eq_some_iff.1 z0).1
  clear hx hown hfit ho1 ho2 hf1 hf2 hiz hW0 b0 z0 HPL
  go_wp2_with fail
  refine HTW.out.mono ?_
  rintro en1 W1 ⟨⟨B1, d1, B2, d2, rfl, o1, o2⟩, hb1⟩
  have hm1 : NetS W1 n0 g (.slice (some ⟨gu, 0, none⟩) ms.length c0) ms := H0.out.below hb1
  obtain ⟨W2, hW2⟩ : ∃ X, W1.alloc (.cells (mcs a1 a2 a3 a4 a5 a6 a7 a8 (.slice B1 a9.length d1) a10 a11 (.slice B2 a12.length d2) a13 a14 a15 a16) 34) = X := ⟨_, rfl⟩
  have hb2 : Below W1.heap.size W1 W2 := by rw [← hW2]; exact (Below.refl _ _).alloc (Nat.le_refl _) _
  have m2 : W2.heap[W1.heap.size]? = some (.cells (mcs a1 a2 a3 a4 a5 a6 a7 a8 (.slice B1 a9.length d1) a10 a11 (.slice B2 a12.length d2) a13 a14 a15 a16) 34 (0, 0)) := by rw [← hW2]; exact heap_alloc_new W1 _
  have hm2 := hm1.below hb2
  have q1 := owns_keep o1 hb2
  have q2 := owns_keep o2 hb2
  have B2' : Below w.heap.size w W2 := (B0.out.trans (hb1.mono B0.out.size)).trans (hb2.mono (B0.out.trans (hb1.mono B0.out.size)).size)
  have z2 : W2.heap[w.heap.size]? = some (.cells zcells 34 (0, 0)) := (hb2.block _ (by have := hb1.size; omega)).trans ((hb1.block _ hzlt).trans Z0.out)
  have hcg2 := hm2.bk.cell 0
  have hlg2 := hm2.lt
  obtain ⟨j, hj⟩ : ∃ j, i + 1 = j := ⟨_, rfl⟩
  have hrow2 := hm2.row
  rw [HN.out] at hrow2 hcg2
  have HDEL := Lib.hid (delete_msg n0 gu c0 i j n ms W2 hrow2 HN.out hin hj.symm (by omega))
  have hji : (i : Int) + 1 = (j : Int) := by omega
  have HM2 := Lib.hid hm2
  have Q1 := Lib.hid q1
  have Q2 := Lib.hid q2
  have BB2 := Lib.hid B2'
  have Z2 := Lib.hid z2
  have M2 := Lib.hid m2
  have HJ := Lib.hid hj
  have hW1lt : W0.heap.size ≤ W1.heap.size := hb1.size
  clear hm1 hb2 m2 hm2 q1 q2 B2' z2 hrow2 hj o1 o2 hb1 hld hcg0
  go_wp2_with fail
  refine HDEL.out.mono ?_
  rintro en3 W3 ⟨rfl, hown3, hg3⟩
  have hgl := HGL.out
  have D2 : NetS W2 n0 g (.slice (some ⟨gu, 0, none⟩) n c0) ms := by have h2 := HM2.out; rw [HN.out] at h2; exact h2
  have hne : some g ≠ some gu := fun e => owns_ne D2.row D2.blk (by decide) e.symm
  have hblk3 : W3.heap[g]? = some (.cells #[.slice (some ⟨gu, 0, none⟩) n c0] 101 (0, 0)) := (hg3.block g D2.lt hne).trans D2.blk
  obtain ⟨htk, hkeep⟩ := taken_close D2 HN.out hin HJ.out.symm BB2.out hown3 hg3
  have hq1 := hkeep Q1.out
  have hq2 := hkeep Q2.out
  have hz3 : (W3.setCell ⟨g, 0, none⟩ (.slice (some ⟨gu, 0, none⟩) (i + (n - j)) c0)).heap[w.heap.size]? = some (.cells zcells 34 (0, 0)) :=
    (Below.heap_setCell W3 ⟨g, 0, none⟩ _ w.heap.size (by show w.heap.size ≠ g; omega)).trans ((hg3.block w.heap.size (Array.getElem?_eq_some_iff.1 Z2.out).1 (by intro e; injection e with e; omega)).trans Z2.out)
  have hm3 : (W3.setCell ⟨g, 0, none⟩ (.slice (some ⟨gu, 0, none⟩) (i + (n - j)) c0)).heap[W1.heap.size]? = some (.cells (mcs a1 a2 a3 a4 a5 a6 a7 a8 (.slice B1 a9.length d1) a10 a11 (.slice B2 a12.length d2) a13 a14 a15 a16) 34 (0, 0)) :=
    (Below.heap_setCell W3 ⟨g, 0, none⟩ _ W1.heap.size (by show W1.heap.size ≠ g; omega)).trans ((hg3.block W1.heap.size (Array.getElem?_eq_some_iff.1 M2.out).1 (by intro e; injection e with e; omega)).trans M2.out)
  have hld3 := ldR_row (P := Tryd.prog) 34 (W3.setCell ⟨g, 0, none⟩ (.slice (some ⟨gu, 0, none⟩) (i + (n - j)) c0)) W1.heap.size 34 (mcs a1 a2 a3 a4 a5 a6 a7 a8 (.slice B1 a9.length d1) a10 a11 (.slice B2 a12.length d2) a13 a14 a15 a16) (0, 0) _ hm3 Tryd.underlying34 rfl (by kernel_rfl)
  have hst3 := stR_row (P := Tryd.prog) 34 (W3.setCell ⟨g, 0, none⟩ (.slice (some ⟨gu, 0, none⟩) (i + (n - j)) c0)) w.heap.size zcells (mcs a1 a2 a3 a4 a5 a6 a7 a8 (.slice B1 a9.length d1) a10 a11 (.slice B2 a12.length d2) a13 a14 a15 a16) hz3 rfl (by kernel_rfl) (one_all rfl)
  have hc3 := (Blk.of_heap hblk3).cell 0
  have hf3 := (Blk.of_heap hblk3).free 0
  have htk2 := htk.setRow hlg (fun k hk => by have : gu = k := by simpa [Value.ownBlock] using hk
                                              omega) hz3 (mcs a1 a2 a3 a4 a5 a6 a7 a8 (.slice B1 a9.length d1) a10 a11 (.slice B2 a12.length d2) a13 a14 a15 a16)
  have HTK := Lib.hid htk2
  have HQ1 := Lib.hid (owns_row hq1 hz3 (by decide) (mcs a1 a2 a3 a4 a5 a6 a7 a8 (.slice B1 a9.length d1) a10 a11 (.slice B2 a12.length d2) a13 a14 a15 a16))
  have HQ2 := Lib.hid (owns_row hq2 hz3 (by decide) (mcs a1 a2 a3 a4 a5 a6 a7 a8 (.slice B1 a9.length d1) a10 a11 (.slice B2 a12.length d2) a13 a14 a15 a16))
  have ZR := Lib.hid (setRow_heap _ w.heap.size zcells (mcs a1 a2 a3 a4 a5 a6 a7 a8 (.slice B1 a9.length d1) a10 a11 (.slice B2 a12.length d2) a13 a14 a15 a16) 34 (0, 0) hz3)
  have hB02 : w.heap.size ≤ W0.heap.size := B0.out.size
  clear hown3 hg3 D2 hne hblk3 htk hkeep hq1 hq2 hz3 hm3 htk2
  go_wp2_with fail
  refine bodyPost_ret (v := .tuple #[.agg (mcs a1 a2 a3 a4 a5 a6 a7 a8 (.slice B1 a9.length d1) a10 a11 (.slice B2 a12.length d2) a13 a14 a15 a16), .int .i64 0]) (results_row_tmp Tryd.results16 _ _ w.heap.size 34 (mcs a1 a2 a3 a4 a5 a6 a7 a8 (.slice B1 a9.length d1) a10 a11 (.slice B2 a12.length d2) a13 a14 a15 a16) (0, 0) _ _ rfl rfl ZR.out Tryd.underlying34 rfl (by kernel_rfl)) rfl ?_
  have hxx := HX.out
  refine ⟨i, HI.out, B1, d1, B2, d2, HIZ.out, ?_, ?_, ?_⟩
  · rw [hxx]
  · rw [hxx]; exact ⟨owns_low HQ1.out hB02, owns_low HQ2.out hB02⟩
  · rw [HN.out]
    exact HTK.out
end Go.Proofs.YtiglgepbffcdeaaDoor
