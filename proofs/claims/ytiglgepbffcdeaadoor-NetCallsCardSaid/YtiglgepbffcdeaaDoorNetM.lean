/- tidelineref13.Same of rows that are one. -/
/- (*net.Net).Drop. -/
import Derived.Test.YtiglgepbffcdeaaDoorNetW
import Derived.Deep.RegionLaw
import Derived.Test.YtiglgepbffcdeaaDoorNetE
namespace Go.Proofs.YtiglgepbffcdeaaDoor
open Go.RowKit
set_option linter.unusedVariables false
attribute [local go_sem] Oper.semAt_some

theorem sl_row {w : World} {B : Nat} {A : Option Addr} {ms : List Mm} {i : Nat} (h : Sl w B A (mcells ms)) (hi : i < ms.length) : ∃ b o, A = some ⟨b, o, none⟩ ∧ b < B ∧ RowAt w b o (mcells ms) := by
  rcases h with h | ⟨b, o, e, h1, h2⟩
  · have := congrArg List.length h
    rw [mcells_len] at this
    simp at this
    omega
  · exact ⟨b, o, e, h1, h2⟩

set_option maxRecDepth 100000 in
set_option maxHeartbeats 8000000 in
theorem rsame_msgs (A1 A2 : Option Addr) (c1 c2 : Nat) (ms ns : List Mm) (B : Nat) (w : World) (h1 : Sl w B A1 (mcells ms)) (h2 : Sl w B A2 (mcells ns)) (d1 : ∀ x ∈ ms, InM w B x) (d2 : ∀ x ∈ ns, InM w B x) (hB : B ≤ w.heap.size) (hl : ms.length ≤ 4096)
    (he : ms.map (·.m) = ns.map (·.m)) :
    Calls Tryd.prog 39 #[.slice A1 ms.length c1, .slice A2 ns.length c2] w fun e w' => e = .returned (.bool true) ∧ Below w.heap.size w w' := by
  have H1 := Lib.hid h1
  have H2 := Lib.hid h2
  have D1 := Lib.hid d1
  have D2 := Lib.hid d2
  have HE := Lib.hid he
  have hnl : ns.length = ms.length := by have := congrArg List.length he; simpa using this.symm
  obtain ⟨n, hN⟩ : ∃ n, ms.length = n := ⟨_, rfl⟩
  rw [hN] at hnl
  have HN := Lib.hid hN
  have HNN := Lib.hid hnl
  rw [hN, hnl]
  have hn4 : ¬ ((4096 : Int) < (n : Int)) := by omega
  clear h1 h2 d1 d2 he hnl hN hl
  go_enter Tryd.func39, Tryd.ntmps39
  go_wp2_with fail
  go_loopw [5] (fun s wr => ∃ k : Nat, k ≤ n ∧ s = .int .i64 (k : Int) ∧ Hid (Below w.heap.size w wr)) (fun s _ => n - (intOf s).toNat)
  case atStart => exact ⟨0, Nat.zero_le _, rfl, Lib.hid (Below.refl _ _)⟩
  case round =>
    obtain ⟨k, hk, rfl, hbw⟩ := hrel
    by_cases hlt : k < n
    · have hi1 : (k : Int) < (n : Int) := by omega
      have hk1 : k < ms.length := by rw [HN.out]; exact hlt
      have hk2 : k < ns.length := by rw [HNN.out]; exact hlt
      have hbB := hbw.out.mono hB
      obtain ⟨b1, o1, rfl, hb1, hr1⟩ := sl_row (H1.out.below hbB) hk1
      obtain ⟨b2, o2, rfl, hb2, hr2⟩ := sl_row (H2.out.below hbB) hk2
      have hld1 := ld_msg_sl (W := wr.drew) hr1 hk1 (B := 0)
      have hld2 := ld_msg_sl (W := wr.drew) hr2 hk2 (B := 0)
      have hx1 := (D1.out _ (List.getElem_mem hk1)).below hbB
      have hx2 := (D2.out _ (List.getElem_mem hk2)).below hbB
      have hee : ms[k].m = ns[k].m := by
        have h := congrArg (fun x => x[k]?) HE.out
        simpa [hk1, hk2] using h
      obtain ⟨x, hx⟩ : ∃ x, ms[k] = x := ⟨_, rfl⟩
      obtain ⟨y, hy⟩ : ∃ y, ns[k] = y := ⟨_, rfl⟩
      rw [hx] at hld1 hx1 hee
      rw [hy] at hld2 hx2 hee
      obtain ⟨m, P1, p1, P2, p2⟩ := x
      obtain ⟨m', Q1, q1, Q2, q2⟩ := y
      replace hee : m = m' := hee
      subst hee
      have hms := fun (X : World) (hX : Below wr.heap.size wr X) => msame_any m m P1 P2 Q1 Q2 p1 p2 q1 q2 wr.heap.size X ((hx1.s1.more (Nat.le_trans hB hbw.out.size)).below hX) ((hx1.s2.more (Nat.le_trans hB hbw.out.size)).below hX) ((hx2.s1.more (Nat.le_trans hB hbw.out.size)).below hX) ((hx2.s2.more (Nat.le_trans hB hbw.out.size)).below hX) hx1.k1 hx1.k2 hx2.k1 hx2.k2 hX.size
      rw [(Msg.eqb_iff _ _).2 rfl] at hms
      have HMS := Lib.hid hms
      obtain ⟨a1, a2, a3, a4, a5, a6, a7, a8, a9, a10, a11, a12, a13, a14, a15, a16⟩ := m
      replace hld1 : ldR Tryd.prog 34 (.pointer (some ⟨b1, o1 + k * 16, none⟩)) wr.drew = .ok (.value (.agg (mcs a1 a2 a3 a4 a5 a6 a7 a8 (.slice P1 a9.length p1) a10 a11 (.slice P2 a12.length p2) a13 a14 a15 a16))) wr.drew := hld1
      replace hld2 : ldR Tryd.prog 34 (.pointer (some ⟨b2, o2 + k * 16, none⟩)) wr.drew = .ok (.value (.agg (mcs a1 a2 a3 a4 a5 a6 a7 a8 (.slice Q1 a9.length q1) a10 a11 (.slice Q2 a12.length q2) a13 a14 a15 a16))) wr.drew := hld2
      have hD : Below wr.heap.size wr wr.drew := (Below.refl _ _).drew
      clear hr1 hr2 hx1 hx2 hx hy hms hbB
      go_wp2_with fail
      go_region_law (go_simp; go_at_call 32; refine (HMS.out _ hD).mono ?_; rintro en X ⟨rfl, hbX⟩)
      all_goals
        go_wp2
        go_roundw
        case rel => exact ⟨k + 1, by omega, by go_num, Lib.hid (hbw.out.trans ((hD.trans (hbX.mono hD.size)).mono hbw.out.size))⟩
        case measure => simp [intOf]; omega
    · obtain rfl : k = n := by omega
      have hend : ¬ ((k : Int) < (k : Int)) := by omega
      go_wp2_with fail
      go_ret
      exact ⟨rfl, hbw.out⟩
end Go.Proofs.YtiglgepbffcdeaaDoor
namespace Go.Proofs.YtiglgepbffcdeaaDoor
open Go.RowKit
set_option linter.unusedVariables false

set_option maxRecDepth 100000 in
set_option maxHeartbeats 8000000 in
theorem net_drop {w : World} {n0 g : Nat} {v : Value} {ms : List Mm} (h : NetS w n0 g v ms) (hne : ms ≠ []) (z : Int) :
    Calls Tryd.prog 38 #[.pointer (some ⟨g, 0, none⟩), .int .i64 z] w fun e w' => e = .returned (.int .i64 0) ∧ ∃ i : Nat, i < ms.length ∧ (i : Int) = z % (ms.length : Int) ∧ Taken n0 g v ms i w w' := by
  obtain ⟨A0, c0, rfl⟩ := h.form
  obtain ⟨gu, hgu⟩ : ∃ gu, A0 = some ⟨gu, 0, none⟩ := by
    rcases h.row.2 with ⟨_, h0⟩ | ⟨gu, cap, cur, e', hb, _⟩
    · exact absurd (List.eq_nil_of_length_eq_zero h0) hne
    · injection e' with e1
      exact ⟨gu, e1⟩
  subst hgu
  have H := Lib.hid h
  have HPL := Lib.hid (net_place h hne z)
  obtain ⟨n, hN⟩ : ∃ n, ms.length = n := ⟨_, rfl⟩
  have HN := Lib.hid hN
  have hcg := h.bk.cell 0
  have hlg := h.lt
  have hnz : ¬ (n = 0) := fun e => hne (List.eq_nil_of_length_eq_zero (by rw [hN, e]))
  have hnz2 : ¬ ((n : Int) = 0) := by omega
  have hn4 : ¬ ((4096 : Int) < (n : Int)) := by have := h.le; omega
  rw [hN] at hcg
  clear h hne hN
  go_enter Tryd.func38, Tryd.ntmps38
  go_wp2_with fail
  refine HPL.out.mono ?_
  rintro en W0 ⟨⟨i, hi, hiz, rfl⟩, rfl⟩
  have hin : i < n := by rw [← HN.out]; exact hi
  have hii : (i : Int) < (n : Int) := by omega
  obtain ⟨j, hj⟩ : ∃ j, i + 1 = j := ⟨_, rfl⟩
  have D0 : NetS W0 n0 g (.slice (some ⟨gu, 0, none⟩) n c0) ms := by have h2 := H.out; rw [HN.out] at h2; exact h2
  have HDEL := Lib.hid (delete_msg n0 gu c0 i j n ms W0 (by have h2 := D0.row; rw [HN.out] at h2; exact h2) HN.out hin hj.symm (by omega))
  have hji : (i : Int) + 1 = (j : Int) := by omega
  have HJ := Lib.hid hj
  have HD0 := Lib.hid D0
  have HI := Lib.hid hi
  have HIZ := Lib.hid hiz
  clear hj D0 hiz hi
  go_wp2_with fail
  refine HDEL.out.mono ?_
  rintro en3 W3 ⟨rfl, hown3, hg3⟩
  have hne3 : some g ≠ some gu := fun e => owns_ne HD0.out.row HD0.out.blk (by decide) e.symm
  have hblk3 : W3.heap[g]? = some (.cells #[.slice (some ⟨gu, 0, none⟩) n c0] 101 (0, 0)) := (hg3.block g HD0.out.lt hne3).trans HD0.out.blk
  obtain ⟨htk, -⟩ := taken_close HD0.out HN.out hin HJ.out.symm (Below.refl _ _) hown3 hg3
  have hc3 := (Blk.of_heap hblk3).cell 0
  have hf3 := (Blk.of_heap hblk3).free 0
  have HTK := Lib.hid htk
  clear hown3 hg3 hne3 hblk3 htk
  go_wp2_with fail
  go_ret
  refine ⟨rfl, i, HI.out, HIZ.out, ?_⟩
  rw [HN.out]
  exact HTK.out

set_option maxHeartbeats 4000000 in
theorem net_drop_none {w : World} {n0 g : Nat} {v : Value} (h : NetS w n0 g v []) (z : Int) :
    Calls Tryd.prog 38 #[.pointer (some ⟨g, 0, none⟩), .int .i64 z] w fun e w' => e = .returned (.int .i64 5) ∧ w' = w := by
  obtain ⟨A0, c0, rfl⟩ := h.form
  have hcg := h.bk.cell 0
  have hlg := h.lt
  have hl0 : ([] : List Mm).length = 0 := rfl
  rw [hl0] at hcg
  clear h hl0
  go_enter Tryd.func38, Tryd.ntmps38
  go_wp2_with fail
  go_ret
  exact ⟨rfl, rfl⟩
end Go.Proofs.YtiglgepbffcdeaaDoor
