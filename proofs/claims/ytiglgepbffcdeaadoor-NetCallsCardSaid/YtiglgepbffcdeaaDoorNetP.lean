/- (*net.Net).Put. -/
import Derived.Test.YtiglgepbffcdeaaDoorNetS
import Derived.Deep.AppendLies
import Derived.Deep.RegionLaw
namespace Go.Proofs.YtiglgepbffcdeaaDoor
open Go.RowKit
set_option linter.unusedVariables false

/-- Behind a Put that was taken. -/
def Putted (n0 g : Nat) (v : Value) (ms : List Mm) (m : Msg) (w w' : World) : Prop :=
  ∃ v' x, x.m = m ∧ NetS w' n0 g v' (ms ++ [x]) ∧ Fr (NM g v) w w' ∧ (∀ k, v'.ownBlock = some k → v.ownBlock = some k ∨ w.heap.size ≤ k)

/-- Behind the append: the net's own cell. -/
theorem net_grown {w w2 : World} {n0 g : Nat} {v : Value} {ms : List Mm} {o : Obj} (h : NetS w n0 g v ms) (hg : (w.alloc o).grownBy w2 v.ownBlock) : w2.heap[g]? = some (.cells #[v] 101 (0, 0)) := by
  have hne : some g ≠ v.ownBlock := fun e => owns_ne h.row h.blk (by decide) e.symm
  exact (hg.block g (by simp; have := h.lt; omega) hne).trans ((Below.heap_alloc _ _ g h.lt).trans h.blk)
theorem net_put_close {w w1 w2 : World} {n0 g gg cap : Nat} {v : Value} {ms : List Mm} {x : Mm} {o : Obj} (D : NetS w1 n0 g v ms) (hlen : ms.length < 4096) (hn0 : n0 ≤ w.heap.size) (hb : Below w.heap.size w w1)
    (hx : x.own w1 w.heap.size) (hfit : x.m.cd.length ≤ 65536 ∧ x.m.va.length ≤ 1000)
    (hown2 : w2.ownsRow n0 34 16 (.slice (some ⟨gg, 0, none⟩) (ms.length + 1) cap) (ms.length + 1) (mcells ms ++ x.cs))
    (hgrow : (w1.alloc o).grownBy w2 v.ownBlock) (hat : v.ownBlock = some gg ∨ gg = w1.heap.size + 1) :
    Putted n0 g v ms x.m w (w2.setCell ⟨g, 0, none⟩ (.slice (some ⟨gg, 0, none⟩) (ms.length + 1) cap)) := by
  have hblk := net_grown D hgrow
  have f1 : Fr (NM g v) w1 w2 := ((Fr.refl _ w1).alloc o).grown hgrow (fun k hk _ => .inr hk)
  have f2 := fr_set w2 g 0 (.slice (some ⟨gg, 0, none⟩) (ms.length + 1) cap)
  have keepB : ∀ {base n : Nat} {u : Value} {xs : List Value}, w1.ownsRow base 5 1 u n xs → (w2.setCell ⟨g, 0, none⟩ (.slice (some ⟨gg, 0, none⟩) (ms.length + 1) cap)).ownsRow base 5 1 u n xs := by
    intro base n u xs hu
    have h2 := f1.owns hu (fun k hk hm => by
      rcases hm with rfl | hm
      · exact owns_ne hu D.blk (by decide) hk
      · exact owns_apart hu D.row (by decide) k hk hm)
    exact f2.owns h2 (info_apart h2 hblk (by decide))
  refine ⟨.slice (some ⟨gg, 0, none⟩) (ms.length + 1) cap, x, rfl, ⟨D.ge, blk_set hblk _, ?_, ?_, ?_, by simp; omega⟩, ?_, ?_⟩
  · rw [mcells_app, mcells_one, List.length_append]
    exact f2.owns hown2 (info_apart hown2 hblk (by decide))
  · intro y hy
    rcases List.mem_append.1 hy with hy | hy
    · exact ⟨keepB (D.dat y hy).cd, keepB (D.dat y hy).va⟩
    · rw [List.mem_singleton.1 hy]
      exact ⟨owns_low (keepB hx.cd) hn0, owns_low (keepB hx.va) hn0⟩
  · intro y hy
    rcases List.mem_append.1 hy with hy | hy
    · exact D.fit y hy
    · rw [List.mem_singleton.1 hy]; exact hfit
  · exact (((Fr.of_below hb).trans f1 (fun _ _ h => h)).trans f2 (fun i _ e => .inl e))
  · intro k hk
    simp [Value.ownBlock] at hk
    subst hk
    rcases hat with h | h
    · exact .inl h
    · have := hb.size; exact .inr (by omega)
theorem info_msg : (Tryd.prog.info? 34).map (fun i => (i.zero, i.size, i.bytes)) = some (some (.agg zcells), 16, 160) := by kernel_rfl

set_option maxRecDepth 100000 in
set_option maxHeartbeats 8000000 in
theorem net_put_lit (a1 a2 a3 : Int) (a4 : Bool) (a5 a6 a7 a8 : Int) (a9 : List UInt8) (a10 a11 : Int) (a12 : List UInt8) (a13 a14 a15 a16 : Int) (A1 A2 : Option Addr) (c1 c2 B : Nat) {w : World} {n0 g : Nat} {v : Value} {ms : List Mm}
    (h : NetS w n0 g v ms) (hlen : ms.length < 4096) (hT : Tab w) (h1 : Sl w B A1 (bv a9)) (h2 : Sl w B A2 (bv a12)) (n1 : A1 = none → c1 = 0) (n2 : A2 = none → c2 = 0) (hB : B ≤ w.heap.size) (hn0 : n0 ≤ w.heap.size)
    (hr : (Msg.mk a1 a2 a3 a4 a5 a6 a7 a8 a9 a10 a11 a12 a13 a14 a15 a16).right = true) :
    Calls Tryd.prog 14 #[.pointer (some ⟨g, 0, none⟩), .agg (mcs a1 a2 a3 a4 a5 a6 a7 a8 (.slice A1 a9.length c1) a10 a11 (.slice A2 a12.length c2) a13 a14 a15 a16)] w fun e w' =>
      e = .returned (.int .i64 0) ∧ Putted n0 g v ms (Msg.mk a1 a2 a3 a4 a5 a6 a7 a8 a9 a10 a11 a12 a13 a14 a15 a16) w w' := by
  obtain ⟨A0, c0, rfl⟩ := h.form
  have H := Lib.hid h
  have HR := Lib.hid hr
  have HLEN := Lib.hid hlen
  have hz : a9.length ≤ 65536 ∧ a12.length ≤ 1000 := by unfold Msg.right at hr; have h := of_decide_eq_true hr; exact ⟨h.2.2.2.2.2.2.2.2.1, h.2.2.2.2.2.2.2.2.2⟩
  have HZ := Lib.hid hz
  have HENC := Lib.hid (fun (X : World) (hX : Below w.heap.size w X) => rpcenc_ok (Msg.mk a1 a2 a3 a4 a5 a6 a7 a8 a9 a10 a11 a12 a13 a14 a15 a16) A1 A2 c1 c2 B X (hT.below (Nat.lt_of_lt_of_le hT.1 (Nat.le_refl _)) hX) (h1.below (hX.mono hB)) (h2.below (hX.mono hB)) n1 n2 (Nat.le_trans hB hX.size) hr)
  have HTW := Lib.hid (fun (X : World) (hX : Below w.heap.size w X) => twin_lit a1 a2 a3 a4 a5 a6 a7 a8 a9 a10 a11 a12 a13 a14 a15 a16 A1 A2 c1 c2 B X (h1.below (hX.mono hB)) (h2.below (hX.mono hB)) n1 n2 (by omega) (by omega) (Nat.le_trans hB hX.size))
  obtain ⟨q, hq⟩ : ∃ q, ms.length = q := ⟨_, rfl⟩
  have HQ := Lib.hid hq
  rw [hq] at H ⊢
  have hq4 : ¬ ((4096 : Int) ≤ (q : Int)) := by omega
  have hcg := h.bk.cell 0
  rw [hq] at hcg
  have hlg := h.lt
  clear h hr hlen hz h1 h2 n1 n2 hT hq
  go_enter Tryd.func14, Tryd.ntmps14
  go_wp2_with fail
  refine (HENC.out _ ((Below.refl _ _).alloc (Nat.le_refl _) _)).mono ?_
  rintro en W1 ⟨⟨AE, cE, rfl, -⟩, hb1⟩
  obtain ⟨le, hle⟩ : ∃ n, (wrapped (encMsg (Msg.mk a1 a2 a3 a4 a5 a6 a7 a8 a9 a10 a11 a12 a13 a14 a15 a16))).length = n := ⟨_, rfl⟩
  rw [hle]
  have m1 : W1.heap[w.heap.size]? = some (.cells (mcs a1 a2 a3 a4 a5 a6 a7 a8 (.slice A1 a9.length c1) a10 a11 (.slice A2 a12.length c2) a13 a14 a15 a16) 34 (0, 0)) := (hb1.block _ (by simp)).trans (heap_alloc_new w _)
  have B1 : Below w.heap.size w W1 := ((Below.refl _ _).alloc (Nat.le_refl _) _).trans (hb1.mono (by simp))
  have hcg1 := (B1.cell (p := ⟨g, 0, none⟩) hlg).trans hcg
  have qm := (Blk.of_heap m1).cell
  have hlm := (Array.getElem?_eq_some_iff.1 m1).1
  have BB1 := Lib.hid B1
  have M1 := Lib.hid m1
  clear hle hb1 m1 B1
  go_wp2_with fail
  have H63 : Hid (q + 1 ≤ maxLen) := by have h1 := HQ.out; have h2 := HLEN.out; show _ ≤ _; unfold maxLen; omega
  have HBY : Hid ((q + 1) * 160 ≤ 140737488355328) := by have h1 := HQ.out; have h2 := HLEN.out; show _ ≤ _; omega
  have hD : Below w.heap.size w W1.drew := BB1.out.drew
  have hrow := fun (X : World) (hX : Below w.heap.size w X) => (H.out.below hX).row
  rw [HQ.out] at hrow
  have HROW := Lib.hid hrow
  clear hrow
  go_region_law
    (first
      | (obtain ⟨i0, hi0, hz0, hz1, hz2⟩ := info_parts info_msg
         refine step_append_lies _ (by rfl) _ _ _ (by rfl) n0 34 i0 _ 16 160 Tryd.underlying56 hi0 hz0 hz1 hz2 rfl (by omega) (.slice A0 q c0) q (mcells ms) (by rfl) ((HROW.out _ bT).alloc _)
           ⟨WT.heap.size, 0, none⟩ 1 1 (mcs a1 a2 a3 a4 a5 a6 a7 a8 (.slice B1 a9.length d1) a10 a11 (.slice B2 a12.length d2) a13 a14 a15 a16).toList (by rfl) (by rfl) (World.news_of_block (t := 34) (fr := (0, 0)) (heap_alloc_new WT _)) (by simp [Value.oneCell'])
           (by omega) H63.out HBY.out (by have := bT.size; simp; omega) (WT.heap.size + 1) (by simp) ?_
         intro gg cap w2 hown2 hgrow hat hlt2
         clear hi0 hz0 hz1 hz2 i0
         have hblk := net_grown (H.out.below bT) hgrow
         have hc2 := (Blk.of_heap hblk).cell 0
         have hf2 := (Blk.of_heap hblk).free 0)
      | (go_simp; go_at_call 59
         refine (HTW.out _ hD).mono ?_
         rintro e WT ⟨⟨B1, d1, B2, d2, rfl, o1, o2⟩, hbT⟩
         have bT : Below w.heap.size w WT := hD.trans (hbT.mono hD.size)
         have hct := (bT.cell (p := ⟨g, 0, none⟩) hlg).trans hcg
         have hlgT : g < WT.heap.size := Nat.lt_of_lt_of_le hlg bT.size))
  all_goals
    go_wp2
    go_ret
    rw [← HQ.out] at hown2
    have hcl := net_put_close (x := ⟨Msg.mk a1 a2 a3 a4 a5 a6 a7 a8 a9 a10 a11 a12 a13 a14 a15 a16, B1, d1, B2, d2⟩) (H.out.below bT) HLEN.out hn0 bT ⟨owns_low o1 hD.size, owns_low o2 hD.size⟩ HZ.out hown2 hgrow hat
    rw [HQ.out] at hcl
    exact ⟨rfl, hcl⟩
end Go.Proofs.YtiglgepbffcdeaaDoor
