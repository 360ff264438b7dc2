/- each's closure: every message under way, as a copy of its own. -/
import Derived.Test.YtiglgepbffcdeaaDoorNetA
namespace Go.Proofs.YtiglgepbffcdeaaDoor
open Go.RowKit Go.Shelf
set_option linter.unusedVariables false
attribute [local go_sem] Oper.semAt_some

theorem semAt_load_msg (ro : Option Nat) (ev : Operand → Value) (d : Option Tmp) (t : TypeId) (x : Operand) (p : String) (af : Array Edge) (g : Option (Nat × Bool)) (w : World) :
    (Oper.semAt ro ev ⟨d, .load 34 x, t, p, af, g⟩).run Tryd.prog w = ldR Tryd.prog 34 (ev x) w := by
  rw [Oper.semAt_eq ro ev _ (by intro c hc; cases hc)]
  exact exec_load ev d _ t x p af g w
theorem semAt_store_msg (ro : Option Nat) (ev : Operand → Value) (d : Option Tmp) (t : TypeId) (x y : Operand) (p : String) (af : Array Edge) (g : Option (Nat × Bool)) (w : World) :
    (Oper.semAt ro ev ⟨d, .store 34 x y, t, p, af, g⟩).run Tryd.prog w = stR Tryd.prog 34 (ev x) (ev y) w := by
  rw [Oper.semAt_eq ro ev _ (by intro c hc; cases hc)]
  exact exec_store ev d _ t x y p af g w
attribute [go_sem ↓] semAt_load_msg semAt_store_msg

set_option maxRecDepth 100000 in
set_option maxHeartbeats 8000000 in
theorem each1_in (F : Fence) (n : Nat) (h7 : F.fn 118) (h59 : F.fn 59) (hro : F.round = none) (hn : 1 ≤ n) (hFt : ∀ {w : World} {args : Array Value} {R : Ending → World → Prop}, Calls Tryd.prog 59 args w R → CallsIn F (n - 1) Tryd.prog 59 args w R)
    (l Bs : Nat) {w0 : World} {n0 g : Nat} {v : Value} {ms : List Mm} (h : NetS w0 n0 g v ms) (J : List Mm → World → Prop)
    (hJ : ∀ pre W W', J pre W → Below W.heap.size W W' → J pre W') (hJb : ∀ pre W, J pre W → Below w0.heap.size w0 W) (hJc : ∀ pre W, J pre W → W.cell? ⟨Bs, 0, none⟩ = some (.pointer (some ⟨g, 0, none⟩)))
    (hY : ∀ pre (x : Mm) W, J pre W → x.own W w0.heap.size → pre.length < ms.length → YieldAt F (n - 1) Tryd.prog l #[x.val] W fun e W' => e = .returned (.bool true) ∧ J (pre ++ [x]) W')
    (W : World) (h0 : J [] W) :
    CallsIn F n Tryd.prog 118 #[.func (.yield l) #[] #[], .pointer (some ⟨Bs, 0, none⟩)] W fun e W' => (∃ v, e = .returned v) ∧ ∃ ys : List Mm, ys.map (·.m) = ms.map (·.m) ∧ J ys W' := by
  obtain ⟨A0, c0, rfl⟩ := h.form
  have H := Lib.hid h
  have HJ := Lib.hid hJ
  have HJB := Lib.hid hJb
  have HJC := Lib.hid hJc
  have HY := Lib.hid hY
  have H0 := Lib.hid h0
  obtain ⟨q, hQ⟩ : ∃ q, ms.length = q := ⟨_, rfl⟩
  have HQ := Lib.hid hQ
  have hBs := hJc [] W h0
  have hcg : W.cell? ⟨g, 0, none⟩ = some (.slice A0 q c0) := by
    have h1 := ((hJb [] W h0).cell (p := ⟨g, 0, none⟩) h.lt).trans (h.bk.cell 0)
    rw [hQ] at h1
    exact h1
  have hq4 : ¬ ((4096 : Int) < (q : Int)) := by have := h.le; omega
  clear h hJ hJb hJc hY h0 hQ
  refine callsIn_of_wp Tryd.func118 rfl h7 ?_ hro
  simp only [Tryd.ntmps118, List.size_toArray, List.length_cons, List.length_nil, Nat.reduceAdd, Nat.reduceSub, Array.replicate_succ, Array.replicate_zero, List.push_toArray, List.append_toArray, List.nil_append, List.cons_append]
  gi_wp2
  gi_loopw [10] (fun i wr => ∃ (k : Nat) (pre : List Mm), k ≤ q ∧ i = .int .i64 (k : Int) ∧ pre.length = k ∧ Hid (pre.map (·.m) = (ms.take k).map (·.m)) ∧ Hid (J pre wr)) (fun i _ => q - (intOf i).toNat)
  case atStart => exact ⟨0, [], Nat.zero_le _, rfl, rfl, Lib.hid (by simp), H0⟩
  case round =>
    obtain ⟨k, pre, hk, rfl, hpl, hpm, hJs⟩ := hrel
    have HPL := Lib.hid hpl
    clear hpl
    by_cases hlt : k < q
    · have hi1 : (k : Int) < (q : Int) := by omega
      have hkm : k < ms.length := by rw [HQ.out]; exact hlt
      obtain ⟨gu, hgu⟩ : ∃ gu, A0 = some ⟨gu, 0, none⟩ := by
        rcases H.out.row.2 with ⟨_, h0⟩ | ⟨gu, cap, cur, e', hb, _⟩
        · omega
        · injection e' with e1
          exact ⟨gu, e1⟩
      subst hgu
      have hb := HJB.out pre wr hJs.out
      have hS := H.out.below hb
      have hld := ld_msg_at hS.row hkm
      have hown := hS.dat ms[k] (List.getElem_mem hkm)
      have hfit := hS.fit ms[k] (List.getElem_mem hkm)
      have htk : ms.take (k + 1) = ms.take k ++ [ms[k]] := List.take_succ_eq_append_getElem hkm
      obtain ⟨x, hx⟩ : ∃ x, ms[k] = x := ⟨_, rfl⟩
      rw [hx] at hld hown hfit htk
      obtain ⟨⟨a1, a2, a3, a4, a5, a6, a7, a8, a9, a10, a11, a12, a13, a14, a15, a16⟩, A1, c1, A2, c2⟩ := x
      replace hld : ldR Tryd.prog 34 (.pointer (some ⟨gu, k * 16, none⟩)) wr = .ok (.value (.agg (mcs a1 a2 a3 a4 a5 a6 a7 a8 (.slice A1 a9.length c1) a10 a11 (.slice A2 a12.length c2) a13 a14 a15 a16))) wr := hld
      have ho1 : wr.ownsRow n0 5 1 (.slice A1 a9.length c1) a9.length (bv a9) := hown.cd
      have ho2 : wr.ownsRow n0 5 1 (.slice A2 a12.length c2) a12.length (bv a12) := hown.va
      have hf1 : a9.length ≤ 65536 := hfit.1
      have hf2 : a12.length ≤ 1000 := hfit.2
      obtain ⟨W3, hW3⟩ : ∃ X, wr.alloc (.cells (mcs a1 a2 a3 a4 a5 a6 a7 a8 (.slice A1 a9.length c1) a10 a11 (.slice A2 a12.length c2) a13 a14 a15 a16) 34) = X := ⟨_, rfl⟩
      have hb3 : Below wr.heap.size wr W3 := by rw [← hW3]; exact (Below.refl _ _).alloc (Nat.le_refl _) _
      have m3 : W3.heap[wr.heap.size]? = some (.cells (mcs a1 a2 a3 a4 a5 a6 a7 a8 (.slice A1 a9.length c1) a10 a11 (.slice A2 a12.length c2) a13 a14 a15 a16) 34 (0, 0)) := by rw [← hW3]; exact heap_alloc_new wr _
      have hld3 := ldR_row (P := Tryd.prog) 34 W3 wr.heap.size 34 (mcs a1 a2 a3 a4 a5 a6 a7 a8 (.slice A1 a9.length c1) a10 a11 (.slice A2 a12.length c2) a13 a14 a15 a16) (0, 0) _ m3 Tryd.underlying34 rfl (by kernel_rfl)
      have HTW := Lib.hid (hFt (twin_lit a1 a2 a3 a4 a5 a6 a7 a8 a9 a10 a11 a12 a13 a14 a15 a16 A1 A2 c1 c2 W3.heap.size W3 (Sl.of_own (owns_keep ho1 hb3)) (Sl.of_own (owns_keep ho2 hb3)) (own_nil ho1) (own_nil ho2) (by omega) (by omega) (Nat.le_refl _)))
      have HJ3 := Lib.hid (HJ.out pre wr W3 hJs.out hb3)
      have HB3 : Hid (w0.heap.size ≤ W3.heap.size) := Nat.le_trans hb.size hb3.size
      have HTK := Lib.hid htk
      clear hS hown hfit htk hx ho1 ho2 hf1 hf2 hb3 m3 hb
      gi_wp2
      refine HTW.out.mono ?_
      rintro e W5 ⟨⟨B1, d1, B2, d2, rfl, p1, p2⟩, hb5⟩
      have hJ5 := HJ.out pre W3 W5 HJ3.out hb5
      obtain ⟨fn, tmps, assign, body, hy, hR⟩ := HY.out pre ⟨Msg.mk a1 a2 a3 a4 a5 a6 a7 a8 a9 a10 a11 a12 a13 a14 a15 a16, B1, d1, B2, d2⟩ W5 hJ5 ⟨owns_low p1 HB3.out, owns_low p2 HB3.out⟩ (by rw [HPL.out]; exact hkm)
      replace hy : (Instr.yield l #[.agg (mcs a1 a2 a3 a4 a5 a6 a7 a8 (.slice B1 a9.length d1) a10 a11 (.slice B2 a12.length d2) a13 a14 a15 a16)]).run Tryd.prog W5 = .ok (.round l fn tmps assign body) W5 := hy
      clear p1 p2 hb5 hJ5 hld hld3
      gi_wp2
      refine hR.mono ?_
      rintro e W6 ⟨rfl, hJ6⟩
      have HJ6 := Lib.hid hJ6
      clear hJ6 hy
      gi_wp2
      go_roundw
      case rel => exact ⟨k + 1, _, by omega, by go_num, by rw [List.length_append, HPL.out]; rfl, by rw [List.map_append, hpm.out, HTK.out, List.map_append]; rfl, HJ6⟩
      case measure => simp [intOf]; omega
    · obtain rfl : k = q := by omega
      have hend : ¬ ((k : Int) < (k : Int)) := by omega
      gi_wp2
      go_end0
      refine ⟨⟨_, rfl⟩, pre, ?_, hJs.out⟩
      have h1 := hpm.out
      rw [List.take_of_length_le (Nat.le_of_eq HQ.out)] at h1
      exact h1
end Go.Proofs.YtiglgepbffcdeaaDoor
