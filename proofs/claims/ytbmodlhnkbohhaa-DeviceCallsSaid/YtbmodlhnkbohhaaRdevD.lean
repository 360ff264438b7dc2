/- tidelineref08: Append. -/
import Derived.Test.YtbmodlhnkbohhaaRdevC
import Derived.Test.YtbmodlhnkbohhaaAppB
import Derived.Deep.RegionLaw
namespace Go.Proofs.Ytbmodlhnkbohhaa
open Go.RowKit
set_option linter.unusedVariables false

/-- append(v, x...) of bytes, at a step of a region that draws its order. -/
theorem step_append_bytes {ops : Array Oper} {o : Oper} {a : Act} {w : World} {K : Act → World → Prop} {Q : Exit → Act → World → Prop} {E : Prop} (hg : o.guard = none) (s x : Operand)
    (hop : o.op = .call { callee := .builtin .append, args := #[s, x], argTypes := #[23, 23] })
    (base : Nat) (v : Value) (n : Nat) (xs : List UInt8) (hs : a.eval s = v) (hown : w.ownsRow base 5 1 v n (bv xs))
    (A : Option Addr) (c B : Nat) (l : List UInt8) (hx : a.eval x = .slice A l.length c) (hn : A = none → c = 0) (hsl : Sl w B A (bv l)) (hl : n + l.length ≤ 70368744177664) (hbase : base ≤ w.heap.size)
    (hK : ∀ v' w', w'.ownsRow base 5 1 v' (n + l.length) (bv (xs ++ l)) → Below base w w' → K (a.put o.dst v') w') : if Region.wanted o (yielded ops a.tmps) = true then Oper.wp Try.prog o a w K Q else E := by
  rw [if_pos (by simp [Region.wanted, hg])]
  obtain ⟨i0, hi, hz0, hz1, hz2⟩ := info_parts Try.info_u8
  cases A with
  | some ad =>
    refine wp_append_own w s x 23 hop base 5 i0 (.int .u8 0) 1 1 Try.underlying23 hi hz0 hz1 hz2 rfl (by decide) v n (bv xs) hs hown ad l.length c (bv l) hx (by rw [bv_len, Nat.mul_one]) hsl.news (bv_one l) (by unfold maxLen; omega) (by omega) hbase ?_
    intro v' w' h1 h2 _
    exact hK v' w' (by rw [bv_app]; exact h1) ((Below.refl _ _).grown h2 hbase (fun k hk => owns_ge hown k hk))
  | none =>
    obtain rfl := hn rfl
    have hl0 : l = [] := by
      rcases hsl with h | ⟨b, o, e, _⟩
      · simpa [bv] using h
      · cases e
    subst hl0
    have hr := run_append_owned_none (P := Try.prog) w base 23 o.type 5 i0 1 Try.underlying23 hi v n (bv xs) hown
    unfold Oper.wp execOp
    have hx' : a.eval x = .slice none 0 0 := hx
    simp only [hop, resolve, invoke, builtin, Sem.run_bind, Sem.run_pure, Result.andThen_ok, List.map_toArray, List.map_cons, List.map_nil, hs, hx', hr]
    exact hK v w (by simpa using hown) (Below.refl _ _)

theorem rappend_full {w : World} {n0 g R : Nat} {rs : List Rp} (h : RDev w n0 g R rs) (hfull : rnext rs.length rs = rs.length) (x : Value) :
    Calls Try.prog 20 #[.pointer (some ⟨g, 0, none⟩), x] w fun e w' => e = .returned (.int .i64 4) ∧ w' = w := by
  have hc := (Blk.of_heap h.blk).cell 0
  have H := Lib.hid h
  have HF := Lib.hid hfull
  clear h hfull
  go_enter Try.func20, Try.ntmps20
  go_wp2_with fail
  refine (rnext_any H.out).mono ?_
  rintro e w' ⟨rfl, rfl⟩
  rw [HF.out]
  go_wp2
  go_ret
  exact ⟨rfl, rfl⟩

theorem rput_close {w W1 : World} {n0 g R k c1 : Nat} {rs : List Rp} {b : List UInt8} {A1 : Option Addr} (H : RDev w n0 g R rs) (hk : k < rs.length) (hn0 : n0 ≤ w.heap.size) (hb : Below w.heap.size w W1)
    (ho : W1.ownsRow w.heap.size 5 1 (.slice A1 (0 + b.length) c1) (0 + b.length) (bv ([] ++ b))) :
    ∃ p : Rp, p.st = 1 ∧ p.l = b ∧ p.la = false ∧ RDev (((W1.setCell ⟨R, k * 3, none⟩ (.int .i64 1)).setCell ⟨R, k * 3 + 1, none⟩ (.slice A1 b.length c1)).setCell ⟨R, k * 3 + 2, none⟩ (.bool false)) n0 g R (rs.set k p) ∧
      RFr g R w (((W1.setCell ⟨R, k * 3, none⟩ (.int .i64 1)).setCell ⟨R, k * 3 + 1, none⟩ (.slice A1 b.length c1)).setCell ⟨R, k * 3 + 2, none⟩ (.bool false)) ∧ (∀ i, (Value.slice p.A p.l.length p.c).ownBlock = some i → w.heap.size ≤ i) := by
  rw [Nat.zero_add, List.nil_append] at ho
  have f : Fr (fun k => k = R) W1 (((W1.setCell ⟨R, k * 3, none⟩ (.int .i64 1)).setCell ⟨R, k * 3 + 1, none⟩ (.slice A1 b.length c1)).setCell ⟨R, k * 3 + 2, none⟩ (.bool false)) :=
    Fr.setCell (M := fun k => k = R) (p := ⟨R, k * 3 + 2, none⟩) (Fr.setCell (M := fun k => k = R) (p := ⟨R, k * 3 + 1, none⟩) (Fr.setCell (M := fun k => k = R) (p := ⟨R, k * 3, none⟩) (Fr.refl _ W1) (fun _ => rfl) _) (fun _ => rfl) _) (fun _ => rfl) _
  have hRl : R < w.heap.size := (Array.getElem?_eq_some_iff.1 H.row).1
  have hgl : g < w.heap.size := (Array.getElem?_eq_some_iff.1 H.blk).1
  have hr1 : W1.heap[R]? = _ := (hb.block R hRl).trans H.row
  have hg1 : W1.heap[g]? = _ := (hb.block g hgl).trans H.blk
  have fW : Fr (fun _ => False) w W1 := Fr.of_below hb
  have keep : ∀ {base n c : Nat} {A : Option Addr} {xs : List Value}, W1.ownsRow base 5 1 (.slice A n c) n xs → (((W1.setCell ⟨R, k * 3, none⟩ (.int .i64 1)).setCell ⟨R, k * 3 + 1, none⟩ (.slice A1 b.length c1)).setCell ⟨R, k * 3 + 2, none⟩ (.bool false)).ownsRow base 5 1 (.slice A n c) n xs :=
    fun hx => f.owns hx (fun i hi e => owns_ne hx hr1 (by decide) (by rw [hi, e]))
  refine ⟨⟨1, A1, c1, b, false⟩, rfl, rfl, rfl, ⟨H.ge, H.geR, H.ne, ?_, ?_, ?_, by rw [List.length_set]; exact H.rm⟩, ?_, ?_⟩
  · rw [List.length_set]
    exact f.cells hg1 (fun e => H.ne e)
  · rw [blk_set (blk_set (blk_set hr1 _) _) _, rcells_set]
    simp
  · intro p hp
    rcases List.mem_or_eq_of_mem_set hp with hp | rfl
    · exact keep (fW.owns (H.pgs p hp) (fun _ _ x => x))
    · have h2 := keep ho
      refine ⟨h2.1, ?_⟩
      rcases h2.2 with h0 | ⟨g', cap', cur, q1, q2, r⟩
      · exact .inl h0
      · exact .inr ⟨g', cap', cur, q1, by omega, r⟩
  · exact ((Fr.of_below (M := fun k => k = g ∨ k = R) hb).trans f (fun _ _ e => .inr e))
  · intro i hi
    rcases ho.2 with ⟨h0, _⟩ | ⟨g', cap', cur, e1, e2, r⟩
    · injection h0 with h0
      simp [Value.ownBlock, h0] at hi
    · injection e1 with e1
      simp [Value.ownBlock, e1] at hi
      omega

set_option maxRecDepth 100000 in
set_option maxHeartbeats 4000000 in
theorem rappend_ok {w : World} {n0 g R : Nat} {rs : List Rp} (h : RDev w n0 g R rs) (k : Nat) (hk : rnext rs.length rs = k) (hlt : k < rs.length) (A : Option Addr) (c B : Nat) (b : List UInt8) (hb : Sl w B A (bv b)) (hn : A = none → c = 0) (hl : b.length ≤ 70368744177664) (hB : B ≤ w.heap.size) (hn0 : n0 ≤ w.heap.size) :
    Calls Try.prog 20 #[.pointer (some ⟨g, 0, none⟩), .slice A b.length c] w fun e w' => e = .returned (.int .i64 0) ∧ ∃ p : Rp, p.st = 1 ∧ p.l = b ∧ p.la = false ∧ RDev w' n0 g R (rs.set k p) ∧ RFr g R w w' ∧ (∀ i, (Value.slice p.A p.l.length p.c).ownBlock = some i → w.heap.size ≤ i) := by
  obtain ⟨n, hnn⟩ : ∃ n, rs.length = n := ⟨_, rfl⟩
  have HN := Lib.hid hnn
  have hc : w.cell? ⟨g, 0, none⟩ = some (.slice (some ⟨R, 0, none⟩) n n) := by rw [(Blk.of_heap h.blk).cell 0, hnn]; rfl
  have hgl : g < w.heap.size := (Array.getElem?_eq_some_iff.1 h.blk).1
  have hRl : R < w.heap.size := (Array.getElem?_eq_some_iff.1 h.row).1
  have H := Lib.hid h
  have HK := Lib.hid hk
  have hkn : (k : Int) < (n : Int) := by omega
  have hne : ((k : Int) == (n : Int)) = false := by rw [beq_eq_false_iff_ne]; omega
  have LL : Hid (0 + b.length ≤ 70368744177664) := by show _ ≤ _; omega
  have HNN := Lib.hid hn
  clear h hk hn
  go_enter Try.func20, Try.ntmps20
  go_wp2_with fail
  refine (rnext_any H.out).mono ?_
  rintro e w' ⟨rfl, rfl⟩
  rw [HK.out]
  go_wp2_with fail
  have hkr : k < rs.length := by have := HN.out; omega
  have hwc := rcells_at rs k rs[k] (List.getElem?_eq_getElem hkr)
  have hB0 : Below w'.heap.size w' (w'.drew.alloc (.cells #[] 5)) := (bdrewN_refl _ w' 1).alloc (Nat.le_refl _) _
  have HW := Lib.hid hwc
  clear hwc
  go_region_law
    (first
      | (refine step_append_bytes rfl _ _ (by rfl) w'.heap.size _ 0 [] (by rfl) (World.ownsRow_made w'.drew #[] 0 (Nat.le_refl _) (Nat.zero_le _) rfl) A c B b (by rfl) HNN.out (hb.below (hB0.mono hB)) LL.out hB0.size ?_
         intro v1 W1 ho1 hb1
         have hbW := hB0.trans hb1
         have hc1 := (hbW.cell (p := ⟨g, 0, none⟩) hgl).trans hc
         have hr1 : W1.heap[R]? = _ := (hbW.block R hRl).trans H.out.row
         have hs0 := ((Blk.of_heap hr1).cell (k * 3)).trans (by simpa using HW.out.1)
         have hs1 := ((Blk.of_heap hr1).cell (k * 3 + 1)).trans (by simpa using HW.out.2.1)
         have hs2 := ((Blk.of_heap hr1).cell (k * 3 + 2)).trans (by simpa using HW.out.2.2)
         have hf0 := (Blk.of_heap hr1).free
         obtain ⟨A1, c1, hv1⟩ := own_form ho1
         subst hv1)
      | fail)
  all_goals
    go_wp2
    go_ret
    exact ⟨rfl, rput_close H.out hkr hn0 hbW ho1⟩
end Go.Proofs.Ytbmodlhnkbohhaa
