/- tidelineref13: Place, Put, Without. -/
import Derived.Test.YtiglgepbffcdeaaDoorNetU
import Derived.Test.YtiglgepbffcdeaaDoorReadM
namespace Go.Proofs.YtiglgepbffcdeaaDoor
open Go.RowKit
set_option linter.unusedVariables false

theorem tmod_place (z : Int) (n : Nat) (hn : 0 < n) : (-(n : Int) < z.tmod n ∧ z.tmod n < n) ∧ z % (n : Int) = if z.tmod n < 0 then z.tmod n + n else z.tmod n := by
  have h1 := Int.tmod_lt_of_pos z (show (0 : Int) < n by omega)
  have h2 := Int.tmod_lt_of_pos (-z) (show (0 : Int) < n by omega)
  rw [Int.neg_tmod] at h2
  have h3 : z = z.tmod n + (n : Int) * z.tdiv n := (Int.tmod_add_mul_tdiv z n).symm
  refine ⟨⟨by omega, h1⟩, ?_⟩
  conv => lhs; rw [h3, Int.add_mul_emod_self_left]
  split
  · rw [← Int.add_emod_right (z.tmod n) n]; exact Int.emod_eq_of_lt (by omega) (by omega)
  · exact Int.emod_eq_of_lt (by omega) h1
theorem ref_place (z : Int) (n : Nat) (hn : 0 < n) (hn4 : n ≤ 4096) (w : World) :
    Calls Tryd.prog 36 #[.int .i64 z, .int .i64 (n : Int)] w fun e w' => (∃ i : Nat, i < n ∧ (i : Int) = z % (n : Int) ∧ e = .returned (.int .i64 (i : Int))) ∧ w' = w := by
  obtain ⟨hb, he⟩ := tmod_place z n hn
  have hnz : ¬ (n = 0) := by omega
  obtain ⟨r, hr⟩ : ∃ r, z.tmod (n : Int) = r := ⟨_, rfl⟩
  rw [hr] at hb he
  have HB := Lib.hid hb
  have HE := Lib.hid he
  have hn5 : ¬ ((4096 : Int) < (n : Int)) := by omega
  have hlo : ¬ (r < -4096) := by omega
  have hhi : ¬ (4096 < r) := by omega
  clear hn hb he hn4
  by_cases hr0 : r < 0
  · go_enter Tryd.func36, Tryd.ntmps36
    go_wp2_with fail
    go_ret
    have h1 := HB.out
    refine ⟨⟨(r + n).toNat, by omega, ?_, ?_⟩, rfl⟩
    · rw [HE.out, if_pos hr0]; omega
    · exact ret_int (by omega)
  · go_enter Tryd.func36, Tryd.ntmps36
    go_wp2_with fail
    go_ret
    have h1 := HB.out
    refine ⟨⟨r.toNat, by omega, ?_, ?_⟩, rfl⟩
    · rw [HE.out, if_neg (by omega)]; omega
    · exact ret_int (by omega)

theorem own_ge {w : World} {base : Nat} {e : TypeId} {size n : Nat} {v : Value} {xs : List Value} (h : w.ownsRow base e size v n xs) {g : Nat} (hg : v.ownBlock = some g) : base ≤ g := by
  rcases h.2 with ⟨rfl, _⟩ | ⟨g', cap, cur, rfl, hb, hh, _⟩
  · simp [Value.ownBlock] at hg
  · have : g' = g := by simpa [Value.ownBlock] using hg
    omega
/-- The document's messages: a row of one's own, their bytes in the arguments. -/
structure RefL (W : World) (n1 B : Nat) (v : Value) (ms : List Mm) : Prop where
  row : W.ownsRow n1 34 16 v ms.length (mcells ms)
  dat : ∀ x ∈ ms, InM W B x
theorem RefL.below {w w' : World} {n1 B : Nat} {v : Value} {ms : List Mm} (h : RefL w n1 B v ms) (hb : Below w.heap.size w w') (hB : B ≤ w.heap.size) : RefL w' n1 B v ms :=
  ⟨owns_keep h.row hb, fun x hx => (h.dat x hx).below (hb.mono hB)⟩

set_option maxRecDepth 100000 in
set_option maxHeartbeats 8000000 in
theorem ref_put_ok (a1 a2 a3 : Int) (a4 : Bool) (a5 a6 a7 a8 : Int) (a9 : List UInt8) (a10 a11 : Int) (a12 : List UInt8) (a13 a14 a15 a16 : Int) (A1 A2 : Option Addr) (c1 c2 B : Nat) {w : World} {n1 : Nat} {v : Value} {ms : List Mm}
    (h : RefL w n1 B v ms) (hlen : ms.length < 4096) (hx : InM w B ⟨Msg.mk a1 a2 a3 a4 a5 a6 a7 a8 a9 a10 a11 a12 a13 a14 a15 a16, A1, c1, A2, c2⟩) (hB : B ≤ n1) (hn1 : n1 ≤ w.heap.size)
    (hr : (Msg.mk a1 a2 a3 a4 a5 a6 a7 a8 a9 a10 a11 a12 a13 a14 a15 a16).right = true) :
    Calls Tryd.prog 35 #[v, .agg (mcs a1 a2 a3 a4 a5 a6 a7 a8 (.slice A1 a9.length c1) a10 a11 (.slice A2 a12.length c2) a13 a14 a15 a16)] w fun e w' =>
      ∃ v', e = .returned (.tuple #[v', .int .i64 0]) ∧ RefL w' n1 B v' (ms ++ [⟨Msg.mk a1 a2 a3 a4 a5 a6 a7 a8 a9 a10 a11 a12 a13 a14 a15 a16, A1, c1, A2, c2⟩]) ∧ Fr (fun k => v.ownBlock = some k) w w' ∧ (∀ k, v'.ownBlock = some k → v.ownBlock = some k ∨ w.heap.size ≤ k) := by
  obtain ⟨A0, c0, rfl⟩ := own_form h.row
  have H := Lib.hid h
  have HX := Lib.hid hx
  have HLEN := Lib.hid hlen
  have HR := Lib.hid (fun (X : World) => rmright_lit a1 a2 a3 a4 a5 a6 a7 a8 a9 a10 a11 a12 a13 a14 a15 a16 A1 A2 c1 c2 X)
  have HRT := Lib.hid hr
  obtain ⟨q, hq⟩ : ∃ q, ms.length = q := ⟨_, rfl⟩
  have HQ := Lib.hid hq
  rw [hq] at H ⊢
  have hq4 : ¬ ((4096 : Int) ≤ (q : Int)) := by omega
  clear h hx hlen hr hq
  go_enter Tryd.func35, Tryd.ntmps35
  go_wp2_with fail
  refine (HR.out _).mono ?_
  rintro en W1 ⟨he, hb1⟩
  rw [HRT.out] at he
  subst he
  have m1 : W1.heap[w.heap.size]? = some (.cells (mcs a1 a2 a3 a4 a5 a6 a7 a8 (.slice A1 a9.length c1) a10 a11 (.slice A2 a12.length c2) a13 a14 a15 a16) 34 (0, 0)) := (hb1.block _ (by simp)).trans (heap_alloc_new w _)
  have B1 : Below w.heap.size w W1 := ((Below.refl _ _).alloc (Nat.le_refl _) _).trans (hb1.mono (by simp))
  have qm := (Blk.of_heap m1).cell
  have BB1 := Lib.hid B1
  have hrow := (H.out.below B1 (Nat.le_trans hB hn1)).row
  rw [HQ.out] at hrow
  have HROW := Lib.hid hrow
  have H63 : Hid (q + 1 ≤ maxLen) := by have h1 := HQ.out; have h2 := HLEN.out; show _ ≤ _; unfold maxLen; omega
  have HBY : Hid ((q + 1) * 160 ≤ 140737488355328) := by have h1 := HQ.out; have h2 := HLEN.out; show _ ≤ _; omega
  have HSZ : Hid (n1 ≤ (W1.alloc (.cells (mcs a1 a2 a3 a4 a5 a6 a7 a8 (.slice A1 a9.length c1) a10 a11 (.slice A2 a12.length c2) a13 a14 a15 a16) 34)).heap.size) := by have := B1.size; show _ ≤ _; simp; omega
  clear hb1 m1 B1 hrow
  go_wp2_with (at_builtin; obtain ⟨i0, hi0, hy0, hy1, hy2⟩ := info_parts info_msg; refine wpList_append_own_at _ rfl _ _ 56 rfl n1 34 i0 _ 16 160 Tryd.underlying56 hi0 hy0 hy1 hy2 rfl (by decide) (.slice A0 q c0) q (mcells ms) rfl (HROW.out.alloc _) ⟨W1.heap.size, 0, none⟩ 1 1 (mcs a1 a2 a3 a4 a5 a6 a7 a8 (.slice A1 a9.length c1) a10 a11 (.slice A2 a12.length c2) a13 a14 a15 a16).toList rfl rfl (World.news_of_block (t := 34) (fr := (0, 0)) (heap_alloc_new W1 _)) (by simp [Value.oneCell']) H63.out HBY.out HSZ.out ?_; intro v' w2 hown5 hgrow5 hnil5 hat5; obtain ⟨A6, c6, rfl⟩ := own_form hown5; have HG5 := Lib.hid hgrow5; have HO5 := Lib.hid hown5; have HA5 := Lib.hid hat5; clear hi0 hy0 hy1 hy2 i0 hgrow5 hown5 hnil5 hat5)
  go_ret2
  have hb1 := BB1.out
  have hfr : Fr (fun k => (Value.slice A0 q c0).ownBlock = some k) w w2 := ((Fr.of_below hb1).alloc _).grown HG5.out (fun k hk _ => hk)
  refine ⟨.slice A6 (q + 1) c6, rfl, ⟨?_, ?_⟩, hfr, ?_⟩
  · have h5 := HO5.out
    rw [List.length_append, HQ.out, mcells_app, mcells_one]
    exact h5
  · intro y hy
    have hbB : Below B w w2 := hfr.below (Nat.le_trans hB hn1) (fun k hk => Nat.le_trans hB (own_ge HROW.out hk))
    rcases List.mem_append.1 hy with hy | hy
    · exact (H.out.dat y hy).below hbB
    · rw [List.mem_singleton.1 hy]; exact HX.out.below hbB
  · intro k hk
    rcases HA5.out with h | h
    · exact .inl (by rw [← h]; exact hk)
    · rw [h] at hk
      injection hk with hk
      have := hb1.size
      simp at hk
      exact .inr (by omega)

set_option maxRecDepth 100000 in
set_option maxHeartbeats 4000000 in
theorem ref_put_bad (m : Msg) (A1 A2 A0 : Option Addr) (c1 c2 n c0 : Nat) (w : World) (hr : m.right = false) :
    Calls Tryd.prog 35 #[.slice A0 n c0, m.val A1 c1 A2 c2] w fun e w' => e = .returned (.tuple #[.slice A0 n c0, .int .i64 1]) ∧ Below w.heap.size w w' := by
  have HR := Lib.hid (fun (X : World) => rmright_any m A1 A2 c1 c2 X)
  have HRT := Lib.hid hr
  clear hr
  obtain ⟨a1, a2, a3, a4, a5, a6, a7, a8, a9, a10, a11, a12, a13, a14, a15, a16⟩ := m
  go_enter Tryd.func35, Tryd.ntmps35
  go_wp2_with fail
  refine (HR.out _).mono ?_
  rintro en W1 ⟨he, hb1⟩
  rw [HRT.out] at he
  subst he
  go_wp2_with fail
  go_ret2
  exact ⟨rfl, ((Below.refl _ _).alloc (Nat.le_refl _) _).trans (hb1.mono (by simp))⟩
end Go.Proofs.YtiglgepbffcdeaaDoor
