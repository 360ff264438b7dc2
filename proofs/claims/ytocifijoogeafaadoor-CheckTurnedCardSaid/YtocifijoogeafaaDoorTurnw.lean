/- tidelinelaw02.CheckTurned: the walk. -/
import Derived.Test.YtocifijoogeafaaDoorTurnP
import Derived.Test.YtocifijoogeafaaDoorSame
namespace Go.Proofs.YtocifijoogeafaaDoor
open Go.RowKit
set_option linter.unusedVariables false

theorem bits_low (z : Int) : ∃ r : Nat, bits BinOp.and IntKind.i64 z 65535 = (r : Int) ∧ r < 65536 := by
  refine ⟨(BitVec.ofInt 64 z &&& BitVec.ofInt 64 65535).toNat, ?_, ?_⟩
  · show IntKind.i64.wrap ((BitVec.ofInt 64 z &&& BitVec.ofInt 64 65535).toNat : Int) = _
    have h : (BitVec.ofInt 64 z &&& BitVec.ofInt 64 65535).toNat < 65536 := by
      rw [BitVec.toNat_and, show (BitVec.ofInt 64 65535).toNat = 2 ^ 16 - 1 from rfl, Nat.and_two_pow_sub_one_eq_mod]
      omega
    rw [IntKind.wrap_i64]
    omega
  · rw [BitVec.toNat_and, show (BitVec.ofInt 64 65535).toNat = 2 ^ 16 - 1 from rfl, Nat.and_two_pow_sub_one_eq_mod]
    omega

theorem owns_setB {w : World} {base g n cap i : Nat} {e : TypeId} {xs : List Value} (h : w.ownsRow base e 1 (.slice (some ⟨g, 0, none⟩) n cap) n xs) (u : Value) :
    (w.setCell ⟨g, i, none⟩ u).ownsRow base e 1 (.slice (some ⟨g, 0, none⟩) n cap) n (xs.set i u) := by
  refine ⟨by rw [List.length_set]; exact h.1, ?_⟩
  rcases h.2 with ⟨h0, _⟩ | ⟨g', cap', cur, e1, hb, hh, hn, hc, hs, ht⟩
  · cases h0
  · injection e1 with e1 e2 e3
    injection e1 with e1
    injection e1 with e1
    subst e1; subst e3
    refine .inr ⟨g, cap, cur.setIfInBounds i u, rfl, hb, cell_set hh u, hn, hc, by simpa using hs, ?_⟩
    rw [← ht, Array.toList_setIfInBounds, List.take_set]

theorem unwrap_good (A : Option Addr) (c B n : Nat) (a s : List UInt8) (w : World) (hT : Tab w) (h : Sl w B A (bv (a ++ s))) (hs : s.length = 4) (ha : a.length = n) (hc : n + 4 ≤ c) (hl : n ≤ 1099511627776) (hB : B ≤ w.heap.size) (hq : beVal s = more 0 a) :
    Calls Tryd.prog 9 #[.slice A (n + 4) c] w fun e w' => (∃ A c, e = .returned (.tuple #[.slice A a.length c, .int .i64 0]) ∧ w'.ownsRow w.heap.size 5 1 (.slice A a.length c) a.length (bv a)) ∧ Below w.heap.size w w' :=
  (unwrap_ok A c B n a s w hT h hs ha hc hl hB).mono fun e w' hu => by
    unfold Unwrapped at hu
    rw [if_pos hq] at hu
    exact hu
theorem unwrap_bad (A : Option Addr) (c B n : Nat) (a s : List UInt8) (w : World) (hT : Tab w) (h : Sl w B A (bv (a ++ s))) (hs : s.length = 4) (ha : a.length = n) (hc : n + 4 ≤ c) (hl : n ≤ 1099511627776) (hB : B ≤ w.heap.size) (hq : ¬ beVal s = more 0 a) :
    Calls Tryd.prog 9 #[.slice A (n + 4) c] w fun e w' => e = .returned (.tuple #[.slice none 0 0, .int .i64 3]) ∧ Below w.heap.size w w' :=
  (unwrap_ok A c B n a s w hT h hs ha hc hl hB).mono fun e w' hu => by
    unfold Unwrapped at hu
    rw [if_neg hq] at hu
    exact hu

set_option maxRecDepth 100000 in
set_option maxHeartbeats 4000000 in
theorem turned_walk (A : Option Addr) (c : Nat) (b : List UInt8) (z : Int) (t : UInt8) (w : World) (hT : Tab w) (h : Sl w w.heap.size A (bv b)) (hn : A = none → c = 0) :
    Calls Tryd.prog 5 #[.slice A b.length c, .int .i64 z, .int .u8 (t.toNat : Int)] w fun e w' => e = .returned (.bool true) ∧ Below w.heap.size w w' := by
  have HN := Lib.hid hn
  clear hn
  obtain ⟨r, hr, hr2⟩ := bits_low z
  go_enter Tryd.func5, Tryd.ntmps5
  go_wp2_with fail
  refine (cspeak_any w hT).mono ?_
  rintro e W0 ⟨rfl, B0⟩
  by_cases t1 : (2000 : Int) < (b.length : Int)
  · go_wp2_with fail
    go_ret
    exact ⟨rfl, B0⟩
  · go_wp2_with fail
    have hbl : b.length ≤ 2000 := by omega
    clear t1
    have hT0 := hT.below hT.1 B0
    refine (wrap_ok A c w.heap.size b W0 hT0 (h.below B0) HN.out (by omega) B0.size).mono ?_
    rintro e W1 ⟨⟨A1, c1, rfl, hown⟩, hb1⟩
    have B1 := B0.trans (hb1.mono B0.size)
    rw [wrapped_len] at hown
    have hlen := wrapped_len b
    rw [hlen]
    obtain ⟨g, rfl, hc1, hge⟩ : ∃ g, A1 = some ⟨g, 0, none⟩ ∧ b.length + 4 ≤ c1 ∧ W0.heap.size ≤ g := by
      rcases hown.2 with ⟨_, h0⟩ | ⟨g', cap', cur, e, q1, q2, q3, _⟩
      · omega
      · injection e with e1 e2 e3
        exact ⟨g', e1, by omega, q1⟩
    have HO := Lib.hid hown
    have HU := Lib.hid (unwrap_good (some ⟨g, 0, none⟩) c1 W1.heap.size b.length b (beBytes (more 0 b) 4) W1 (hT.below hT.1 B1) (Sl.of_own (A := some ⟨g, 0, none⟩) (n := b.length + 4) (c := c1) HO.out) (be_len _ _) rfl hc1 (by omega) (Nat.le_refl _) (beVal_be _ (more_lt _ _)))
    clear hown
    go_wp2_with fail
    refine HU.out.mono ?_
    rintro e W2 ⟨⟨A2, c2, rfl, hown2⟩, hb2⟩
    have B2 := B1.trans (hb2.mono B1.size)
    clear HU
    have HO2 := Lib.hid ((Fr.of_below (M := fun _ => False) hb2).owns HO.out (fun _ _ x => x))
    have HX := Lib.hid hown2
    clear HO hown2 hb2 hT0
    go_wp2_with fail
    refine (same_any A2 A c2 c W2.heap.size b b W2 (Sl.of_own HX.out) ((h.below B2).more B2.size) (by unfold maxLen; omega) (by unfold maxLen; omega)).mono ?_
    rintro e W3 ⟨he, n3, rfl⟩
    rw [decide_eq_true rfl] at he
    subst he
    clear HX
    obtain ⟨j, hj⟩ : ∃ j, r % (b.length + 4) = j := ⟨_, rfl⟩
    have hjl : j < b.length + 4 := by rw [← hj]; exact Nat.mod_lt _ (by omega)
    have hjw : j < (wrapped b).length := by rw [wrapped_len]; exact hjl
    have hrem : (r : Int) % ((b.length : Int) + 4) = (j : Int) := by rw [← hj, Int.natCast_emod, Int.natCast_add]; rfl
    obtain ⟨y, hy⟩ : ∃ y, (wrapped b)[j] = y := ⟨_, rfl⟩
    have hcl : W2.cell? ⟨g, j, none⟩ = some (.int .u8 (y.toNat : Int)) ∧ W2.frozen? ⟨g, j, none⟩ = false := by
      have h0 := HO2.out
      rcases h0.2 with ⟨e, _⟩ | ⟨g', cap', cur, e, q1, q2, q3, q4, q5, q6⟩
      · cases e
      · injection e with e1 e2 e3
        injection e1 with e1
        injection e1 with e1
        subst e1
        refine ⟨?_, by simp [World.frozen?, q2]⟩
        rw [cell_of_row W2 g j cur _ (0, 0) q2]
        have hu : (bv (wrapped b))[j]? = some (.int .u8 (y.toNat : Int)) := by rw [bv_get hjw, hy]
        rw [← q6, List.getElem?_take] at hu
        split at hu
        · simpa using hu
        · cases hu
    obtain ⟨hcl1, hcl2⟩ := hcl
    have hxr : bits BinOp.xor IntKind.u8 ((y.toNat : Nat) : Int) ((t.toNat : Nat) : Int) = ((y ^^^ t).toNat : Int) := by rw [u8_xor_nat _ _ y.toNat_lt t.toNat_lt, ← UInt8.toNat_xor]
    have hji : (j : Int) < (b.length : Int) + 4 := by omega
    obtain ⟨L2, hL2⟩ : ∃ L2, (wrapped b).set j (y ^^^ t) = L2 := ⟨_, rfl⟩
    have hLl : L2.length = b.length + 4 := by rw [← hL2, List.length_set, wrapped_len]
    have hiff := turned_iff b j t hjw
    rw [hy, hL2] at hiff
    obtain ⟨W4, hW4⟩ : ∃ W4, (W2.drewN n3).setCell ⟨g, j, none⟩ (.int .u8 ((y ^^^ t).toNat : Int)) = W4 := ⟨_, rfl⟩
    have HO4 : Hid (W4.ownsRow W0.heap.size 5 1 (.slice (some ⟨g, 0, none⟩) (b.length + 4) c1) (b.length + 4) (bv L2)) := by
      have h0 : (W2.drewN n3).ownsRow W0.heap.size 5 1 (.slice (some ⟨g, 0, none⟩) (b.length + 4) c1) (b.length + 4) (bv (wrapped b)) := HO2.out
      have h1 := owns_setB (i := j) h0 (.int .u8 ((y ^^^ t).toNat : Int))
      rw [hW4] at h1
      have e : (bv (wrapped b)).set j (.int .u8 ((y ^^^ t).toNat : Int)) = bv L2 := by rw [← hL2]; simp [bv, List.map_set]
      rw [e] at h1
      exact h1
    have B4 : Below w.heap.size w W4 := by
      rw [← hW4]
      exact (bdrewN B2 n3).setCell (p := ⟨g, j, none⟩) (Nat.le_trans B0.size hge) _
    have hT4 := hT.below hT.1 B4
    have hS4 : Sl W4 W4.heap.size (some ⟨g, 0, none⟩) (bv (L2.take b.length ++ L2.drop b.length)) := by
      rw [List.take_append_drop]
      exact Sl.of_own (A := some ⟨g, 0, none⟩) (n := b.length + 4) (c := c1) HO4.out
    have hd4 : (L2.drop b.length).length = 4 := by rw [List.length_drop, hLl]; omega
    have ht4 : (L2.take b.length).length = b.length := by rw [List.length_take, hLl]; omega
    by_cases ht : t = 0
    · have HU := Lib.hid (unwrap_good (some ⟨g, 0, none⟩) c1 W4.heap.size b.length (L2.take b.length) (L2.drop b.length) W4 hT4 hS4 hd4 ht4 hc1 (by omega) (Nat.le_refl _) (hiff.2 ht))
      have htz : ((t.toNat : Int) == 0) = true := by rw [ht]; rfl
      clear hiff hS4 hd4 ht4 hT4 hLl hL2 hy hjw HO4 ht hj
      go_wp2_with fail
      rw [← UInt8.toNat_xor, hW4]
      refine HU.out.mono ?_
      rintro e W5 ⟨⟨A5, c5, rfl, -⟩, hb5⟩
      go_wp2_with fail
      go_ret
      exact ⟨rfl, B4.trans (hb5.mono B4.size)⟩
    · have HU := Lib.hid (unwrap_bad (some ⟨g, 0, none⟩) c1 W4.heap.size b.length (L2.take b.length) (L2.drop b.length) W4 hT4 hS4 hd4 ht4 hc1 (by omega) (Nat.le_refl _) (fun e => ht (hiff.1 e)))
      have htz : ((t.toNat : Int) == 0) = false := by
        rw [beq_eq_false_iff_ne]
        intro e
        exact ht (UInt8.toNat_inj.1 (by simpa using e))
      clear hiff hS4 hd4 ht4 hT4 hLl hL2 hy hjw HO4 ht hj
      go_wp2_with fail
      rw [← UInt8.toNat_xor, hW4]
      refine HU.out.mono ?_
      rintro e W5 ⟨rfl, hb5⟩
      go_wp2_with fail
      go_ret
      exact ⟨rfl, B4.trans (hb5.mono B4.size)⟩
end Go.Proofs.YtocifijoogeafaaDoor
