/- tidelineref07.Bytes, Right. -/
import Derived.Test.YtpmanpckkpheeaaDoorLogE
import Derived.Deep.CutRange
namespace Go.Proofs.YtpmanpckkpheeaaDoor
open Go.RowKit
set_option linter.unusedVariables false

set_option maxRecDepth 100000 in
set_option maxHeartbeats 8000000 in
theorem rlogbytes_ok (x : Lg) (A1 : Option Addr) (c1 B : Nat) (w : World) (h1 : Sl w B A1 (bv x.pl)) (n1 : A1 = none → c1 = 0) (hB : B ≤ w.heap.size) (hz : x.pl.length ≤ 1000000000) :
    Calls Tryd.prog 74 #[x.val A1 c1] w fun e w' => NewBytes w.heap.size (wrapped (encLog x)) e w' ∧ Below w.heap.size w w' := by
  obtain ⟨E, hE⟩ : ∃ E, encLog x = E := ⟨_, rfl⟩
  rw [hE]
  have HE := Lib.hid hE
  have HN1 := Lib.hid n1
  clear hE n1
  obtain ⟨a1, a2, a3, a4, a5, a6, a7⟩ := x
  have hz : a7.length ≤ 1000000000 := hz
  have k1 := byte_conv a1
  have k5 := byte_conv a5
  go_enter Tryd.func74, Tryd.ntmps74
  go_upto_region 2 with fail
  have hbx : Blk (w.alloc (.cells #[.int .i64 a1, .int .i64 a2, .int .i64 a3, .int .i64 a4, .int .i64 a5, .int .i64 a6, .slice A1 a7.length c1] 45)) w.heap.size #[.int .i64 a1, .int .i64 a2, .int .i64 a3, .int .i64 a4, .int .i64 a5, .int .i64 a6, .slice A1 a7.length c1] := Blk.new w _ _
  have hbx0 := hbx.alloc (.cells #[.int .u8 ((b8 a1).toNat : Int)] 5)
  obtain ⟨n0, hn0⟩ : ∃ n0, w.heap.size + 1 = n0 := ⟨_, rfl⟩
  have hbn : w.heap.size < n0 := by omega
  have hB1 : B ≤ n0 := by omega
  have hwn : w.heap.size ≤ n0 := by omega
  have hy := heap_alloc_new (w.alloc (.cells #[.int .i64 a1, .int .i64 a2, .int .i64 a3, .int .i64 a4, .int .i64 a5, .int .i64 a6, .slice A1 a7.length c1] 45)) (.cells #[.int .u8 ((b8 a1).toNat : Int)] 5)
  have Bk0 : Below w.heap.size w ((w.alloc (.cells #[.int .i64 a1, .int .i64 a2, .int .i64 a3, .int .i64 a4, .int .i64 a5, .int .i64 a6, .slice A1 a7.length c1] 45)).alloc (.cells #[.int .u8 ((b8 a1).toNat : Int)] 5)) := ((Below.refl _ _).alloc (Nat.le_refl _) _).alloc (by simp) _
  rw [World.size_alloc] at hy
  have hs0 : n0 ≤ ((w.alloc (.cells #[.int .i64 a1, .int .i64 a2, .int .i64 a3, .int .i64 a4, .int .i64 a5, .int .i64 a6, .slice A1 a7.length c1] 45)).alloc (.cells #[.int .u8 ((b8 a1).toNat : Int)] 5)).heap.size := by simp; omega
  obtain ⟨w0, hw0⟩ : ∃ X, (w.alloc (.cells #[.int .i64 a1, .int .i64 a2, .int .i64 a3, .int .i64 a4, .int .i64 a5, .int .i64 a6, .slice A1 a7.length c1] 45)).alloc (.cells #[.int .u8 ((b8 a1).toNat : Int)] 5) = X := ⟨_, rfl⟩
  rw [hw0] at hbx0 hy Bk0 hs0 ⊢
  rw [hn0] at hy ⊢
  obtain ⟨l0, hl0⟩ : ∃ l, [b8 a1] = l := ⟨_, rfl⟩
  have hn0' : l0.length ≤ 1 := by rw [← hl0]; simp
  have HO0 : Hid (Own w0 n0 (.slice (some ⟨n0, 0, none⟩) 1 1) l0) := by
    rw [← hl0]
    exact ⟨rfl, .inr ⟨n0, 1, _, rfl, Nat.le_refl _, hy, by simp, by decide, rfl, rfl⟩⟩
  obtain ⟨v0, hv0⟩ : ∃ v, Value.slice (some ⟨n0, 0, none⟩) 1 1 = v := ⟨_, rfl⟩
  rw [hv0] at HO0 ⊢
  have HL0 := Lib.hid hl0
  have hc0 := hbx0.cell
  clear hw0 hn0 hl0 hv0 hy hbx
  go_wp2_with fail
  rw [num_conv a2]
  refine (put_own HO0.out (u64of a2) 4 (u64_lt _) (by decide) (by omega) hs0).mono ?_
  rintro e w1 ⟨v1, rfl, ho1, hb1⟩
  obtain ⟨l1, hl1⟩ : ∃ l, l0 ++ beBytes (u64of a2) 4 = l := ⟨_, rfl⟩
  have hn1 : l1.length ≤ l0.length + (4) := app_len hl1 (be_len _ _)
  rw [hl1] at ho1
  have HL1 := Lib.hid hl1
  have HO1 := Lib.hid ho1
  have hbx1 := hbx0.below hb1 hbn
  have hc1 := hbx1.cell
  have hs1 : n0 ≤ w1.heap.size := Nat.le_trans hs0 hb1.size
  have Bk1 := Bk0.trans (hb1.mono hwn)
  clear hl1 ho1 hb1 hs0 hc0 hbx0
  go_wp2_with fail
  rw [num_conv a3]
  refine (put_own HO1.out (u64of a3) 4 (u64_lt _) (by decide) (by omega) hs1).mono ?_
  rintro e w2 ⟨v2, rfl, ho2, hb2⟩
  obtain ⟨l2, hl2⟩ : ∃ l, l1 ++ beBytes (u64of a3) 4 = l := ⟨_, rfl⟩
  have hn2 : l2.length ≤ l1.length + (4) := app_len hl2 (be_len _ _)
  rw [hl2] at ho2
  have HL2 := Lib.hid hl2
  have HO2 := Lib.hid ho2
  have hbx2 := hbx1.below hb2 hbn
  have hc2 := hbx2.cell
  have hs2 : n0 ≤ w2.heap.size := Nat.le_trans hs1 hb2.size
  have Bk2 := Bk1.trans (hb2.mono hwn)
  clear hl2 ho2 hb2 hs1 hc1 hbx1
  go_wp2_with fail
  rw [num_conv a4]
  refine (put_own HO2.out (u64of a4) 4 (u64_lt _) (by decide) (by omega) hs2).mono ?_
  rintro e w3 ⟨v3, rfl, ho3, hb3⟩
  obtain ⟨l3, hl3⟩ : ∃ l, l2 ++ beBytes (u64of a4) 4 = l := ⟨_, rfl⟩
  have hn3 : l3.length ≤ l2.length + (4) := app_len hl3 (be_len _ _)
  rw [hl3] at ho3
  have HL3 := Lib.hid hl3
  have HO3 := Lib.hid ho3
  have hbx3 := hbx2.below hb3 hbn
  have hc3 := hbx3.cell
  have hs3 : n0 ≤ w3.heap.size := Nat.le_trans hs2 hb3.size
  have Bk3 := Bk2.trans (hb3.mono hwn)
  clear hl3 ho3 hb3 hs2 hc2 hbx2
  go_wp2_with (at_builtin; refine wpList_append_byte rfl _ _ rfl n0 v3 l3 rfl (HO3.out.below ((Below.refl _ _).alloc (Nat.le_refl _) _)) w3.heap.size (b8 a5) rfl (heap_alloc_new w3 _) (by omega) (by simp; omega) ?_; intro v4 w4 ho4 hb4; have hc4 := (hbx3.below (((Below.refl n0 w3).alloc hs3 _).trans hb4) hbn).cell)
  have hb4 := ((Below.refl n0 w3).alloc hs3 _).trans hb4
  obtain ⟨l4, hl4⟩ : ∃ l, l3 ++ [b8 a5] = l := ⟨_, rfl⟩
  have hn4 : l4.length ≤ l3.length + (1) := app_len hl4 rfl
  rw [hl4] at ho4
  have HL4 := Lib.hid hl4
  have HO4 := Lib.hid ho4
  have hbx4 := hbx3.below hb4 hbn
  have hc4 := hbx4.cell
  have hs4 : n0 ≤ w4.heap.size := Nat.le_trans hs3 hb4.size
  have Bk4 := Bk3.trans (hb4.mono hwn)
  clear hl4 ho4 hb4 hs3 hc3 hbx3
  go_wp2_with fail
  refine (rint_own HO4.out a6 (by omega) hs4).mono ?_
  rintro e w5 ⟨v5, rfl, ho5, hb5⟩
  obtain ⟨l5, hl5⟩ : ∃ l, l4 ++ beBytes (u64of a6) 8 = l := ⟨_, rfl⟩
  have hn5 : l5.length ≤ l4.length + (8) := app_len hl5 (be_len _ _)
  rw [hl5] at ho5
  have HL5 := Lib.hid hl5
  have HO5 := Lib.hid ho5
  have hbx5 := hbx4.below hb5 hbn
  have hc5 := hbx5.cell
  have hs5 : n0 ≤ w5.heap.size := Nat.le_trans hs4 hb5.size
  have Bk5 := Bk4.trans (hb5.mono hwn)
  clear hl5 ho5 hb5 hs4 hc4 hbx4
  go_wp2_with fail
  refine (rbytes_own HO5.out A1 c1 B a7 (h1.below (Bk5.mono hB)) HN1.out hB1 (by omega) hs5).mono ?_
  rintro e w6 ⟨v6, rfl, ho6, hb6⟩
  obtain ⟨l6, hl6⟩ : ∃ l, l5 ++ lenBytes a7 = l := ⟨_, rfl⟩
  have hn6 : l6.length ≤ l5.length + (4 + a7.length) := app_len hl6 (lenBytes_len _)
  rw [hl6] at ho6
  have HL6 := Lib.hid hl6
  have HO6 := Lib.hid ho6
  have hbx6 := hbx5.below hb6 hbn
  have hc6 := hbx6.cell
  have hs6 : n0 ≤ w6.heap.size := Nat.le_trans hs5 hb6.size
  have Bk6 := Bk5.trans (hb6.mono hwn)
  clear hl6 ho6 hb6 hs5 hc5 hbx5
  go_wp2_with fail
  obtain ⟨A3, c3, rfl⟩ := HO6.out.form
  refine (rwrap_ok A3 c3 w6.heap.size l6 w6 (Sl.of_own HO6.out) (fun e => by have hh := HO6.out; rw [e] at hh; exact owns_nil0 hh) (by omega) (Nat.le_refl _)).mono ?_
  rintro e w11 ⟨⟨A4, c4, rfl, ho4⟩, hb11⟩
  go_wp2
  go_ret
  have hEq : E = l6 := by
    rw [← HE.out, ← HL6.out, ← HL5.out, ← HL4.out, ← HL3.out, ← HL2.out, ← HL1.out, ← HL0.out]
    simp [encLog, List.append_assoc]
  rw [hEq]
  have hs := Bk6.size
  refine ⟨⟨A4, c4, rfl, ho4.1, ?_⟩, Bk6.trans (hb11.mono Bk6.size)⟩
  rcases ho4.2 with h0 | ⟨g', cap', cur, e1, e2, r⟩
  · exact .inl h0
  · exact .inr ⟨g', cap', cur, e1, by omega, r⟩

theorem encLog_len (x : Lg) : (encLog x).length = 26 + x.pl.length := by
  unfold encLog
  simp [be_len, lenBytes_len]
  omega

set_option maxRecDepth 100000 in
set_option maxHeartbeats 4000000 in
theorem rlright_any (x : Lg) (A1 : Option Addr) (c1 B : Nat) (w : World) (h1 : Sl w B A1 (bv x.pl)) (n1 : A1 = none → c1 = 0) (hB : B ≤ w.heap.size) (hz : x.pl.length ≤ 1000000000) :
    Calls Tryd.prog 28 #[x.val A1 c1] w fun e w' => e = .returned (.bool x.right) ∧ Below w.heap.size w w' := by
  obtain ⟨r, hr⟩ : ∃ r, x.right = r := ⟨_, rfl⟩
  rw [hr]
  have HR := Lib.hid hr
  clear hr
  have hb0 : Below w.heap.size w (w.alloc (.cells #[.int .i64 x.k, .int .i64 x.cl, .int .i64 x.bi, .int .i64 x.nu, .int .i64 x.st, .int .i64 x.ba, .slice A1 x.pl.length c1] 45)) := (Below.refl _ _).alloc (Nat.le_refl _) _
  have hBY := rlogbytes_ok x A1 c1 B (w.alloc (.cells #[.int .i64 x.k, .int .i64 x.cl, .int .i64 x.bi, .int .i64 x.nu, .int .i64 x.st, .int .i64 x.ba, .slice A1 x.pl.length c1] 45)) (h1.below (hb0.mono hB)) n1 (Nat.le_trans hB hb0.size) hz
  have HB0 := Lib.hid hb0
  have hlen := encLog_len x
  have hwl : (wrapped (encLog x)).length = 30 + x.pl.length := by rw [wrapped_len, hlen]; omega
  obtain ⟨LL, hLL⟩ : ∃ L, wrapped (encLog x) = L := ⟨_, rfl⟩
  rw [hLL] at hBY hwl
  have HBY := Lib.hid hBY
  have HWL := Lib.hid hwl
  clear hlen hwl n1 hz hb0 hBY
  obtain ⟨a1, a2, a3, a4, a5, a6, a7⟩ := x
  obtain ⟨p2, h2⟩ : ∃ p, part a2 = p := ⟨_, rfl⟩
  obtain ⟨p3, h3⟩ : ∃ p, part a3 = p := ⟨_, rfl⟩
  obtain ⟨p4, h4⟩ : ∃ p, part a4 = p := ⟨_, rfl⟩
  have C2 := Lib.hid (may_any a2)
  have C3 := Lib.hid (may_any a3)
  have C4 := Lib.hid (may_any a4)
  rw [h2] at C2
  rw [h3] at C3
  rw [h4] at C4
  obtain ⟨t1, g1⟩ : ∃ t, (a1 == 1) = t := ⟨_, rfl⟩
  obtain ⟨t2, g2⟩ : ∃ t, (a1 == 2) = t := ⟨_, rfl⟩
  have hR : Hid (r = ((t1 || t2) && p2 && p3 && p4 && decide (0 ≤ a5 ∧ a5 ≤ 7 ∧ -1 ≤ a6 ∧ a6 ≤ 4294967296 ∧ a7.length ≤ 65506))) := by
    show _ = _
    rw [← HR.out, ← h2, ← h3, ← h4, ← g1, ← g2]
    unfold Lg.right part
    rw [Bool.eq_iff_iff]
    simp
    omega
  clear h2 h3 h4 hLL h1
  dsimp only [Lg.val] at HBY HB0
  have h3 : a1 = 1 ∨ a1 = 2 ∨ ((a1 == 1) = false ∧ (a1 == 2) = false) := by
    by_cases q1 : a1 = 1
    · exact .inl q1
    · by_cases q2 : a1 = 2
      · exact .inr (.inl q2)
      · exact .inr (.inr ⟨by simpa using q1, by simpa using q2⟩)
  have hwl : LL.length = 30 + a7.length := HWL.out
  have e1 : decide (0 ≤ a5 ∧ a5 ≤ 7 ∧ -1 ≤ a6 ∧ a6 ≤ 4294967296 ∧ a7.length ≤ 65506) = (decide (0 ≤ a5 ∧ a5 ≤ 7 ∧ -1 ≤ a6 ∧ a6 ≤ 4294967296) && decide ((LL.length : Int) ≤ 65536)) := by
    rw [← Bool.decide_and]
    exact decide_eq_decide.2 (by omega)
  have hR2 : Hid (r = ((t1 || t2) && p2 && p3 && p4 && (decide (0 ≤ a5 ∧ a5 ≤ 7 ∧ -1 ≤ a6 ∧ a6 ≤ 4294967296) && decide ((LL.length : Int) ≤ 65536)))) := by
    show _ = _
    rw [hR.out, e1]
  clear e1 hwl hR
  rcases h3 with rfl | rfl | ⟨n1, n2⟩
  rotate_left 2
  · rw [n1] at g1
    rw [n2] at g2
    subst g1 g2
    have n3 : ¬ a1 = 1 := by simpa using n1
    have n4 : ¬ a1 = 2 := by simpa using n2
    go_enter Tryd.func28, Tryd.ntmps28
    go_wp2_with fail
    go_ret
    exact ⟨ret_bool (by rw [hR2.out]; rfl), HB0.out⟩
  all_goals
    have g0 : (t1 || t2) = true := by rw [← g1, ← g2]; rfl
    rw [g0, Bool.true_and] at hR2
    clear g0 g1 g2
    go_enter Tryd.func28, Tryd.ntmps28
    go_wp2_with fail
    refine (C2.out _).mono ?_
    rintro e w' ⟨rfl, rfl⟩
    cases p2
    · go_wp2_with fail
      go_ret
      exact ⟨ret_bool (by rw [hR2.out]; rfl), HB0.out⟩
    go_wp2_with fail
    refine (C3.out _).mono ?_
    rintro e w' ⟨rfl, rfl⟩
    cases p3
    · go_wp2_with fail
      go_ret
      exact ⟨ret_bool (by rw [hR2.out]; rfl), HB0.out⟩
    go_wp2_with fail
    refine (C4.out _).mono ?_
    rintro e w' ⟨rfl, rfl⟩
    cases p4
    · go_wp2_with fail
      go_ret
      exact ⟨ret_bool (by rw [hR2.out]; rfl), HB0.out⟩
    by_cases q5 : 0 ≤ a5 ∧ a5 ≤ 7 ∧ -1 ≤ a6 ∧ a6 ≤ 4294967296
    · rw [decide_eq_true q5] at hR2
      obtain ⟨z1, z2, z3, z4⟩ := q5
      go_wp2_with fail
      refine HBY.out.mono ?_
      rintro e w2 ⟨⟨A4, c4, rfl, ho4⟩, hb2⟩
      have HB2 := Lib.hid (HB0.out.trans (hb2.mono HB0.out.size))
      clear ho4 hb2
      go_wp2_with fail
      go_ret
      exact ⟨ret_bool (by rw [hR2.out]; rfl), HB2.out⟩
    · rw [decide_eq_false q5] at hR2
      by_cases z1 : 0 ≤ a5
      · by_cases z2 : a5 ≤ 7
        · by_cases z3 : -1 ≤ a6
          · have z4 : ¬ (a6 ≤ 4294967296) := fun z4 => q5 ⟨z1, z2, z3, z4⟩
            clear q5
            go_wp2_with fail
            go_ret
            exact ⟨ret_bool (by rw [hR2.out]; rfl), HB0.out⟩
          · clear q5
            go_wp2_with fail
            go_ret
            exact ⟨ret_bool (by rw [hR2.out]; rfl), HB0.out⟩
        · clear q5
          go_wp2_with fail
          go_ret
          exact ⟨ret_bool (by rw [hR2.out]; rfl), HB0.out⟩
      · clear q5
        go_wp2_with fail
        go_ret
        exact ⟨ret_bool (by rw [hR2.out]; rfl), HB0.out⟩
end Go.Proofs.YtpmanpckkpheeaaDoor
