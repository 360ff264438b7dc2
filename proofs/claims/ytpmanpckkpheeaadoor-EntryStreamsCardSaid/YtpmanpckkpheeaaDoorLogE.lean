/- entry.Encode. -/
import Derived.Test.YtpmanpckkpheeaaDoorLogM
import Derived.Test.YtpmanpckkpheeaaDoorWr
import Derived.Test.YtpmanpckkpheeaaDoorRw
namespace Go.Proofs.YtpmanpckkpheeaaDoor
open Go.RowKit
set_option linter.unusedVariables false

/-- An entry's bytes. -/
def encLog (x : Lg) : List UInt8 :=
  [] ++ [b8 x.k] ++ beBytes (u64of x.cl) 4 ++ beBytes (u64of x.bi) 4 ++ beBytes (u64of x.nu) 4 ++ [b8 x.st] ++ beBytes (u64of x.ba) 8 ++ lenBytes x.pl

set_option maxRecDepth 100000 in
set_option maxHeartbeats 4000000 in
theorem logenc_ok (x : Lg) (A1 : Option Addr) (c1 B : Nat) (w : World) (hT : Tab w) (h1 : Sl w B A1 (bv x.pl)) (n1 : A1 = none → c1 = 0) (hB : B ≤ w.heap.size) (hr : x.right = true) :
    Calls Tryd.prog 29 #[x.val A1 c1] w fun e w' => (∃ A c, e = .returned (.tuple #[.slice A (wrapped (encLog x)).length c, .int .i64 0]) ∧ w'.ownsRow w.heap.size 5 1 (.slice A (wrapped (encLog x)).length c) (wrapped (encLog x)).length (bv (wrapped (encLog x)))) ∧ Below w.heap.size w w' := by
  obtain ⟨E, hE⟩ : ∃ E, encLog x = E := ⟨_, rfl⟩
  rw [hE]
  have HE := Lib.hid hE
  have HR := Lib.hid hr
  have HN1 := Lib.hid n1
  have hz : x.pl.length ≤ 65506 := by unfold Lg.right at hr; have := of_decide_eq_true hr; omega
  clear hE hr n1
  obtain ⟨a1, a2, a3, a4, a5, a6, a7⟩ := x
  go_enter Tryd.func29, Tryd.ntmps29
  go_wp2_with fail
  refine (lright_any ⟨a1, a2, a3, a4, a5, a6, a7⟩ A1 c1 _).mono ?_
  rintro e w1 ⟨he, hb1⟩
  rw [HR.out] at he
  subst he
  have hbx : Blk (w.alloc (.cells #[.int .i64 a1, .int .i64 a2, .int .i64 a3, .int .i64 a4, .int .i64 a5, .int .i64 a6, .slice A1 a7.length c1] 45)) w.heap.size #[.int .i64 a1, .int .i64 a2, .int .i64 a3, .int .i64 a4, .int .i64 a5, .int .i64 a6, .slice A1 a7.length c1] := Blk.new w _ _
  have hbx1 := hbx.belowAll hb1
  obtain ⟨n0, hn0⟩ : ∃ n0, w.heap.size + 1 = n0 := ⟨_, rfl⟩
  have hbn : w.heap.size < n0 := by omega
  have hB1 : B ≤ n0 := by omega
  have hs0 : n0 ≤ w1.heap.size := by have := hb1.size; simp at this; omega
  have B1 : Below w.heap.size w w1 := ((Below.refl _ _).alloc (Nat.le_refl _) _).trans (hb1.mono (by simp))
  have hl1 := hbx1.lt
  have hc1 := hbx1.cell
  have hwn : w.heap.size ≤ n0 := by omega
  clear hbx hb1 hn0
  go_wp2_with fail
  have HW0 := Lib.hid (wr_new w1 n0 hs0)
  have hbx0 := hbx1.alloc (.cells #[.slice none 0 0] 106)
  have Bk0 := B1.alloc B1.size (.cells #[.slice none 0 0] 106)
  have hs0 : n0 ≤ (w1.alloc (.cells #[.slice none 0 0] 106)).heap.size := by simp; omega
  obtain ⟨w0, hw0⟩ : ∃ X, w1.alloc (.cells #[.slice none 0 0] 106) = X := ⟨_, rfl⟩
  obtain ⟨g, hg⟩ : ∃ g, w1.heap.size = g := ⟨_, rfl⟩
  rw [hw0, hg] at HW0 ⊢
  rw [hw0] at hbx0 Bk0 hs0
  obtain ⟨l0, hl0⟩ : ∃ l, ([] : List UInt8) = l := ⟨_, rfl⟩
  have hn0 : l0.length ≤ 0 := by rw [← hl0]; simp
  rw [hl0] at HW0
  have HL0 := Lib.hid hl0
  have hc0 := hbx0.cell
  clear hw0 hg hl0 hl1 hc1 hbx1 B1
  rw [byte_conv a1]
  refine (byte_ok HW0.out (b8 a1) (by omega) hs0).mono ?_
  rintro e w1 ⟨rfl, v1, hw1, hb1⟩
  obtain ⟨l1, hl1⟩ : ∃ l, l0 ++ [b8 a1] = l := ⟨_, rfl⟩
  have hn1 : l1.length ≤ l0.length + (1) := app_len hl1 rfl
  rw [hl1] at hw1
  have HL1 := Lib.hid hl1
  have HW1 := Lib.hid hw1
  have hbx1 := hbx0.below hb1 hbn
  have hc1 := hbx1.cell
  have hs1 : n0 ≤ w1.heap.size := Nat.le_trans hs0 hb1.size
  have Bk1 := Bk0.trans (hb1.mono hwn)
  clear hl1 hw1 hc0 hbx0 hb1 hs0
  go_wp2_with fail
  rw [num_conv a2]
  refine (number_ok HW1.out (u64of a2) 4 (u64_lt _) (by decide) (by omega) hs1).mono ?_
  rintro e w2 ⟨rfl, v2, hw2, hb2⟩
  obtain ⟨l2, hl2⟩ : ∃ l, l1 ++ beBytes (u64of a2) 4 = l := ⟨_, rfl⟩
  have hn2 : l2.length ≤ l1.length + (4) := app_len hl2 (be_len _ _)
  rw [hl2] at hw2
  have HL2 := Lib.hid hl2
  have HW2 := Lib.hid hw2
  have hbx2 := hbx1.below hb2 hbn
  have hc2 := hbx2.cell
  have hs2 : n0 ≤ w2.heap.size := Nat.le_trans hs1 hb2.size
  have Bk2 := Bk1.trans (hb2.mono hwn)
  clear hl2 hw2 hc1 hbx1 hb2 hs1
  go_wp2_with fail
  rw [num_conv a3]
  refine (number_ok HW2.out (u64of a3) 4 (u64_lt _) (by decide) (by omega) hs2).mono ?_
  rintro e w3 ⟨rfl, v3, hw3, hb3⟩
  obtain ⟨l3, hl3⟩ : ∃ l, l2 ++ beBytes (u64of a3) 4 = l := ⟨_, rfl⟩
  have hn3 : l3.length ≤ l2.length + (4) := app_len hl3 (be_len _ _)
  rw [hl3] at hw3
  have HL3 := Lib.hid hl3
  have HW3 := Lib.hid hw3
  have hbx3 := hbx2.below hb3 hbn
  have hc3 := hbx3.cell
  have hs3 : n0 ≤ w3.heap.size := Nat.le_trans hs2 hb3.size
  have Bk3 := Bk2.trans (hb3.mono hwn)
  clear hl3 hw3 hc2 hbx2 hb3 hs2
  go_wp2_with fail
  rw [num_conv a4]
  refine (number_ok HW3.out (u64of a4) 4 (u64_lt _) (by decide) (by omega) hs3).mono ?_
  rintro e w4 ⟨rfl, v4, hw4, hb4⟩
  obtain ⟨l4, hl4⟩ : ∃ l, l3 ++ beBytes (u64of a4) 4 = l := ⟨_, rfl⟩
  have hn4 : l4.length ≤ l3.length + (4) := app_len hl4 (be_len _ _)
  rw [hl4] at hw4
  have HL4 := Lib.hid hl4
  have HW4 := Lib.hid hw4
  have hbx4 := hbx3.below hb4 hbn
  have hc4 := hbx4.cell
  have hs4 : n0 ≤ w4.heap.size := Nat.le_trans hs3 hb4.size
  have Bk4 := Bk3.trans (hb4.mono hwn)
  clear hl4 hw4 hc3 hbx3 hb4 hs3
  go_wp2_with fail
  rw [byte_conv a5]
  refine (byte_ok HW4.out (b8 a5) (by omega) hs4).mono ?_
  rintro e w5 ⟨rfl, v5, hw5, hb5⟩
  obtain ⟨l5, hl5⟩ : ∃ l, l4 ++ [b8 a5] = l := ⟨_, rfl⟩
  have hn5 : l5.length ≤ l4.length + (1) := app_len hl5 rfl
  rw [hl5] at hw5
  have HL5 := Lib.hid hl5
  have HW5 := Lib.hid hw5
  have hbx5 := hbx4.below hb5 hbn
  have hc5 := hbx5.cell
  have hs5 : n0 ≤ w5.heap.size := Nat.le_trans hs4 hb5.size
  have Bk5 := Bk4.trans (hb5.mono hwn)
  clear hl5 hw5 hc4 hbx4 hb5 hs4
  go_wp2_with fail
  refine (wint_ok HW5.out a6 (by omega) hs5).mono ?_
  rintro e w6 ⟨rfl, v6, hw6, hb6⟩
  obtain ⟨l6, hl6⟩ : ∃ l, l5 ++ beBytes (u64of a6) 8 = l := ⟨_, rfl⟩
  have hn6 : l6.length ≤ l5.length + (8) := app_len hl6 (be_len _ _)
  rw [hl6] at hw6
  have HL6 := Lib.hid hl6
  have HW6 := Lib.hid hw6
  have hbx6 := hbx5.below hb6 hbn
  have hc6 := hbx6.cell
  have hs6 : n0 ≤ w6.heap.size := Nat.le_trans hs5 hb6.size
  have Bk6 := Bk5.trans (hb6.mono hwn)
  clear hl6 hw6 hc5 hbx5 hb6 hs5
  go_wp2_with fail
  refine (wbytes_any HW6.out A1 c1 B a7 (h1.below (Bk6.mono hB)) HN1.out hB1 (by omega) hs6).mono ?_
  rintro e w7 ⟨rfl, v7, hw7, hb7⟩
  obtain ⟨l7, hl7⟩ : ∃ l, l6 ++ lenBytes a7 = l := ⟨_, rfl⟩
  have hn7 : l7.length ≤ l6.length + (4 + a7.length) := app_len hl7 (lenBytes_len _)
  rw [hl7] at hw7
  have HL7 := Lib.hid hl7
  have HW7 := Lib.hid hw7
  have hbx7 := hbx6.below hb7 hbn
  have hc7 := hbx7.cell
  have hs7 : n0 ≤ w7.heap.size := Nat.le_trans hs6 hb7.size
  have Bk7 := Bk6.trans (hb7.mono hwn)
  clear hl7 hw7 hc6 hbx6 hb7 hs6
  go_wp2_with fail
  refine (out_ok HW7.out (by omega) hs7).mono ?_
  rintro e w8 ⟨⟨A3, c3, rfl, ho⟩, hb8⟩
  have hEq : E = l7 := by
    rw [← HE.out, ← HL7.out, ← HL6.out, ← HL5.out, ← HL4.out, ← HL3.out, ← HL2.out, ← HL1.out, ← HL0.out]
    rfl
  have HO := Lib.hid ho
  have hTn := hT.below hT.1 (Bk7.trans (hb8.mono Bk7.size))
  have Bkn := Bk7.trans (hb8.mono Bk7.size)
  have HEQ := Lib.hid hEq
  clear ho hEq hc7
  go_wp2_with fail
  refine (wrap_ok A3 c3 w8.heap.size l7 w8 hTn (Sl.of_own HO.out) (fun e => by have hh := HO.out; rw [e] at hh; exact owns_nil0 hh) (by omega) (Nat.le_refl _)).mono ?_
  rintro e w18 ⟨⟨A4, c4, rfl, ho4⟩, hb18⟩
  go_wp2
  go_ret2
  rw [HEQ.out]
  have hs := Bkn.size
  refine ⟨⟨A4, c4, rfl, ho4.1, ?_⟩, Bkn.trans (hb18.mono Bkn.size)⟩
  rcases ho4.2 with h0 | ⟨g', cap', cur, e1, e2, r⟩
  · exact .inl h0
  · exact .inr ⟨g', cap', cur, e1, by omega, r⟩
end Go.Proofs.YtpmanpckkpheeaaDoor
