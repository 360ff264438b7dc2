/- call.Encode. -/
import Derived.Test.YtjkilpjdgjijiaaDoorCqM
namespace Go.Proofs.YtjkilpjdgjijiaaDoor
open Go.RowKit
set_option linter.unusedVariables false

set_option maxRecDepth 100000 in
set_option maxHeartbeats 4000000 in
theorem cqenc_ok (x : Cq) (A1 : Option Addr) (c1 B : Nat) (w : World) (hT : Tab w) (h1 : Sl w B A1 (bv x.d)) (n1 : A1 = none → c1 = 0) (hB : B ≤ w.heap.size) (z1 : x.p.size ≤ 1000000) (z2 : x.o.size ≤ 1000000) (z3 : x.d.length ≤ 1000000) :
    Calls Tryd.prog 14 #[x.val A1 c1] w fun e w' => NewBytes w.heap.size (wrapped (encCq x)) e w' ∧ Below w.heap.size w w' := by
  obtain ⟨E, hE⟩ : ∃ E, encCq x = E := ⟨_, rfl⟩
  rw [hE]
  have HE := Lib.hid hE
  have HN1 := Lib.hid n1
  clear hE n1
  obtain ⟨a1, a2, a3, a4, a5, a6⟩ := x
  have z3 : a6.length ≤ 1000000 := z3
  obtain ⟨t2, ht2⟩ : ∃ l, a2.data.toList = l := ⟨_, rfl⟩
  obtain ⟨t3, ht3⟩ : ∃ l, a3.data.toList = l := ⟨_, rfl⟩
  have z1 : t2.length ≤ 1000000 := by rw [← ht2, size_list]; exact z1
  have z2 : t3.length ≤ 1000000 := by rw [← ht3, size_list]; exact z2
  have hcv2 := sb_run a2 t2 ht2
  have hcv3 := sb_run a3 t3 ht3
  have HS2 := Lib.hid ht2
  have HS3 := Lib.hid ht3
  clear ht2 ht3
  have hbx := (Blk.new w #[.int .i64 a1, .string a2, .string a3, .int .i64 a4, .int .i64 a5, .slice A1 a6.length c1] 26).alloc (.cells #[.slice none 0 0] 72)
  have HBX0 := Lib.hid hbx
  have HBK0 : Hid (Below w.heap.size w ((w.alloc (.cells #[.int .i64 a1, .string a2, .string a3, .int .i64 a4, .int .i64 a5, .slice A1 a6.length c1] 26)).alloc (.cells #[.slice none 0 0] 72))) := ((Below.refl _ _).alloc (Nat.le_refl _) _).alloc (by simp) _
  have HW0 := Lib.hid (wr_new (w.alloc (.cells #[.int .i64 a1, .string a2, .string a3, .int .i64 a4, .int .i64 a5, .slice A1 a6.length c1] 26)) (w.heap.size + 1) (by simp))
  rw [World.size_alloc] at HW0
  have HSZ : Hid (w.heap.size + 1 ≤ ((w.alloc (.cells #[.int .i64 a1, .string a2, .string a3, .int .i64 a4, .int .i64 a5, .slice A1 a6.length c1] 26)).alloc (.cells #[.slice none 0 0] 72)).heap.size) := Lib.hid (by simp)
  clear hbx
  go_enter Tryd.func14, Tryd.ntmps14
  go_wp2_with fail
  obtain ⟨n0, hn0⟩ : ∃ n0, w.heap.size + 1 = n0 := ⟨_, rfl⟩
  have hbn : w.heap.size < n0 := by omega
  have hB1 : B ≤ n0 := by omega
  have hwn : w.heap.size ≤ n0 := by omega
  obtain ⟨w0, hw0⟩ : ∃ X, (w.alloc (.cells #[.int .i64 a1, .string a2, .string a3, .int .i64 a4, .int .i64 a5, .slice A1 a6.length c1] 26)).alloc (.cells #[.slice none 0 0] 72) = X := ⟨_, rfl⟩
  rw [hn0] at HW0 HSZ ⊢
  rw [hw0] at HW0 HSZ HBX0 HBK0 ⊢
  have hbx0 := HBX0.out
  have Bk0 := HBK0.out
  have hs0 := HSZ.out
  obtain ⟨g, hg⟩ : ∃ g, n0 = g := ⟨_, rfl⟩
  have HG := Lib.hid hg
  have HW0 : Hid (Wr w0 n0 g (.slice none 0 0) []) := Lib.hid (by rw [← hg]; exact HW0.out)
  obtain ⟨l0, hl0⟩ : ∃ l, ([] : List UInt8) = l := ⟨_, rfl⟩
  have hn0' : l0.length ≤ 0 := by rw [← hl0]; simp
  rw [hl0] at HW0
  have HL0 := Lib.hid hl0
  have hc0 := hbx0.cell
  clear hw0 hl0 hn0
  rw [show (Value.pointer (some ⟨n0, 0, none⟩)) = .pointer (some ⟨g, 0, none⟩) from by rw [hg]]
  clear hg
  rw [byte_conv a1]
  refine (byte_ok HW0.out (b8 a1) (by omega) hs0).mono ?_
  rintro e w1 ⟨rfl, v1, hw1, hb1⟩
  obtain ⟨l1, hl1⟩ : ∃ l, l0 ++ [b8 a1] = l := ⟨_, rfl⟩
  have hn1 : l1.length ≤ l0.length + (1) := app_len hl1 rfl
  rw [hl1] at hw1
  have HL1 := Lib.hid hl1
  have HW1 := Lib.hid hw1
  have hbx1 := hbx0.below hb1 hbn
  have hc1 := hbx1.cell
  have hs1 : n0 ≤ w1.heap.size := Nat.le_trans hs0 hb1.size
  have Bk1 := Bk0.trans (hb1.mono hwn)
  clear hl1 hw1 hc0 hbx0 hb1 hs0
  go_wp2_with fail
  refine (wbytes_mk (HW1.out.below (sb_below w1 a2)) (sb_mk w1 a2 t2 HS2.out) (by omega) (Nat.le_trans hs1 (sb_below w1 a2).size)).mono ?_
  rintro e w2 ⟨rfl, v2, hw2, hb2⟩
  replace hb2 := ((sb_below w1 a2).mono hs1).trans hb2
  obtain ⟨l2, hl2⟩ : ∃ l, l1 ++ lenBytes t2 = l := ⟨_, rfl⟩
  have hn2 : l2.length ≤ l1.length + (4 + t2.length) := app_len hl2 (lenBytes_len _)
  rw [hl2] at hw2
  have HL2 := Lib.hid hl2
  have HW2 := Lib.hid hw2
  have hbx2 := hbx1.below hb2 hbn
  have hc2 := hbx2.cell
  have hs2 : n0 ≤ w2.heap.size := Nat.le_trans hs1 hb2.size
  have Bk2 := Bk1.trans (hb2.mono hwn)
  clear hl2 hw2 hc1 hbx1 hb2 hs1
  go_wp2_with fail
  refine (wbytes_mk (HW2.out.below (sb_below w2 a3)) (sb_mk w2 a3 t3 HS3.out) (by omega) (Nat.le_trans hs2 (sb_below w2 a3).size)).mono ?_
  rintro e w3 ⟨rfl, v3, hw3, hb3⟩
  replace hb3 := ((sb_below w2 a3).mono hs2).trans hb3
  obtain ⟨l3, hl3⟩ : ∃ l, l2 ++ lenBytes t3 = l := ⟨_, rfl⟩
  have hn3 : l3.length ≤ l2.length + (4 + t3.length) := app_len hl3 (lenBytes_len _)
  rw [hl3] at hw3
  have HL3 := Lib.hid hl3
  have HW3 := Lib.hid hw3
  have hbx3 := hbx2.below hb3 hbn
  have hc3 := hbx3.cell
  have hs3 : n0 ≤ w3.heap.size := Nat.le_trans hs2 hb3.size
  have Bk3 := Bk2.trans (hb3.mono hwn)
  clear hl3 hw3 hc2 hbx2 hb3 hs2
  go_wp2_with fail
  refine (wint_ok HW3.out a4 (by omega) hs3).mono ?_
  rintro e w4 ⟨rfl, v4, hw4, hb4⟩
  obtain ⟨l4, hl4⟩ : ∃ l, l3 ++ beBytes (u64of a4) 8 = l := ⟨_, rfl⟩
  have hn4 : l4.length ≤ l3.length + (8) := app_len hl4 (be_len _ _)
  rw [hl4] at hw4
  have HL4 := Lib.hid hl4
  have HW4 := Lib.hid hw4
  have hbx4 := hbx3.below hb4 hbn
  have hc4 := hbx4.cell
  have hs4 : n0 ≤ w4.heap.size := Nat.le_trans hs3 hb4.size
  have Bk4 := Bk3.trans (hb4.mono hwn)
  clear hl4 hw4 hc3 hbx3 hb4 hs3
  go_wp2_with fail
  refine (wint_ok HW4.out a5 (by omega) hs4).mono ?_
  rintro e w5 ⟨rfl, v5, hw5, hb5⟩
  obtain ⟨l5, hl5⟩ : ∃ l, l4 ++ beBytes (u64of a5) 8 = l := ⟨_, rfl⟩
  have hn5 : l5.length ≤ l4.length + (8) := app_len hl5 (be_len _ _)
  rw [hl5] at hw5
  have HL5 := Lib.hid hl5
  have HW5 := Lib.hid hw5
  have hbx5 := hbx4.below hb5 hbn
  have hc5 := hbx5.cell
  have hs5 : n0 ≤ w5.heap.size := Nat.le_trans hs4 hb5.size
  have Bk5 := Bk4.trans (hb5.mono hwn)
  clear hl5 hw5 hc4 hbx4 hb5 hs4
  go_wp2_with fail
  refine (wbytes_any HW5.out A1 c1 B a6 (h1.below (Bk5.mono hB)) HN1.out hB1 (by omega) hs5).mono ?_
  rintro e w6 ⟨rfl, v6, hw6, hb6⟩
  obtain ⟨l6, hl6⟩ : ∃ l, l5 ++ lenBytes a6 = l := ⟨_, rfl⟩
  have hn6 : l6.length ≤ l5.length + (4 + a6.length) := app_len hl6 (lenBytes_len _)
  rw [hl6] at hw6
  have HL6 := Lib.hid hl6
  have HW6 := Lib.hid hw6
  have hbx6 := hbx5.below hb6 hbn
  have hc6 := hbx6.cell
  have hs6 : n0 ≤ w6.heap.size := Nat.le_trans hs5 hb6.size
  have Bk6 := Bk5.trans (hb6.mono hwn)
  clear hl6 hw6 hc5 hbx5 hb6 hs5
  go_wp2_with fail
  have HEQ : Hid (E = l6) := Lib.hid (by
    rw [← HE.out, ← HL6.out, ← HL5.out, ← HL4.out, ← HL3.out, ← HL2.out, ← HL1.out, ← HL0.out, ← HS2.out, ← HS3.out]
    rfl)
  refine (out_ok HW6.out (by omega) hs6).mono ?_
  rintro e w7 ⟨⟨A3, c3, rfl, ho⟩, hb7⟩
  have HO := Lib.hid ho
  have hTn := hT.below hT.1 (Bk6.trans (hb7.mono Bk6.size))
  have Bkn := Bk6.trans (hb7.mono Bk6.size)
  clear ho hc6
  go_wp2_with fail
  refine (wrap_ok A3 c3 w7.heap.size l6 w7 hTn (Sl.of_own HO.out) (fun e => by have hh := HO.out; rw [e] at hh; exact owns_nil0 hh) (by omega) (Nat.le_refl _)).mono ?_
  rintro e w18 ⟨⟨A4, c4, rfl, ho4⟩, hb18⟩
  go_wp2
  go_ret
  rw [HEQ.out]
  have hs := Bkn.size
  exact ⟨⟨A4, c4, rfl, own_low ho4 hs⟩, Bkn.trans (hb18.mono hs)⟩
end Go.Proofs.YtjkilpjdgjijiaaDoor
