/- rpc.Encode. -/
import Derived.Test.YtiglgepbffcdeaaDoorRpcR
import Derived.Test.YtiglgepbffcdeaaDoorWr
import Derived.Test.YtiglgepbffcdeaaDoorRw
namespace Go.Proofs.YtiglgepbffcdeaaDoor
open Go.RowKit
set_option linter.unusedVariables false

/-- A message's bytes. -/
def encMsg (m : Msg) : List UInt8 :=
  [] ++ [b8 m.fr] ++ [b8 m.to] ++ beBytes (u64of m.nu) 8 ++ [if m.re then 1 else 0] ++ [b8 m.ki] ++ beBytes (u64of m.ep) 8 ++ beBytes (u64of m.att) 8 ++ [b8 m.wh] ++ lenBytes m.cd ++ beBytes (u64of m.br) 8 ++ beBytes (u64of m.bw) 8 ++
    lenBytes m.va ++ beBytes (u64of m.er) 8 ++ beBytes (u64of m.ta) 8 ++ beBytes (u64of m.lo) 8 ++ beBytes (u64of m.ba) 8

set_option maxRecDepth 100000 in
set_option maxHeartbeats 4000000 in
theorem rpcenc_ok (m : Msg) (A1 A2 : Option Addr) (c1 c2 B : Nat) (w : World) (hT : Tab w) (h1 : Sl w B A1 (bv m.cd)) (h2 : Sl w B A2 (bv m.va)) (n1 : A1 = none → c1 = 0) (n2 : A2 = none → c2 = 0) (hB : B ≤ w.heap.size) (hr : m.right = true) :
    Calls Tryd.prog 58 #[m.val A1 c1 A2 c2] w fun e w' => (∃ A c, e = .returned (.tuple #[.slice A (wrapped (encMsg m)).length c, .int .i64 0]) ∧ w'.ownsRow w.heap.size 5 1 (.slice A (wrapped (encMsg m)).length c) (wrapped (encMsg m)).length (bv (wrapped (encMsg m)))) ∧ Below w.heap.size w w' := by
  obtain ⟨E, hE⟩ : ∃ E, encMsg m = E := ⟨_, rfl⟩
  rw [hE]
  have HE := Lib.hid hE
  have HR := Lib.hid hr
  have HN1 := Lib.hid n1
  have HN2 := Lib.hid n2
  have hz : m.cd.length ≤ 65536 ∧ m.va.length ≤ 1000 := by unfold Msg.right at hr; have := of_decide_eq_true hr; omega
  clear hE hr n1 n2
  obtain ⟨a1, a2, a3, a4, a5, a6, a7, a8, a9, a10, a11, a12, a13, a14, a15, a16⟩ := m
  obtain ⟨hz1, hz2⟩ := hz
  go_enter Tryd.func58, Tryd.ntmps58
  go_wp2_with fail
  refine (mright_any ⟨a1, a2, a3, a4, a5, a6, a7, a8, a9, a10, a11, a12, a13, a14, a15, a16⟩ A1 A2 c1 c2 _).mono ?_
  rintro e w1 ⟨he, hb1⟩
  rw [HR.out] at he
  subst he
  have hbx : Blk (w.alloc (.cells #[.int .i64 a1, .int .i64 a2, .int .i64 a3, .bool a4, .int .i64 a5, .int .i64 a6, .int .i64 a7, .int .i64 a8, .slice A1 a9.length c1, .int .i64 a10, .int .i64 a11, .slice A2 a12.length c2, .int .i64 a13, .int .i64 a14, .int .i64 a15, .int .i64 a16] 34)) w.heap.size #[.int .i64 a1, .int .i64 a2, .int .i64 a3, .bool a4, .int .i64 a5, .int .i64 a6, .int .i64 a7, .int .i64 a8, .slice A1 a9.length c1, .int .i64 a10, .int .i64 a11, .slice A2 a12.length c2, .int .i64 a13, .int .i64 a14, .int .i64 a15, .int .i64 a16] := Blk.new w _ _
  have hbx1 := hbx.belowAll hb1
  obtain ⟨n0, hn0⟩ : ∃ n0, w.heap.size + 1 = n0 := ⟨_, rfl⟩
  have hbn : w.heap.size < n0 := by omega
  have hB1 : B ≤ n0 := by omega
  have hs0 : n0 ≤ w1.heap.size := by have := hb1.size; simp at this; omega
  have B1 : Below w.heap.size w w1 := ((Below.refl _ _).alloc (Nat.le_refl _) _).trans (hb1.mono (by simp))
  have hl1 := hbx1.lt
  have hc1 := hbx1.cell
  have hwn : w.heap.size ≤ n0 := by omega
  clear hbx hb1 hn0
  go_wp2_with fail
  have HW0 := Lib.hid (wr_new w1 n0 hs0)
  have hbx0 := hbx1.alloc (.cells #[.slice none 0 0] 113)
  have Bk0 := B1.alloc B1.size (.cells #[.slice none 0 0] 113)
  have hs0 : n0 ≤ (w1.alloc (.cells #[.slice none 0 0] 113)).heap.size := by simp; omega
  obtain ⟨w0, hw0⟩ : ∃ X, w1.alloc (.cells #[.slice none 0 0] 113) = X := ⟨_, rfl⟩
  obtain ⟨g, hg⟩ : ∃ g, w1.heap.size = g := ⟨_, rfl⟩
  rw [hw0, hg] at HW0 ⊢
  rw [hw0] at hbx0 Bk0 hs0
  obtain ⟨l0, hl0⟩ : ∃ l, ([] : List UInt8) = l := ⟨_, rfl⟩
  have hn0 : l0.length ≤ 0 := by rw [← hl0]; simp
  rw [hl0] at HW0
  have HL0 := Lib.hid hl0
  have hc0 := hbx0.cell
  clear hw0 hg hl0 hl1 hc1 hbx1 B1
  rw [byte_conv a1]
  refine (byte_ok HW0.out (b8 a1) (by omega) hs0).mono ?_
  rintro e w1 ⟨rfl, v1, hw1, hb1⟩
  obtain ⟨l1, hl1⟩ : ∃ l, l0 ++ [b8 a1] = l := ⟨_, rfl⟩
  have hn1 : l1.length ≤ l0.length + (1) := app_len hl1 rfl
  rw [hl1] at hw1
  have HL1 := Lib.hid hl1
  have HW1 := Lib.hid hw1
  have hbx1 := hbx0.below hb1 hbn
  have hc1 := hbx1.cell
  have hs1 : n0 ≤ w1.heap.size := Nat.le_trans hs0 hb1.size
  have Bk1 := Bk0.trans (hb1.mono hwn)
  clear hl1 hw1 hc0 hbx0 hb1 hs0
  go_wp2_with fail
  rw [byte_conv a2]
  refine (byte_ok HW1.out (b8 a2) (by omega) hs1).mono ?_
  rintro e w2 ⟨rfl, v2, hw2, hb2⟩
  obtain ⟨l2, hl2⟩ : ∃ l, l1 ++ [b8 a2] = l := ⟨_, rfl⟩
  have hn2 : l2.length ≤ l1.length + (1) := app_len hl2 rfl
  rw [hl2] at hw2
  have HL2 := Lib.hid hl2
  have HW2 := Lib.hid hw2
  have hbx2 := hbx1.below hb2 hbn
  have hc2 := hbx2.cell
  have hs2 : n0 ≤ w2.heap.size := Nat.le_trans hs1 hb2.size
  have Bk2 := Bk1.trans (hb2.mono hwn)
  clear hl2 hw2 hc1 hbx1 hb2 hs1
  go_wp2_with fail
  refine (wint_ok HW2.out a3 (by omega) hs2).mono ?_
  rintro e w3 ⟨rfl, v3, hw3, hb3⟩
  obtain ⟨l3, hl3⟩ : ∃ l, l2 ++ beBytes (u64of a3) 8 = l := ⟨_, rfl⟩
  have hn3 : l3.length ≤ l2.length + (8) := app_len hl3 (be_len _ _)
  rw [hl3] at hw3
  have HL3 := Lib.hid hl3
  have HW3 := Lib.hid hw3
  have hbx3 := hbx2.below hb3 hbn
  have hc3 := hbx3.cell
  have hs3 : n0 ≤ w3.heap.size := Nat.le_trans hs2 hb3.size
  have Bk3 := Bk2.trans (hb3.mono hwn)
  clear hl3 hw3 hc2 hbx2 hb3 hs2
  go_wp2_with fail
  refine (wflag_ok HW3.out a4 (by omega) hs3).mono ?_
  rintro e w4 ⟨rfl, v4, hw4, hb4⟩
  obtain ⟨l4, hl4⟩ : ∃ l, l3 ++ [if a4 then 1 else 0] = l := ⟨_, rfl⟩
  have hn4 : l4.length ≤ l3.length + (1) := app_len hl4 rfl
  rw [hl4] at hw4
  have HL4 := Lib.hid hl4
  have HW4 := Lib.hid hw4
  have hbx4 := hbx3.below hb4 hbn
  have hc4 := hbx4.cell
  have hs4 : n0 ≤ w4.heap.size := Nat.le_trans hs3 hb4.size
  have Bk4 := Bk3.trans (hb4.mono hwn)
  clear hl4 hw4 hc3 hbx3 hb4 hs3
  go_wp2_with fail
  rw [byte_conv a5]
  refine (byte_ok HW4.out (b8 a5) (by omega) hs4).mono ?_
  rintro e w5 ⟨rfl, v5, hw5, hb5⟩
  obtain ⟨l5, hl5⟩ : ∃ l, l4 ++ [b8 a5] = l := ⟨_, rfl⟩
  have hn5 : l5.length ≤ l4.length + (1) := app_len hl5 rfl
  rw [hl5] at hw5
  have HL5 := Lib.hid hl5
  have HW5 := Lib.hid hw5
  have hbx5 := hbx4.below hb5 hbn
  have hc5 := hbx5.cell
  have hs5 : n0 ≤ w5.heap.size := Nat.le_trans hs4 hb5.size
  have Bk5 := Bk4.trans (hb5.mono hwn)
  clear hl5 hw5 hc4 hbx4 hb5 hs4
  go_wp2_with fail
  refine (wint_ok HW5.out a6 (by omega) hs5).mono ?_
  rintro e w6 ⟨rfl, v6, hw6, hb6⟩
  obtain ⟨l6, hl6⟩ : ∃ l, l5 ++ beBytes (u64of a6) 8 = l := ⟨_, rfl⟩
  have hn6 : l6.length ≤ l5.length + (8) := app_len hl6 (be_len _ _)
  rw [hl6] at hw6
  have HL6 := Lib.hid hl6
  have HW6 := Lib.hid hw6
  have hbx6 := hbx5.below hb6 hbn
  have hc6 := hbx6.cell
  have hs6 : n0 ≤ w6.heap.size := Nat.le_trans hs5 hb6.size
  have Bk6 := Bk5.trans (hb6.mono hwn)
  clear hl6 hw6 hc5 hbx5 hb6 hs5
  go_wp2_with fail
  refine (wint_ok HW6.out a7 (by omega) hs6).mono ?_
  rintro e w7 ⟨rfl, v7, hw7, hb7⟩
  obtain ⟨l7, hl7⟩ : ∃ l, l6 ++ beBytes (u64of a7) 8 = l := ⟨_, rfl⟩
  have hn7 : l7.length ≤ l6.length + (8) := app_len hl7 (be_len _ _)
  rw [hl7] at hw7
  have HL7 := Lib.hid hl7
  have HW7 := Lib.hid hw7
  have hbx7 := hbx6.below hb7 hbn
  have hc7 := hbx7.cell
  have hs7 : n0 ≤ w7.heap.size := Nat.le_trans hs6 hb7.size
  have Bk7 := Bk6.trans (hb7.mono hwn)
  clear hl7 hw7 hc6 hbx6 hb7 hs6
  go_wp2_with fail
  rw [byte_conv a8]
  refine (byte_ok HW7.out (b8 a8) (by omega) hs7).mono ?_
  rintro e w8 ⟨rfl, v8, hw8, hb8⟩
  obtain ⟨l8, hl8⟩ : ∃ l, l7 ++ [b8 a8] = l := ⟨_, rfl⟩
  have hn8 : l8.length ≤ l7.length + (1) := app_len hl8 rfl
  rw [hl8] at hw8
  have HL8 := Lib.hid hl8
  have HW8 := Lib.hid hw8
  have hbx8 := hbx7.below hb8 hbn
  have hc8 := hbx8.cell
  have hs8 : n0 ≤ w8.heap.size := Nat.le_trans hs7 hb8.size
  have Bk8 := Bk7.trans (hb8.mono hwn)
  clear hl8 hw8 hc7 hbx7 hb8 hs7
  go_wp2_with fail
  refine (wbytes_any HW8.out A1 c1 B a9 (h1.below (Bk8.mono hB)) HN1.out hB1 (by omega) hs8).mono ?_
  rintro e w9 ⟨rfl, v9, hw9, hb9⟩
  obtain ⟨l9, hl9⟩ : ∃ l, l8 ++ lenBytes a9 = l := ⟨_, rfl⟩
  have hn9 : l9.length ≤ l8.length + (4 + a9.length) := app_len hl9 (lenBytes_len _)
  rw [hl9] at hw9
  have HL9 := Lib.hid hl9
  have HW9 := Lib.hid hw9
  have hbx9 := hbx8.below hb9 hbn
  have hc9 := hbx9.cell
  have hs9 : n0 ≤ w9.heap.size := Nat.le_trans hs8 hb9.size
  have Bk9 := Bk8.trans (hb9.mono hwn)
  clear hl9 hw9 hc8 hbx8 hb9 hs8
  go_wp2_with fail
  refine (wint_ok HW9.out a10 (by omega) hs9).mono ?_
  rintro e w10 ⟨rfl, v10, hw10, hb10⟩
  obtain ⟨l10, hl10⟩ : ∃ l, l9 ++ beBytes (u64of a10) 8 = l := ⟨_, rfl⟩
  have hn10 : l10.length ≤ l9.length + (8) := app_len hl10 (be_len _ _)
  rw [hl10] at hw10
  have HL10 := Lib.hid hl10
  have HW10 := Lib.hid hw10
  have hbx10 := hbx9.below hb10 hbn
  have hc10 := hbx10.cell
  have hs10 : n0 ≤ w10.heap.size := Nat.le_trans hs9 hb10.size
  have Bk10 := Bk9.trans (hb10.mono hwn)
  clear hl10 hw10 hc9 hbx9 hb10 hs9
  go_wp2_with fail
  refine (wint_ok HW10.out a11 (by omega) hs10).mono ?_
  rintro e w11 ⟨rfl, v11, hw11, hb11⟩
  obtain ⟨l11, hl11⟩ : ∃ l, l10 ++ beBytes (u64of a11) 8 = l := ⟨_, rfl⟩
  have hn11 : l11.length ≤ l10.length + (8) := app_len hl11 (be_len _ _)
  rw [hl11] at hw11
  have HL11 := Lib.hid hl11
  have HW11 := Lib.hid hw11
  have hbx11 := hbx10.below hb11 hbn
  have hc11 := hbx11.cell
  have hs11 : n0 ≤ w11.heap.size := Nat.le_trans hs10 hb11.size
  have Bk11 := Bk10.trans (hb11.mono hwn)
  clear hl11 hw11 hc10 hbx10 hb11 hs10
  go_wp2_with fail
  refine (wbytes_any HW11.out A2 c2 B a12 (h2.below (Bk11.mono hB)) HN2.out hB1 (by omega) hs11).mono ?_
  rintro e w12 ⟨rfl, v12, hw12, hb12⟩
  obtain ⟨l12, hl12⟩ : ∃ l, l11 ++ lenBytes a12 = l := ⟨_, rfl⟩
  have hn12 : l12.length ≤ l11.length + (4 + a12.length) := app_len hl12 (lenBytes_len _)
  rw [hl12] at hw12
  have HL12 := Lib.hid hl12
  have HW12 := Lib.hid hw12
  have hbx12 := hbx11.below hb12 hbn
  have hc12 := hbx12.cell
  have hs12 : n0 ≤ w12.heap.size := Nat.le_trans hs11 hb12.size
  have Bk12 := Bk11.trans (hb12.mono hwn)
  clear hl12 hw12 hc11 hbx11 hb12 hs11
  go_wp2_with fail
  refine (wint_ok HW12.out a13 (by omega) hs12).mono ?_
  rintro e w13 ⟨rfl, v13, hw13, hb13⟩
  obtain ⟨l13, hl13⟩ : ∃ l, l12 ++ beBytes (u64of a13) 8 = l := ⟨_, rfl⟩
  have hn13 : l13.length ≤ l12.length + (8) := app_len hl13 (be_len _ _)
  rw [hl13] at hw13
  have HL13 := Lib.hid hl13
  have HW13 := Lib.hid hw13
  have hbx13 := hbx12.below hb13 hbn
  have hc13 := hbx13.cell
  have hs13 : n0 ≤ w13.heap.size := Nat.le_trans hs12 hb13.size
  have Bk13 := Bk12.trans (hb13.mono hwn)
  clear hl13 hw13 hc12 hbx12 hb13 hs12
  go_wp2_with fail
  refine (wint_ok HW13.out a14 (by omega) hs13).mono ?_
  rintro e w14 ⟨rfl, v14, hw14, hb14⟩
  obtain ⟨l14, hl14⟩ : ∃ l, l13 ++ beBytes (u64of a14) 8 = l := ⟨_, rfl⟩
  have hn14 : l14.length ≤ l13.length + (8) := app_len hl14 (be_len _ _)
  rw [hl14] at hw14
  have HL14 := Lib.hid hl14
  have HW14 := Lib.hid hw14
  have hbx14 := hbx13.below hb14 hbn
  have hc14 := hbx14.cell
  have hs14 : n0 ≤ w14.heap.size := Nat.le_trans hs13 hb14.size
  have Bk14 := Bk13.trans (hb14.mono hwn)
  clear hl14 hw14 hc13 hbx13 hb14 hs13
  go_wp2_with fail
  refine (wint_ok HW14.out a15 (by omega) hs14).mono ?_
  rintro e w15 ⟨rfl, v15, hw15, hb15⟩
  obtain ⟨l15, hl15⟩ : ∃ l, l14 ++ beBytes (u64of a15) 8 = l := ⟨_, rfl⟩
  have hn15 : l15.length ≤ l14.length + (8) := app_len hl15 (be_len _ _)
  rw [hl15] at hw15
  have HL15 := Lib.hid hl15
  have HW15 := Lib.hid hw15
  have hbx15 := hbx14.below hb15 hbn
  have hc15 := hbx15.cell
  have hs15 : n0 ≤ w15.heap.size := Nat.le_trans hs14 hb15.size
  have Bk15 := Bk14.trans (hb15.mono hwn)
  clear hl15 hw15 hc14 hbx14 hb15 hs14
  go_wp2_with fail
  refine (wint_ok HW15.out a16 (by omega) hs15).mono ?_
  rintro e w16 ⟨rfl, v16, hw16, hb16⟩
  obtain ⟨l16, hl16⟩ : ∃ l, l15 ++ beBytes (u64of a16) 8 = l := ⟨_, rfl⟩
  have hn16 : l16.length ≤ l15.length + (8) := app_len hl16 (be_len _ _)
  rw [hl16] at hw16
  have HL16 := Lib.hid hl16
  have HW16 := Lib.hid hw16
  have hbx16 := hbx15.below hb16 hbn
  have hc16 := hbx16.cell
  have hs16 : n0 ≤ w16.heap.size := Nat.le_trans hs15 hb16.size
  have Bk16 := Bk15.trans (hb16.mono hwn)
  clear hl16 hw16 hc15 hbx15 hb16 hs15
  go_wp2_with fail
  refine (out_ok HW16.out (by omega) hs16).mono ?_
  rintro e w17 ⟨⟨A3, c3, rfl, ho⟩, hb17⟩
  have hEq : E = l16 := by
    rw [← HE.out, ← HL16.out, ← HL15.out, ← HL14.out, ← HL13.out, ← HL12.out, ← HL11.out, ← HL10.out, ← HL9.out, ← HL8.out, ← HL7.out, ← HL6.out, ← HL5.out, ← HL4.out, ← HL3.out, ← HL2.out, ← HL1.out, ← HL0.out]
    rfl
  have HO := Lib.hid ho
  have hT17 := hT.below hT.1 (Bk16.trans (hb17.mono Bk16.size))
  have Bk17 := Bk16.trans (hb17.mono Bk16.size)
  have HEQ := Lib.hid hEq
  clear ho hEq hc16
  go_wp2_with fail
  refine (wrap_ok A3 c3 w17.heap.size l16 w17 hT17 (Sl.of_own HO.out) (fun e => by have hh := HO.out; rw [e] at hh; exact owns_nil0 hh) (by omega) (Nat.le_refl _)).mono ?_
  rintro e w18 ⟨⟨A4, c4, rfl, ho4⟩, hb18⟩
  go_wp2
  go_ret2
  rw [HEQ.out]
  have hs := Bk17.size
  refine ⟨⟨A4, c4, rfl, ho4.1, ?_⟩, Bk17.trans (hb18.mono Bk17.size)⟩
  rcases ho4.2 with h0 | ⟨g', cap', cur, e1, e2, r⟩
  · exact .inl h0
  · exact .inr ⟨g', cap', cur, e1, by omega, r⟩
end Go.Proofs.YtiglgepbffcdeaaDoor
