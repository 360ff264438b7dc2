/- tidelineref12.Encode. -/
import Derived.Test.YtadflbeniccfeaaDoorRpcE
import Derived.Test.YtadflbeniccfeaaDoorRw
import Derived.Deep.RegionLaw
import Derived.Deep.CutRange
namespace Go.Proofs.YtadflbeniccfeaaDoor
open Go.RowKit
set_option linter.unusedVariables false

set_option maxRecDepth 100000 in
set_option maxHeartbeats 8000000 in
theorem rrpcenc_ok (m : Msg) (A1 A2 : Option Addr) (c1 c2 B : Nat) (w : World) (h1 : Sl w B A1 (bv m.cd)) (h2 : Sl w B A2 (bv m.va)) (n1 : A1 = none → c1 = 0) (n2 : A2 = none → c2 = 0) (hB : B ≤ w.heap.size) (hr : m.right = true) :
    Calls Tryd.prog 42 #[m.val A1 c1 A2 c2] w fun e w' => NewBytes w.heap.size (wrapped (encMsg m)) e w' ∧ Below w.heap.size w w' := by
  obtain ⟨E, hE⟩ : ∃ E, encMsg m = E := ⟨_, rfl⟩
  rw [hE]
  have HE := Lib.hid hE
  have HN1 := Lib.hid n1
  have HN2 := Lib.hid n2
  have hz : m.cd.length ≤ 65536 ∧ m.va.length ≤ 1000 := by unfold Msg.right at hr; have := of_decide_eq_true hr; omega
  clear hE hr n1 n2
  obtain ⟨a1, a2, a3, a4, a5, a6, a7, a8, a9, a10, a11, a12, a13, a14, a15, a16⟩ := m
  obtain ⟨hz1, hz2⟩ := hz
  have k1 := byte_conv a1
  have k2 := byte_conv a2
  have k5 := byte_conv a5
  have k8 := byte_conv a8
  go_enter Tryd.func42, Tryd.ntmps42
  go_upto_region 2 with fail
  have hbx : Blk (w.alloc (.cells #[.int .i64 a1, .int .i64 a2, .int .i64 a3, .bool a4, .int .i64 a5, .int .i64 a6, .int .i64 a7, .int .i64 a8, .slice A1 a9.length c1, .int .i64 a10, .int .i64 a11, .slice A2 a12.length c2, .int .i64 a13, .int .i64 a14, .int .i64 a15, .int .i64 a16] 68)) w.heap.size #[.int .i64 a1, .int .i64 a2, .int .i64 a3, .bool a4, .int .i64 a5, .int .i64 a6, .int .i64 a7, .int .i64 a8, .slice A1 a9.length c1, .int .i64 a10, .int .i64 a11, .slice A2 a12.length c2, .int .i64 a13, .int .i64 a14, .int .i64 a15, .int .i64 a16] := Blk.new w _ _
  have hbx0 := hbx.alloc (.cells #[.int .u8 ((b8 a1).toNat : Int), .int .u8 ((b8 a2).toNat : Int)] 5)
  obtain ⟨n0, hn0⟩ : ∃ n0, w.heap.size + 1 = n0 := ⟨_, rfl⟩
  have hbn : w.heap.size < n0 := by omega
  have hB1 : B ≤ n0 := by omega
  have hwn : w.heap.size ≤ n0 := by omega
  have hy := heap_alloc_new (w.alloc (.cells #[.int .i64 a1, .int .i64 a2, .int .i64 a3, .bool a4, .int .i64 a5, .int .i64 a6, .int .i64 a7, .int .i64 a8, .slice A1 a9.length c1, .int .i64 a10, .int .i64 a11, .slice A2 a12.length c2, .int .i64 a13, .int .i64 a14, .int .i64 a15, .int .i64 a16] 68)) (.cells #[.int .u8 ((b8 a1).toNat : Int), .int .u8 ((b8 a2).toNat : Int)] 5)
  have Bk0 : Below w.heap.size w ((w.alloc (.cells #[.int .i64 a1, .int .i64 a2, .int .i64 a3, .bool a4, .int .i64 a5, .int .i64 a6, .int .i64 a7, .int .i64 a8, .slice A1 a9.length c1, .int .i64 a10, .int .i64 a11, .slice A2 a12.length c2, .int .i64 a13, .int .i64 a14, .int .i64 a15, .int .i64 a16] 68)).alloc (.cells #[.int .u8 ((b8 a1).toNat : Int), .int .u8 ((b8 a2).toNat : Int)] 5)) := ((Below.refl _ _).alloc (Nat.le_refl _) _).alloc (by simp) _
  rw [World.size_alloc] at hy
  have hs0 : n0 ≤ ((w.alloc (.cells #[.int .i64 a1, .int .i64 a2, .int .i64 a3, .bool a4, .int .i64 a5, .int .i64 a6, .int .i64 a7, .int .i64 a8, .slice A1 a9.length c1, .int .i64 a10, .int .i64 a11, .slice A2 a12.length c2, .int .i64 a13, .int .i64 a14, .int .i64 a15, .int .i64 a16] 68)).alloc (.cells #[.int .u8 ((b8 a1).toNat : Int), .int .u8 ((b8 a2).toNat : Int)] 5)).heap.size := by simp; omega
  obtain ⟨w0, hw0⟩ : ∃ X, (w.alloc (.cells #[.int .i64 a1, .int .i64 a2, .int .i64 a3, .bool a4, .int .i64 a5, .int .i64 a6, .int .i64 a7, .int .i64 a8, .slice A1 a9.length c1, .int .i64 a10, .int .i64 a11, .slice A2 a12.length c2, .int .i64 a13, .int .i64 a14, .int .i64 a15, .int .i64 a16] 68)).alloc (.cells #[.int .u8 ((b8 a1).toNat : Int), .int .u8 ((b8 a2).toNat : Int)] 5) = X := ⟨_, rfl⟩
  rw [hw0] at hbx0 hy Bk0 hs0 ⊢
  rw [hn0] at hy ⊢
  obtain ⟨l0, hl0⟩ : ∃ l, [b8 a1, b8 a2] = l := ⟨_, rfl⟩
  have hn0' : l0.length ≤ 2 := by rw [← hl0]; simp
  have HO0 : Hid (Own w0 n0 (.slice (some ⟨n0, 0, none⟩) 2 2) l0) := by
    rw [← hl0]
    exact ⟨rfl, .inr ⟨n0, 2, _, rfl, Nat.le_refl _, hy, by simp, by decide, rfl, rfl⟩⟩
  obtain ⟨v0, hv0⟩ : ∃ v, Value.slice (some ⟨n0, 0, none⟩) 2 2 = v := ⟨_, rfl⟩
  rw [hv0] at HO0 ⊢
  have HL0 := Lib.hid hl0
  have hc0 := hbx0.cell
  clear hw0 hn0 hl0 hv0 hy hbx
  go_wp2_with fail
  refine (rint_own HO0.out a3 (by omega) hs0).mono ?_
  rintro e w1 ⟨v1, rfl, ho1, hb1⟩
  obtain ⟨l1, hl1⟩ : ∃ l, l0 ++ beBytes (u64of a3) 8 = l := ⟨_, rfl⟩
  have hn1 : l1.length ≤ l0.length + (8) := app_len hl1 (be_len _ _)
  rw [hl1] at ho1
  have HL1 := Lib.hid hl1
  have HO1 := Lib.hid ho1
  have hbx1 := hbx0.below hb1 hbn
  have hc1 := hbx1.cell
  have hs1 : n0 ≤ w1.heap.size := Nat.le_trans hs0 hb1.size
  have Bk1 := Bk0.trans (hb1.mono hwn)
  clear hl1 ho1 hb1 hs0 hc0 hbx0
  go_wp2_with fail
  refine (rflag_own HO1.out a4 (by omega) hs1).mono ?_
  rintro e w2 ⟨v2, rfl, ho2, hb2⟩
  obtain ⟨l2, hl2⟩ : ∃ l, l1 ++ [if a4 then 1 else 0] = l := ⟨_, rfl⟩
  have hn2 : l2.length ≤ l1.length + (1) := app_len hl2 rfl
  rw [hl2] at ho2
  have HL2 := Lib.hid hl2
  have HO2 := Lib.hid ho2
  have hbx2 := hbx1.below hb2 hbn
  have hc2 := hbx2.cell
  have hs2 : n0 ≤ w2.heap.size := Nat.le_trans hs1 hb2.size
  have Bk2 := Bk1.trans (hb2.mono hwn)
  clear hl2 ho2 hb2 hs1 hc1 hbx1
  go_wp2_with (at_builtin; refine wpList_append_byte rfl _ _ rfl n0 v2 l2 rfl (HO2.out.below ((Below.refl _ _).alloc (Nat.le_refl _) _)) w2.heap.size (b8 a5) rfl (heap_alloc_new w2 _) (by omega) (by simp; omega) ?_; intro v3 w3 ho3 hb3; have hc3 := (hbx2.below (((Below.refl n0 w2).alloc hs2 _).trans hb3) hbn).cell)
  have hb3 := ((Below.refl n0 w2).alloc hs2 _).trans hb3
  obtain ⟨l3, hl3⟩ : ∃ l, l2 ++ [b8 a5] = l := ⟨_, rfl⟩
  have hn3 : l3.length ≤ l2.length + (1) := app_len hl3 rfl
  rw [hl3] at ho3
  have HL3 := Lib.hid hl3
  have HO3 := Lib.hid ho3
  have hbx3 := hbx2.below hb3 hbn
  have hc3 := hbx3.cell
  have hs3 : n0 ≤ w3.heap.size := Nat.le_trans hs2 hb3.size
  have Bk3 := Bk2.trans (hb3.mono hwn)
  clear hl3 ho3 hb3 hs2 hc2 hbx2
  go_upto_region 5 with fail
  go_cut [3] from 25 to 31 (fun sv wx => Hid (Own wx n0 sv (l3 ++ (beBytes (u64of a6) 8 ++ beBytes (u64of a7) 8))) ∧ Hid (Below n0 w3 wx))
  case first =>
    have HCA := Lib.hid (rint_own (HO3.out.below (Below.refl w3.heap.size w3).drew) a6 (by omega) (show n0 ≤ w3.drew.heap.size from hs3))
    go_region_law
      (first
        | (go_simp; go_at_call 104; ((with_reducible refine HCA.out.mono ?_); rintro e q1 ⟨y1, rfl, hy1, hbq1⟩; have HCB := Lib.hid (rint_own hy1 a7 (by rw [List.length_append, be_len]; omega) (Nat.le_trans hs3 hbq1.size)); have hcq := (hbx3.drew.below hbq1 hbn).cell; have hsq := Nat.le_trans hs3 hbq1.size))
        | (go_simp; go_at_call 104; ((with_reducible refine HCB.out.mono ?_); rintro e q2 ⟨y2, rfl, hy2, hbq2⟩)))
    all_goals
      go_wp2
      go_meet
      exact ⟨by rw [← List.append_assoc]; exact hy2, (Below.refl n0 w3).drew.trans (hbq1.trans hbq2)⟩
  case rest =>
    obtain ⟨HOC, HBC⟩ := hcut
    obtain ⟨v4, hv4⟩ : ∃ v, v = u3 := ⟨_, rfl⟩
    obtain ⟨w4, hw4⟩ : ∃ W, W = wc := ⟨_, rfl⟩
    subst hv4 hw4
    have ho4 := HOC.out
    have hb4 := HBC.out
    clear HOC HBC
    obtain ⟨l4, hl4⟩ : ∃ l, l3 ++ (beBytes (u64of a6) 8 ++ beBytes (u64of a7) 8) = l := ⟨_, rfl⟩
    have hn4 : l4.length ≤ l3.length + (16) := app_len hl4 (by rw [List.length_append, be_len, be_len])
    rw [hl4] at ho4
    have HL4 := Lib.hid hl4
    have HO4 := Lib.hid ho4
    have hbx4 := hbx3.below hb4 hbn
    have hc4 := hbx4.cell
    have hs4 : n0 ≤ w4.heap.size := Nat.le_trans hs3 hb4.size
    have Bk4 := Bk3.trans (hb4.mono hwn)
    clear hl4 ho4 hb4 hs3 hc3 hbx3
    go_wp2_with (at_builtin; refine wpList_append_byte rfl _ _ rfl n0 v4 l4 rfl (HO4.out.below ((Below.refl _ _).alloc (Nat.le_refl _) _)) w4.heap.size (b8 a8) rfl (heap_alloc_new w4 _) (by omega) (by simp; omega) ?_; intro v5 w5 ho5 hb5; have hc5 := (hbx4.below (((Below.refl n0 w4).alloc hs4 _).trans hb5) hbn).cell)
    have hb5 := ((Below.refl n0 w4).alloc hs4 _).trans hb5
    obtain ⟨l5, hl5⟩ : ∃ l, l4 ++ [b8 a8] = l := ⟨_, rfl⟩
    have hn5 : l5.length ≤ l4.length + (1) := app_len hl5 rfl
    rw [hl5] at ho5
    have HL5 := Lib.hid hl5
    have HO5 := Lib.hid ho5
    have hbx5 := hbx4.below hb5 hbn
    have hc5 := hbx5.cell
    have hs5 : n0 ≤ w5.heap.size := Nat.le_trans hs4 hb5.size
    have Bk5 := Bk4.trans (hb5.mono hwn)
    clear hl5 ho5 hb5 hs4 hc4 hbx4
    go_wp2_with fail
    refine (rbytes_own HO5.out A1 c1 B a9 (h1.below (Bk5.mono hB)) HN1.out hB1 (by omega) hs5).mono ?_
    rintro e w6 ⟨v6, rfl, ho6, hb6⟩
    obtain ⟨l6, hl6⟩ : ∃ l, l5 ++ lenBytes a9 = l := ⟨_, rfl⟩
    have hn6 : l6.length ≤ l5.length + (4 + a9.length) := app_len hl6 (lenBytes_len _)
    rw [hl6] at ho6
    have HL6 := Lib.hid hl6
    have HO6 := Lib.hid ho6
    have hbx6 := hbx5.below hb6 hbn
    have hc6 := hbx6.cell
    have hs6 : n0 ≤ w6.heap.size := Nat.le_trans hs5 hb6.size
    have Bk6 := Bk5.trans (hb6.mono hwn)
    clear hl6 ho6 hb6 hs5 hc5 hbx5
    go_upto_region 8 with fail
    go_cut [3] from 44 to 52 (fun sv wx => Hid (Own wx n0 sv (l6 ++ (beBytes (u64of a10) 8 ++ beBytes (u64of a11) 8))) ∧ Hid (Below n0 w6 wx))
    case first =>
      have HCA := Lib.hid (rint_own (HO6.out.below (Below.refl w6.heap.size w6).drew) a10 (by omega) (show n0 ≤ w6.drew.heap.size from hs6))
      go_region_law
        (first
          | (go_simp; go_at_call 104; ((with_reducible refine HCA.out.mono ?_); rintro e q1 ⟨y1, rfl, hy1, hbq1⟩; have HCB := Lib.hid (rint_own hy1 a11 (by rw [List.length_append, be_len]; omega) (Nat.le_trans hs6 hbq1.size)); have hcq := (hbx6.drew.below hbq1 hbn).cell; have hsq := Nat.le_trans hs6 hbq1.size))
          | (go_simp; go_at_call 104; ((with_reducible refine HCB.out.mono ?_); rintro e q2 ⟨y2, rfl, hy2, hbq2⟩)))
      all_goals
        go_wp2
        go_meet
        exact ⟨by rw [← List.append_assoc]; exact hy2, (Below.refl n0 w6).drew.trans (hbq1.trans hbq2)⟩
    case rest =>
      obtain ⟨HOC, HBC⟩ := hcut
      obtain ⟨v7, hv7⟩ : ∃ v, v = u3 := ⟨_, rfl⟩
      obtain ⟨w7, hw7⟩ : ∃ W, W = wc := ⟨_, rfl⟩
      subst hv7 hw7
      have ho7 := HOC.out
      have hb7 := HBC.out
      clear HOC HBC
      obtain ⟨l7, hl7⟩ : ∃ l, l6 ++ (beBytes (u64of a10) 8 ++ beBytes (u64of a11) 8) = l := ⟨_, rfl⟩
      have hn7 : l7.length ≤ l6.length + (16) := app_len hl7 (by rw [List.length_append, be_len, be_len])
      rw [hl7] at ho7
      have HL7 := Lib.hid hl7
      have HO7 := Lib.hid ho7
      have hbx7 := hbx6.below hb7 hbn
      have hc7 := hbx7.cell
      have hs7 : n0 ≤ w7.heap.size := Nat.le_trans hs6 hb7.size
      have Bk7 := Bk6.trans (hb7.mono hwn)
      clear hl7 ho7 hb7 hs6 hc6 hbx6
      go_wp2_with fail
      refine (rbytes_own HO7.out A2 c2 B a12 (h2.below (Bk7.mono hB)) HN2.out hB1 (by omega) hs7).mono ?_
      rintro e w8 ⟨v8, rfl, ho8, hb8⟩
      obtain ⟨l8, hl8⟩ : ∃ l, l7 ++ lenBytes a12 = l := ⟨_, rfl⟩
      have hn8 : l8.length ≤ l7.length + (4 + a12.length) := app_len hl8 (lenBytes_len _)
      rw [hl8] at ho8
      have HL8 := Lib.hid hl8
      have HO8 := Lib.hid ho8
      have hbx8 := hbx7.below hb8 hbn
      have hc8 := hbx8.cell
      have hs8 : n0 ≤ w8.heap.size := Nat.le_trans hs7 hb8.size
      have Bk8 := Bk7.trans (hb8.mono hwn)
      clear hl8 ho8 hb8 hs7 hc7 hbx7
      go_upto_region 10 with fail
      go_cut [3] from 57 to 63 (fun sv wx => Hid (Own wx n0 sv (l8 ++ (beBytes (u64of a13) 8 ++ beBytes (u64of a14) 8))) ∧ Hid (Below n0 w8 wx))
      case first =>
        have HCA := Lib.hid (rint_own (HO8.out.below (Below.refl w8.heap.size w8).drew) a13 (by omega) (show n0 ≤ w8.drew.heap.size from hs8))
        go_region_law
          (first
            | (go_simp; go_at_call 104; ((with_reducible refine HCA.out.mono ?_); rintro e q1 ⟨y1, rfl, hy1, hbq1⟩; have HCB := Lib.hid (rint_own hy1 a14 (by rw [List.length_append, be_len]; omega) (Nat.le_trans hs8 hbq1.size)); have hcq := (hbx8.drew.below hbq1 hbn).cell; have hsq := Nat.le_trans hs8 hbq1.size))
            | (go_simp; go_at_call 104; ((with_reducible refine HCB.out.mono ?_); rintro e q2 ⟨y2, rfl, hy2, hbq2⟩)))
        all_goals
          go_wp2
          go_meet
          exact ⟨by rw [← List.append_assoc]; exact hy2, (Below.refl n0 w8).drew.trans (hbq1.trans hbq2)⟩
      case rest =>
        obtain ⟨HOC, HBC⟩ := hcut
        obtain ⟨v9, hv9⟩ : ∃ v, v = u3 := ⟨_, rfl⟩
        obtain ⟨w9, hw9⟩ : ∃ W, W = wc := ⟨_, rfl⟩
        subst hv9 hw9
        have ho9 := HOC.out
        have hb9 := HBC.out
        clear HOC HBC
        obtain ⟨l9, hl9⟩ : ∃ l, l8 ++ (beBytes (u64of a13) 8 ++ beBytes (u64of a14) 8) = l := ⟨_, rfl⟩
        have hn9 : l9.length ≤ l8.length + (16) := app_len hl9 (by rw [List.length_append, be_len, be_len])
        rw [hl9] at ho9
        have HL9 := Lib.hid hl9
        have HO9 := Lib.hid ho9
        have hbx9 := hbx8.below hb9 hbn
        have hc9 := hbx9.cell
        have hs9 : n0 ≤ w9.heap.size := Nat.le_trans hs8 hb9.size
        have Bk9 := Bk8.trans (hb9.mono hwn)
        clear hl9 ho9 hb9 hs8 hc8 hbx8
        go_upto_region 11 with fail
        go_cut [3] from 64 to 70 (fun sv wx => Hid (Own wx n0 sv (l9 ++ (beBytes (u64of a15) 8 ++ beBytes (u64of a16) 8))) ∧ Hid (Below n0 w9 wx))
        case first =>
          have HCA := Lib.hid (rint_own (HO9.out.below (Below.refl w9.heap.size w9).drew) a15 (by omega) (show n0 ≤ w9.drew.heap.size from hs9))
          go_region_law
            (first
              | (go_simp; go_at_call 104; ((with_reducible refine HCA.out.mono ?_); rintro e q1 ⟨y1, rfl, hy1, hbq1⟩; have HCB := Lib.hid (rint_own hy1 a16 (by rw [List.length_append, be_len]; omega) (Nat.le_trans hs9 hbq1.size)); have hcq := (hbx9.drew.below hbq1 hbn).cell; have hsq := Nat.le_trans hs9 hbq1.size))
              | (go_simp; go_at_call 104; ((with_reducible refine HCB.out.mono ?_); rintro e q2 ⟨y2, rfl, hy2, hbq2⟩)))
          all_goals
            go_wp2
            go_meet
            exact ⟨by rw [← List.append_assoc]; exact hy2, (Below.refl n0 w9).drew.trans (hbq1.trans hbq2)⟩
        case rest =>
          obtain ⟨HOC, HBC⟩ := hcut
          obtain ⟨v10, hv10⟩ : ∃ v, v = u3 := ⟨_, rfl⟩
          obtain ⟨w10, hw10⟩ : ∃ W, W = wc := ⟨_, rfl⟩
          subst hv10 hw10
          have ho10 := HOC.out
          have hb10 := HBC.out
          clear HOC HBC
          obtain ⟨l10, hl10⟩ : ∃ l, l9 ++ (beBytes (u64of a15) 8 ++ beBytes (u64of a16) 8) = l := ⟨_, rfl⟩
          have hn10 : l10.length ≤ l9.length + (16) := app_len hl10 (by rw [List.length_append, be_len, be_len])
          rw [hl10] at ho10
          have HL10 := Lib.hid hl10
          have HO10 := Lib.hid ho10
          have hbx10 := hbx9.below hb10 hbn
          have hc10 := hbx10.cell
          have hs10 : n0 ≤ w10.heap.size := Nat.le_trans hs9 hb10.size
          have Bk10 := Bk9.trans (hb10.mono hwn)
          clear hl10 ho10 hb10 hs9 hc9 hbx9
          go_wp2_with fail
          obtain ⟨A3, c3, rfl⟩ := HO10.out.form
          refine (rwrap_ok A3 c3 w10.heap.size l10 w10 (Sl.of_own HO10.out) (fun e => by have hh := HO10.out; rw [e] at hh; exact owns_nil0 hh) (by omega) (Nat.le_refl _)).mono ?_
          rintro e w11 ⟨⟨A4, c4, rfl, ho4⟩, hb11⟩
          go_wp2
          go_ret
          have hEq : E = l10 := by
            rw [← HE.out, ← HL10.out, ← HL9.out, ← HL8.out, ← HL7.out, ← HL6.out, ← HL5.out, ← HL4.out, ← HL3.out, ← HL2.out, ← HL1.out, ← HL0.out]
            simp [encMsg, List.append_assoc]
          rw [hEq]
          have hs := Bk10.size
          refine ⟨⟨A4, c4, rfl, ho4.1, ?_⟩, Bk10.trans (hb11.mono Bk10.size)⟩
          rcases ho4.2 with h0 | ⟨g', cap', cur, e1, e2, r⟩
          · exact .inl h0
          · exact .inr ⟨g', cap', cur, e1, by omega, r⟩
end Go.Proofs.YtadflbeniccfeaaDoor
