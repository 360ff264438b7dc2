/- tidelinelaw12.RpcTurned: the walk. -/
import Derived.Test.YtadflbeniccfeaaDoorRpcCw
import Derived.Test.YtadflbeniccfeaaDoorTurnx
namespace Go.Proofs.YtadflbeniccfeaaDoor
open Go.RowKit
set_option linter.unusedVariables false

theorem wrapped_inj {a b : List UInt8} (h : wrapped a = wrapped b) : a = b := by
  have := congrArg unw h
  rw [unw_wrapped, unw_wrapped] at this
  exact Option.some.inj this
theorem enc_iff (m n : Msg) (hm : m.right = true) (hn : n.right = true) (fm : m.fit) (fn : n.fit) : decide (wrapped (encMsg m) = wrapped (encMsg n)) = m.eqb n := by
  rw [Bool.eq_iff_iff, decide_eq_true_iff, Msg.eqb_iff]
  constructor
  · intro h
    have h2 := congrArg decMsg (wrapped_inj h)
    rw [decMsg_enc m hm fm, decMsg_enc n hn fn] at h2
    exact Option.some.inj h2
  · rintro rfl; rfl

theorem msame_zz (A7 A8 : Option Addr) (c7 c8 : Nat) (w : World) :
    Calls Tryd.prog 40 #[.agg #[.int .i64 0, .int .i64 0, .int .i64 0, .bool false, .int .i64 0, .int .i64 0, .int .i64 0, .int .i64 0, .slice A7 0 c7, .int .i64 0, .int .i64 0, .slice A8 0 c8, .int .i64 0, .int .i64 0, .int .i64 0, .int .i64 0], .agg #[.int .i64 0, .int .i64 0, .int .i64 0, .bool false, .int .i64 0, .int .i64 0, .int .i64 0, .int .i64 0, .slice none 0 0, .int .i64 0, .int .i64 0, .slice none 0 0, .int .i64 0, .int .i64 0, .int .i64 0, .int .i64 0]] w fun e w' => e = .returned (.bool true) ∧ Below w.heap.size w w' := by
  have h := msame_any zMsg zMsg A7 A8 none none c7 c8 0 0 w.heap.size w Sl.nil Sl.nil Sl.nil Sl.nil (Nat.zero_le _) (Nat.zero_le _) (Nat.zero_le _) (Nat.zero_le _) (Nat.le_refl _)
  rw [(Msg.eqb_iff _ _).2 rfl] at h
  exact h

set_option maxRecDepth 100000 in
set_option maxHeartbeats 8000000 in
theorem rturned_walk (m n : Msg) (A1 A2 A3 A4 : Option Addr) (c1 c2 c3 c4 : Nat) (z : Int) (t : UInt8) (w : World) (hT : Tab w) (h1 : Sl w w.heap.size A1 (bv m.cd)) (h2 : Sl w w.heap.size A2 (bv m.va)) (n1 : A1 = none → c1 = 0) (n2 : A2 = none → c2 = 0)
    (h3 : Sl w w.heap.size A3 (bv n.cd)) (h4 : Sl w w.heap.size A4 (bv n.va)) (n3 : A3 = none → c3 = 0) (n4 : A4 = none → c4 = 0) (k1 : m.cd.length ≤ maxLen) (k2 : m.va.length ≤ maxLen) (k3 : n.cd.length ≤ maxLen) (k4 : n.va.length ≤ maxLen) (fm : m.fit) (fn : n.fit) :
    Calls Tryd.prog 8 #[m.val A1 c1 A2 c2, n.val A3 c3 A4 c4, .int .i64 z, .int .u8 (t.toNat : Int)] w fun e w' => e = .returned (.bool true) ∧ Below w.heap.size w w' := by
  obtain ⟨rm, hrm⟩ : ∃ r, m.right = r := ⟨_, rfl⟩
  obtain ⟨rn, hrn⟩ : ∃ r, n.right = r := ⟨_, rfl⟩
  have HEA := fun (W : World) (hT : Tab W) (h1 : Sl W w.heap.size A1 (bv m.cd)) (h2 : Sl W w.heap.size A2 (bv m.va)) (hB : w.heap.size ≤ W.heap.size) (hr : m.right = true) => rpcenc_ok m A1 A2 c1 c2 w.heap.size W hT h1 h2 n1 n2 hB hr
  have HEB := fun (W : World) (hT : Tab W) (h1 : Sl W w.heap.size A3 (bv n.cd)) (h2 : Sl W w.heap.size A4 (bv n.va)) (hB : w.heap.size ≤ W.heap.size) (hr : n.right = true) => rpcenc_ok n A3 A4 c3 c4 w.heap.size W hT h1 h2 n3 n4 hB hr
  have HRA := fun (W : World) => rmright_any m A1 A2 c1 c2 W
  have HRB := fun (W : World) => rmright_any n A3 A4 c3 c4 W
  have HIF := enc_iff m n
  have hAl := encMsg_len m
  have hBl := encMsg_len n
  have HSM := fun (W : World) (h1 : Sl W w.heap.size A1 (bv m.cd)) (h2 : Sl W w.heap.size A2 (bv m.va)) (h3 : Sl W w.heap.size A3 (bv n.cd)) (h4 : Sl W w.heap.size A4 (bv n.va)) (hB : w.heap.size ≤ W.heap.size) => msame_any m n A1 A2 A3 A4 c1 c2 c3 c4 w.heap.size W h1 h2 h3 h4 k1 k2 k3 k4 hB
  rw [hrm] at HRA
  rw [hrn] at HRB
  have HEA := Lib.hid HEA
  have HEB := Lib.hid HEB
  have HRA := Lib.hid HRA
  have HRB := Lib.hid HRB
  have HIF := Lib.hid HIF
  have HSM := Lib.hid HSM
  have HFM := Lib.hid fm
  have HFN := Lib.hid fn
  have HRM := Lib.hid hrm
  have HRN := Lib.hid hrn
  have HAL := Lib.hid hAl
  have HBL := Lib.hid hBl
  clear hrm hrn fm fn n1 n2 n3 n4 hAl hBl k1 k2 k3 k4
  obtain ⟨r, hr, hr2⟩ := bits_lowx z
  obtain ⟨a1, a2, a3, a4, a5, a6, a7, a8, a9, a10, a11, a12, a13, a14, a15, a16⟩ := m
  obtain ⟨b1, b2, b3, b4, b5, b6, b7, b8, b9, b10, b11, b12, b13, b14, b15, b16⟩ := n
  go_enter Tryd.func8, Tryd.ntmps8
  go_wp2_with fail
  refine (speaks12_any _).mono ?_
  rintro e W0 ⟨rfl, B0⟩
  have hba := (Blk.new w #[.int .i64 a1, .int .i64 a2, .int .i64 a3, .bool a4, .int .i64 a5, .int .i64 a6, .int .i64 a7, .int .i64 a8, .slice A1 a9.length c1, .int .i64 a10, .int .i64 a11, .slice A2 a12.length c2, .int .i64 a13, .int .i64 a14, .int .i64 a15, .int .i64 a16] 68).alloc (.cells #[.int .i64 b1, .int .i64 b2, .int .i64 b3, .bool b4, .int .i64 b5, .int .i64 b6, .int .i64 b7, .int .i64 b8, .slice A3 b9.length c3, .int .i64 b10, .int .i64 b11, .slice A4 b12.length c4, .int .i64 b13, .int .i64 b14, .int .i64 b15, .int .i64 b16] 68)
  have hbb := Blk.new (w.alloc (.cells #[.int .i64 a1, .int .i64 a2, .int .i64 a3, .bool a4, .int .i64 a5, .int .i64 a6, .int .i64 a7, .int .i64 a8, .slice A1 a9.length c1, .int .i64 a10, .int .i64 a11, .slice A2 a12.length c2, .int .i64 a13, .int .i64 a14, .int .i64 a15, .int .i64 a16] 68)) #[.int .i64 b1, .int .i64 b2, .int .i64 b3, .bool b4, .int .i64 b5, .int .i64 b6, .int .i64 b7, .int .i64 b8, .slice A3 b9.length c3, .int .i64 b10, .int .i64 b11, .slice A4 b12.length c4, .int .i64 b13, .int .i64 b14, .int .i64 b15, .int .i64 b16] 68
  rw [World.size_alloc] at hbb
  have hba0 := hba.belowAll B0
  have hbb0 := hbb.belowAll B0
  have hqa0 := hba0.cell
  have hqb0 := hbb0.cell
  have B0 : Below w.heap.size w W0 := (((Below.refl _ _).alloc (Nat.le_refl _) _).alloc (by simp) _).trans (B0.mono (by simp; omega))
  clear hba hbb
  by_cases t1 : (2000 : Int) < (a9.length : Int)
  · go_wp2_with fail
    go_ret
    exact ⟨rfl, B0⟩
  · by_cases t2 : (2000 : Int) < (b9.length : Int)
    · go_wp2_with fail
      go_ret
      exact ⟨rfl, B0⟩
    · go_wp2_with fail
      refine (HRA.out W0).mono ?_
      rintro e W1 ⟨rfl, hb1⟩
      have B1 := B0.trans (hb1.mono B0.size)
      cases rm
      · go_wp2_with fail
        go_ret
        exact ⟨rfl, B1⟩
      · have hba1 := hba0.belowAll hb1
        have hbb1 := hbb0.belowAll hb1
        have hqa1 := hba1.cell
        have hqb1 := hbb1.cell
        clear hqa0 hqb0 hba0 hbb0 hb1
        go_wp2_with fail
        refine (HRB.out W1).mono ?_
        rintro e W2 ⟨rfl, hb2⟩
        have B2 := B1.trans (hb2.mono B1.size)
        cases rn
        · go_wp2_with fail
          go_ret
          exact ⟨rfl, B2⟩
        · have hba2 := hba1.belowAll hb2
          have hbb2 := hbb1.belowAll hb2
          have hqa2 := hba2.cell
          have hqb2 := hbb2.cell
          clear hqa1 hqb1 hba1 hbb1 hb2
          go_wp2_with fail
          have hz1 : a9.length ≤ 65536 ∧ a12.length ≤ 1000 := by have := of_decide_eq_true HRM.out; dsimp only at this; omega
          have hz2 : b9.length ≤ 65536 ∧ b12.length ≤ 1000 := by have := of_decide_eq_true HRN.out; dsimp only at this; omega
          have HIF := Lib.hid (HIF.out HRM.out HRN.out HFM.out HFN.out)
          obtain ⟨LA, hLA⟩ : ∃ L, wrapped (encMsg ⟨a1, a2, a3, a4, a5, a6, a7, a8, a9, a10, a11, a12, a13, a14, a15, a16⟩) = L := ⟨_, rfl⟩
          obtain ⟨LB, hLB⟩ : ∃ L, wrapped (encMsg ⟨b1, b2, b3, b4, b5, b6, b7, b8, b9, b10, b11, b12, b13, b14, b15, b16⟩) = L := ⟨_, rfl⟩
          have hla : LA.length ≤ 100000 ∧ 4 ≤ LA.length := by have := HAL.out; rw [← hLA, wrapped_len]; omega
          have hlb : LB.length ≤ 100000 := by have := HBL.out; rw [← hLB, wrapped_len]; omega
          have HLA := Lib.hid hLA
          rw [hLA, hLB] at HIF
          obtain ⟨q, hq⟩ : ∃ q, Msg.eqb ⟨a1, a2, a3, a4, a5, a6, a7, a8, a9, a10, a11, a12, a13, a14, a15, a16⟩ ⟨b1, b2, b3, b4, b5, b6, b7, b8, b9, b10, b11, b12, b13, b14, b15, b16⟩ = q := ⟨_, rfl⟩
          rw [hq] at HIF
          have HQ := Lib.hid hq
          refine (HEA.out W2 (hT.below hT.1 B2) (h1.below B2) (h2.below B2) B2.size HRM.out).mono ?_
          rintro e W3 ⟨⟨A5, c5, rfl, ho5⟩, hb3⟩
          rw [hLA] at ho5 ⊢
          have B3 := B2.trans (hb3.mono B2.size)
          have hba3 := hba2.belowAll hb3
          have hbb3 := hbb2.belowAll hb3
          have hqa3 := hba3.cell
          have hqb3 := hbb3.cell
          clear hqa2 hqb2 hba2 hbb2 hLA hq
          go_wp2_with fail
          refine (HEB.out W3 (hT.below hT.1 B3) (h3.below B3) (h4.below B3) B3.size HRN.out).mono ?_
          rintro e W4 ⟨⟨A6, c6, rfl, ho6⟩, hb4⟩
          rw [hLB] at ho6 ⊢
          have B4 := B3.trans (hb4.mono B3.size)
          have hba4 := hba3.belowAll hb4
          have hbb4 := hbb3.belowAll hb4
          have ho5' := (Fr.of_below (M := fun _ => False) hb4).owns ho5 (fun _ _ x => x)
          obtain ⟨g, rfl, hc5, hge⟩ : ∃ g, A5 = some ⟨g, 0, none⟩ ∧ LA.length ≤ c5 ∧ W2.heap.size ≤ g := by
            rcases ho5'.2 with ⟨_, h0⟩ | ⟨g', cap', cur, e, q1, q2, q3, _⟩
            · omega
            · injection e with e1 e2 e3
              exact ⟨g', e1, by omega, q1⟩
          have S5 : Sl W4 W4.heap.size (some ⟨g, 0, none⟩) (bv LA) := Sl.of_own ho5'
          have S6 : Sl W4 W4.heap.size A6 (bv LB) := Sl.of_own ho6
          have HO5 := Lib.hid ho5'
          have HC1 : Hid (∀ u, Calls Tryd.prog 15 #[.slice (some ⟨g, 0, none⟩) LA.length c5, .slice A6 LB.length c6] (over W4 u) fun e w' => e = .returned (.bool q) ∧ ∃ u', w' = over W4 u') := by
            intro u
            have hc := same_any (some ⟨g, 0, none⟩) A6 c5 c6 W4.heap.size LA LB (over W4 u) (S5.below (over_below W4 u)) (S6.below (over_below W4 u)) (by unfold maxLen; omega) (by unfold maxLen; omega)
            rw [HIF.out] at hc
            exact over_call_drew hc
          have HC2 : Hid (∀ u, Calls Tryd.prog 40 #[.agg #[.int .i64 a1, .int .i64 a2, .int .i64 a3, .bool a4, .int .i64 a5, .int .i64 a6, .int .i64 a7, .int .i64 a8, .slice A1 a9.length c1, .int .i64 a10, .int .i64 a11, .slice A2 a12.length c2, .int .i64 a13, .int .i64 a14, .int .i64 a15, .int .i64 a16], .agg #[.int .i64 b1, .int .i64 b2, .int .i64 b3, .bool b4, .int .i64 b5, .int .i64 b6, .int .i64 b7, .int .i64 b8, .slice A3 b9.length c3, .int .i64 b10, .int .i64 b11, .slice A4 b12.length c4, .int .i64 b13, .int .i64 b14, .int .i64 b15, .int .i64 b16]] (over W4 u) fun e w' => e = .returned (.bool q) ∧ ∃ u', w' = over W4 u') := by
            intro u
            have B4u := B4.trans ((over_below W4 u).mono B4.size)
            have hc := HSM.out (over W4 u) (h1.below B4u) (h2.below B4u) (h3.below B4u) (h4.below B4u) B4u.size
            rw [HQ.out] at hc
            exact over_call hc
          have hla4 := hba4.lt
          have hlb4 := hbb4.lt
          have hqa4 : ∀ i u, (over W4 u).cell? ⟨w.heap.size, i, none⟩ = (#[.int .i64 a1, .int .i64 a2, .int .i64 a3, .bool a4, .int .i64 a5, .int .i64 a6, .int .i64 a7, .int .i64 a8, .slice A1 a9.length c1, .int .i64 a10, .int .i64 a11, .slice A2 a12.length c2, .int .i64 a13, .int .i64 a14, .int .i64 a15, .int .i64 a16] : Array Value)[i]? := fun i u => (over_cell W4 u _ _ _ hla4).trans (hba4.cell i)
          have hqb4 : ∀ i u, (over W4 u).cell? ⟨w.heap.size + 1, i, none⟩ = (#[.int .i64 b1, .int .i64 b2, .int .i64 b3, .bool b4, .int .i64 b5, .int .i64 b6, .int .i64 b7, .int .i64 b8, .slice A3 b9.length c3, .int .i64 b10, .int .i64 b11, .slice A4 b12.length c4, .int .i64 b13, .int .i64 b14, .int .i64 b15, .int .i64 b16] : Array Value)[i]? := fun i u => (over_cell W4 u _ _ _ hlb4).trans (hbb4.cell i)
          clear hqa3 hqb3 hba3 hbb3 hLB ho5 ho5' ho6 S5 S6
          go_wp2_with fail
          refine wp_region_over (by kernel_rfl) (by kernel_rfl) ?_
          repeat (go_big_quiet_step (first
            | (go_at_call 15; exact HC1.out _)
            | (go_at_call 40; exact HC2.out _)))
          refine wpQuiet_nil ?_
          rintro _ ⟨u, rfl⟩
          have B5 := B4.trans ((over_below W4 u).mono B4.size)
          have HO6 := Lib.hid ((Fr.of_below (M := fun _ => False) (over_below W4 u)).owns HO5.out (fun _ _ x => x))
          obtain ⟨W5, hW5⟩ : ∃ W, over W4 u = W := ⟨_, rfl⟩
          rw [hW5] at B5 HO6 ⊢
          clear hW5 HC1 HC2 HO5 hqa4 hqb4 hba4 hbb4
          obtain ⟨j, hj⟩ : ∃ j, r % LA.length = j := ⟨_, rfl⟩
          have hjl : j < LA.length := by rw [← hj]; exact Nat.mod_lt _ (by omega)
          have hrem : (r : Int) % ((LA.length : Nat) : Int) = (j : Int) := by rw [← hj, Int.natCast_emod]
          obtain ⟨y, hy⟩ : ∃ y, LA[j] = y := ⟨_, rfl⟩
          obtain ⟨hcl1, hcl2⟩ := owns_cellx HO6.out (bv_get hjl)
          rw [hy] at hcl1
          have hxr := xor_u8 y t
          have hji : (j : Int) < ((LA.length : Nat) : Int) := by omega
          have hll : (0 : Int) < ((LA.length : Nat) : Int) := by omega
          obtain ⟨L2, hL2⟩ : ∃ L2, LA.set j (y ^^^ t) = L2 := ⟨_, rfl⟩
          have hL2l : L2.length = LA.length := by rw [← hL2, List.length_set]
          have hto := turn_own (j := j) HO6.out (y ^^^ t)
          obtain ⟨W6, hW6⟩ : ∃ W6, W5.setCell ⟨g, j, none⟩ (.int .u8 ((y ^^^ t).toNat : Int)) = W6 := ⟨_, rfl⟩
          rw [hL2, hW6, ← hL2l] at hto
          have B6 : Below w.heap.size w W6 := by
            rw [← hW6]
            exact B5.setCell (p := ⟨g, j, none⟩) (Nat.le_trans B2.size hge) _
          have hdec : t ≠ 0 → unw L2 = none := by
            intro ht
            have hj2 : j < (wrapped (encMsg ⟨a1, a2, a3, a4, a5, a6, a7, a8, a9, a10, a11, a12, a13, a14, a15, a16⟩)).length := by rw [HLA.out]; exact hjl
            have h := unw_turned (encMsg ⟨a1, a2, a3, a4, a5, a6, a7, a8, a9, a10, a11, a12, a13, a14, a15, a16⟩) j t hj2 ht
            simp only [HLA.out] at h
            rw [hy, hL2] at h
            exact h
          have hd := rpcdec_any (some ⟨g, 0, none⟩) c5 W6.heap.size L2 W6 (hT.below hT.1 B6) (Sl.of_own hto) (by omega) (by omega) (Nat.le_refl _)
          rw [hL2l] at hd
          have HD := Lib.hid hd
          have HW6 := Lib.hid hW6
          have HDEC := Lib.hid hdec
          clear hW6 hd hdec hto hL2 hj hy hL2l
          by_cases ht : t = 0
          · have htz : ((t.toNat : Int) == 0) = true := by rw [ht]; rfl
            clear ht
            go_wp2_with fail
            first | rw [HW6.out] | (rw [← UInt8.toNat_xor, HW6.out])
            refine HD.out.mono ?_
            rintro e W7 ⟨A7, c7, A8, c8, he, hb7, -, -⟩
            obtain ⟨o, ho⟩ : ∃ o, (unw L2).bind decMsg = o := ⟨_, rfl⟩
            rw [ho] at he
            obtain ⟨Y, hY⟩ : ∃ Y, o.getD zMsg = Y := ⟨_, rfl⟩
            obtain ⟨kk, hk⟩ : ∃ kk : Int, (if o.isSome then 0 else 3) = kk := ⟨_, rfl⟩
            rw [hY, hk] at he
            clear hY hk ho
            obtain ⟨y1, y2, y3, y4, y5, y6, y7, y8, y9, y10, y11, y12, y13, y14, y15, y16⟩ := Y
            have he : e = .returned (.tuple #[.agg #[.int .i64 y1, .int .i64 y2, .int .i64 y3, .bool y4, .int .i64 y5, .int .i64 y6, .int .i64 y7, .int .i64 y8, .slice A7 y9.length c7, .int .i64 y10, .int .i64 y11, .slice A8 y12.length c8, .int .i64 y13, .int .i64 y14, .int .i64 y15, .int .i64 y16], .int .i64 kk]) := he
            subst he
            go_wp2
            go_ret
            exact ⟨rfl, (B6.trans (hb7.mono B6.size)).alloc (B6.trans (hb7.mono B6.size)).size _⟩
          · have htz : ((t.toNat : Int) == 0) = false := by
              rw [beq_eq_false_iff_ne]
              intro e
              exact ht (UInt8.toNat_inj.1 (by simpa using e))
            have hn0 := HDEC.out ht
            clear ht
            go_wp2_with fail
            first | rw [HW6.out] | (rw [← UInt8.toNat_xor, HW6.out])
            refine HD.out.mono ?_
            rintro e W7 ⟨A7, c7, A8, c8, he, hb7, -, -⟩
            rw [hn0] at he
            have he : e = .returned (.tuple #[.agg #[.int .i64 0, .int .i64 0, .int .i64 0, .bool false, .int .i64 0, .int .i64 0, .int .i64 0, .int .i64 0, .slice A7 0 c7, .int .i64 0, .int .i64 0, .slice A8 0 c8, .int .i64 0, .int .i64 0, .int .i64 0, .int .i64 0], .int .i64 3]) := he
            subst he
            have B7 := (B6.trans (hb7.mono B6.size)).alloc (B6.trans (hb7.mono B6.size)).size (.cells #[.int .i64 0, .int .i64 0, .int .i64 0, .bool false, .int .i64 0, .int .i64 0, .int .i64 0, .int .i64 0, .slice A7 0 c7, .int .i64 0, .int .i64 0, .slice A8 0 c8, .int .i64 0, .int .i64 0, .int .i64 0, .int .i64 0] 68)
            clear hn0
            go_wp2_with fail
            refine (msame_zz A7 A8 c7 c8 _).mono ?_
            rintro e W8 ⟨rfl, hb8⟩
            go_wp2
            go_ret
            exact ⟨rfl, B7.trans (hb8.mono B7.size)⟩
end Go.Proofs.YtadflbeniccfeaaDoor
