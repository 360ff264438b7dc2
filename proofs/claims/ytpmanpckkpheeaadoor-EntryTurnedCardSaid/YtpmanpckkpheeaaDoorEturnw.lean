/- tidelinelaw07.EntryTurned: the walk. -/
import Derived.Test.YtpmanpckkpheeaaDoorLogK
import Derived.Test.YtpmanpckkpheeaaDoorLogS
import Derived.Test.YtpmanpckkpheeaaDoorLogEr
import Derived.Test.YtpmanpckkpheeaaDoorTurnx
namespace Go.Proofs.YtpmanpckkpheeaaDoor
open Go.RowKit
set_option linter.unusedVariables false

theorem lg_wrapped_inj {a b : List UInt8} (h : wrapped a = wrapped b) : a = b := by
  have := congrArg unw h
  rw [unw_wrapped, unw_wrapped] at this
  exact Option.some.inj this
theorem lg_enc_iff (x y : Lg) (hx : x.right = true) (hy : y.right = true) : decide (wrapped (encLog x) = wrapped (encLog y)) = x.eqb y := by
  rw [Bool.eq_iff_iff, decide_eq_true_iff, Lg.eqb_iff]
  constructor
  · exact fun h => logEnc_inj x y hx hy (lg_wrapped_inj h)
  · rintro rfl; rfl
theorem lsame_zz (A7 A8 : Option Addr) (c7 c8 : Nat) (w : World) :
    Calls Tryd.prog 30 #[.agg #[.int .i64 0, .int .i64 0, .int .i64 0, .int .i64 0, .int .i64 0, .int .i64 0, .slice A7 0 c7], .agg #[.int .i64 0, .int .i64 0, .int .i64 0, .int .i64 0, .int .i64 0, .int .i64 0, .slice A8 0 c8]] w fun e w' => e = .returned (.bool true) ∧ Below w.heap.size w w' := by
  have h := lsame_any zLog zLog A7 A8 c7 c8 w.heap.size w Sl.nil Sl.nil (Nat.zero_le _) (Nat.zero_le _) (Nat.le_refl _)
  rw [(Lg.eqb_iff _ _).2 rfl] at h
  exact h

set_option maxRecDepth 100000 in
set_option maxHeartbeats 8000000 in
theorem eturned_walk (x y : Lg) (A1 A3 : Option Addr) (c1 c3 : Nat) (z : Int) (t : UInt8) (w : World) (hT : Tab w) (h1 : Sl w w.heap.size A1 (bv x.pl)) (n1 : A1 = none → c1 = 0)
    (h3 : Sl w w.heap.size A3 (bv y.pl)) (n3 : A3 = none → c3 = 0) (k1 : x.pl.length ≤ maxLen) (k3 : y.pl.length ≤ maxLen) :
    Calls Tryd.prog 4 #[x.val A1 c1, y.val A3 c3, .int .i64 z, .int .u8 (t.toNat : Int)] w fun e w' => e = .returned (.bool true) ∧ Below w.heap.size w w' := by
  obtain ⟨rm, hrm⟩ : ∃ r, x.right = r := ⟨_, rfl⟩
  obtain ⟨rn, hrn⟩ : ∃ r, y.right = r := ⟨_, rfl⟩
  have hEA := fun (W : World) (hT : Tab W) (h1 : Sl W w.heap.size A1 (bv x.pl)) (hB : w.heap.size ≤ W.heap.size) (hr : x.right = true) => logenc_ok x A1 c1 w.heap.size W hT h1 n1 hB hr
  have hEB := fun (W : World) (hT : Tab W) (h3 : Sl W w.heap.size A3 (bv y.pl)) (hB : w.heap.size ≤ W.heap.size) (hr : y.right = true) => logenc_ok y A3 c3 w.heap.size W hT h3 n3 hB hr
  have hRA := fun (W : World) (h1 : Sl W w.heap.size A1 (bv x.pl)) (hB : w.heap.size ≤ W.heap.size) (hz : x.pl.length ≤ 1000000000) => rlright_any x A1 c1 w.heap.size W h1 n1 hB hz
  have hRB := fun (W : World) (h3 : Sl W w.heap.size A3 (bv y.pl)) (hB : w.heap.size ≤ W.heap.size) (hz : y.pl.length ≤ 1000000000) => rlright_any y A3 c3 w.heap.size W h3 n3 hB hz
  have hIF := lg_enc_iff x y
  have hAl := encLog_len x
  have hBl := encLog_len y
  have hSM := fun (W : World) (h1 : Sl W w.heap.size A1 (bv x.pl)) (h3 : Sl W w.heap.size A3 (bv y.pl)) (hB : w.heap.size ≤ W.heap.size) => lsame_any x y A1 A3 c1 c3 w.heap.size W h1 h3 k1 k3 hB
  rw [hrm] at hRA
  rw [hrn] at hRB
  have HEA := Lib.hid hEA
  have HEB := Lib.hid hEB
  have HRA := Lib.hid hRA
  have HRB := Lib.hid hRB
  have HIF := Lib.hid hIF
  have HSM := Lib.hid hSM
  have HRM := Lib.hid hrm
  have HRN := Lib.hid hrn
  have HAL := Lib.hid hAl
  have HBL := Lib.hid hBl
  clear hrm hrn n1 n3 hAl hBl k1 k3 hEA hEB hRA hRB hIF hSM
  obtain ⟨r, hr, hr2⟩ := bits_lowx z
  obtain ⟨a1, a2, a3, a4, a5, a6, a7⟩ := x
  obtain ⟨b1, b2, b3, b4, b5, b6, b7⟩ := y
  go_enter Tryd.func4, Tryd.ntmps4
  go_wp2_with fail
  have hba := (Blk.new w #[.int .i64 a1, .int .i64 a2, .int .i64 a3, .int .i64 a4, .int .i64 a5, .int .i64 a6, .slice A1 a7.length c1] 45).alloc (.cells #[.int .i64 b1, .int .i64 b2, .int .i64 b3, .int .i64 b4, .int .i64 b5, .int .i64 b6, .slice A3 b7.length c3] 45)
  have hbb := Blk.new (w.alloc (.cells #[.int .i64 a1, .int .i64 a2, .int .i64 a3, .int .i64 a4, .int .i64 a5, .int .i64 a6, .slice A1 a7.length c1] 45)) #[.int .i64 b1, .int .i64 b2, .int .i64 b3, .int .i64 b4, .int .i64 b5, .int .i64 b6, .slice A3 b7.length c3] 45
  have hT0 : Tab ((w.alloc (.cells #[.int .i64 a1, .int .i64 a2, .int .i64 a3, .int .i64 a4, .int .i64 a5, .int .i64 a6, .slice A1 a7.length c1] 45)).alloc (.cells #[.int .i64 b1, .int .i64 b2, .int .i64 b3, .int .i64 b4, .int .i64 b5, .int .i64 b6, .slice A3 b7.length c3] 45)) := hT.below hT.1 (((Below.refl _ _).alloc (Nat.le_refl _) _).alloc (by simp) _)
  refine (espeak_any _ hT0).mono ?_
  rintro e W0 ⟨rfl, B0⟩
  rw [World.size_alloc] at hbb
  have hba0 := hba.belowAll B0
  have hbb0 := hbb.belowAll B0
  have hqa0 := hba0.cell
  have hqb0 := hbb0.cell
  have B0 : Below w.heap.size w W0 := (((Below.refl _ _).alloc (Nat.le_refl _) _).alloc (by simp) _).trans (B0.mono (by simp; omega))
  clear hba hbb hT0
  by_cases t1 : (3000 : Int) < (a7.length : Int)
  · go_wp2_with fail
    go_ret
    exact ⟨rfl, B0⟩
  · by_cases t2 : (3000 : Int) < (b7.length : Int)
    · go_wp2_with fail
      go_ret
      exact ⟨rfl, B0⟩
    · go_wp2_with fail
      refine (HRA.out W0 (h1.below B0) B0.size (show a7.length ≤ _ by omega)).mono ?_
      rintro e W1 ⟨rfl, hb1⟩
      have B1 := B0.trans (hb1.mono B0.size)
      cases rm
      · go_wp2_with fail
        go_ret
        exact ⟨rfl, B1⟩
      · have hba1 := hba0.belowAll hb1
        have hbb1 := hbb0.belowAll hb1
        have hqa1 := hba1.cell
        have hqb1 := hbb1.cell
        clear hqa0 hqb0 hba0 hbb0 hb1
        go_wp2_with fail
        refine (HRB.out W1 (h3.below B1) B1.size (show b7.length ≤ _ by omega)).mono ?_
        rintro e W2 ⟨rfl, hb2⟩
        have B2 := B1.trans (hb2.mono B1.size)
        cases rn
        · go_wp2_with fail
          go_ret
          exact ⟨rfl, B2⟩
        · have hba2 := hba1.belowAll hb2
          have hbb2 := hbb1.belowAll hb2
          have hqa2 := hba2.cell
          have hqb2 := hbb2.cell
          clear hqa1 hqb1 hba1 hbb1 hb2
          go_wp2_with fail
          have HIF := Lib.hid (HIF.out HRM.out HRN.out)
          obtain ⟨LA, hLA⟩ : ∃ L, wrapped (encLog ⟨a1, a2, a3, a4, a5, a6, a7⟩) = L := ⟨_, rfl⟩
          obtain ⟨LB, hLB⟩ : ∃ L, wrapped (encLog ⟨b1, b2, b3, b4, b5, b6, b7⟩) = L := ⟨_, rfl⟩
          have hla : LA.length ≤ 10000 ∧ 4 ≤ LA.length := by have : (encLog ⟨a1, a2, a3, a4, a5, a6, a7⟩).length = 26 + a7.length := HAL.out; rw [← hLA, wrapped_len]; omega
          have hlb : LB.length ≤ 10000 := by have : (encLog ⟨b1, b2, b3, b4, b5, b6, b7⟩).length = 26 + b7.length := HBL.out; rw [← hLB, wrapped_len]; omega
          have HLA := Lib.hid hLA
          rw [hLA, hLB] at HIF
          obtain ⟨q, hq⟩ : ∃ q, Lg.eqb ⟨a1, a2, a3, a4, a5, a6, a7⟩ ⟨b1, b2, b3, b4, b5, b6, b7⟩ = q := ⟨_, rfl⟩
          rw [hq] at HIF
          have HQ := Lib.hid hq
          refine (HEA.out W2 (hT.below hT.1 B2) (h1.below B2) B2.size HRM.out).mono ?_
          rintro e W3 ⟨⟨A5, c5, rfl, ho5⟩, hb3⟩
          rw [hLA] at ho5 ⊢
          have B3 := B2.trans (hb3.mono B2.size)
          have hba3 := hba2.belowAll hb3
          have hbb3 := hbb2.belowAll hb3
          have hqa3 := hba3.cell
          have hqb3 := hbb3.cell
          clear hqa2 hqb2 hba2 hbb2 hLA hq
          go_wp2_with fail
          refine (HEB.out W3 (hT.below hT.1 B3) (h3.below B3) B3.size HRN.out).mono ?_
          rintro e W4 ⟨⟨A6, c6, rfl, ho6⟩, hb4⟩
          rw [hLB] at ho6 ⊢
          have B4 := B3.trans (hb4.mono B3.size)
          have hba4 := hba3.belowAll hb4
          have hbb4 := hbb3.belowAll hb4
          have ho5' := (Fr.of_below (M := fun _ => False) hb4).owns ho5 (fun _ _ x => x)
          obtain ⟨g, rfl, hc5, hge⟩ : ∃ g, A5 = some ⟨g, 0, none⟩ ∧ LA.length ≤ c5 ∧ W2.heap.size ≤ g := by
            rcases ho5'.2 with ⟨_, h0⟩ | ⟨g', cap', cur, e, q1, q2, q3, _⟩
            · omega
            · injection e with e1 e2 e3
              exact ⟨g', e1, by omega, q1⟩
          have S5 : Sl W4 W4.heap.size (some ⟨g, 0, none⟩) (bv LA) := Sl.of_own ho5'
          have S6 : Sl W4 W4.heap.size A6 (bv LB) := Sl.of_own ho6
          have HO5 := Lib.hid ho5'
          have HC1 : Hid (∀ u, Calls Tryd.prog 24 #[.slice (some ⟨g, 0, none⟩) LA.length c5, .slice A6 LB.length c6] (over W4 u) fun e w' => e = .returned (.bool q) ∧ ∃ u', w' = over W4 u') := by
            intro u
            have hc := same_any (some ⟨g, 0, none⟩) A6 c5 c6 W4.heap.size LA LB (over W4 u) (S5.below (over_below W4 u)) (S6.below (over_below W4 u)) (by unfold maxLen; omega) (by unfold maxLen; omega)
            rw [HIF.out] at hc
            exact over_call_drew hc
          have HC2 : Hid (∀ u, Calls Tryd.prog 30 #[.agg #[.int .i64 a1, .int .i64 a2, .int .i64 a3, .int .i64 a4, .int .i64 a5, .int .i64 a6, .slice A1 a7.length c1], .agg #[.int .i64 b1, .int .i64 b2, .int .i64 b3, .int .i64 b4, .int .i64 b5, .int .i64 b6, .slice A3 b7.length c3]] (over W4 u) fun e w' => e = .returned (.bool q) ∧ ∃ u', w' = over W4 u') := by
            intro u
            have B4u := B4.trans ((over_below W4 u).mono B4.size)
            have hc := HSM.out (over W4 u) (h1.below B4u) (h3.below B4u) B4u.size
            rw [HQ.out] at hc
            exact over_call hc
          have hla4 := hba4.lt
          have hlb4 := hbb4.lt
          have hqa4 : ∀ i u, (over W4 u).cell? ⟨w.heap.size, i, none⟩ = (#[.int .i64 a1, .int .i64 a2, .int .i64 a3, .int .i64 a4, .int .i64 a5, .int .i64 a6, .slice A1 a7.length c1] : Array Value)[i]? := fun i u => (over_cell W4 u _ _ _ hla4).trans (hba4.cell i)
          have hqb4 : ∀ i u, (over W4 u).cell? ⟨w.heap.size + 1, i, none⟩ = (#[.int .i64 b1, .int .i64 b2, .int .i64 b3, .int .i64 b4, .int .i64 b5, .int .i64 b6, .slice A3 b7.length c3] : Array Value)[i]? := fun i u => (over_cell W4 u _ _ _ hlb4).trans (hbb4.cell i)
          clear hqa3 hqb3 hba3 hbb3 hLB ho5 ho5' ho6 S5 S6
          go_wp2_with fail
          refine wp_region_over (by kernel_rfl) (by kernel_rfl) ?_
          repeat (go_big_quiet_step (first
            | (go_at_call 24; exact HC1.out _)
            | (go_at_call 30; exact HC2.out _)))
          refine wpQuiet_nil ?_
          rintro _ ⟨u, rfl⟩
          have B5 := B4.trans ((over_below W4 u).mono B4.size)
          have HO6 := Lib.hid ((Fr.of_below (M := fun _ => False) (over_below W4 u)).owns HO5.out (fun _ _ x => x))
          obtain ⟨W5, hW5⟩ : ∃ W, over W4 u = W := ⟨_, rfl⟩
          rw [hW5] at B5 HO6 ⊢
          clear hW5 HC1 HC2 HO5 hqa4 hqb4 hba4 hbb4
          obtain ⟨j, hj⟩ : ∃ j, r % LA.length = j := ⟨_, rfl⟩
          have hjl : j < LA.length := by rw [← hj]; exact Nat.mod_lt _ (by omega)
          have hrem : (r : Int) % ((LA.length : Nat) : Int) = (j : Int) := by rw [← hj, Int.natCast_emod]
          obtain ⟨y, hy⟩ : ∃ y, LA[j] = y := ⟨_, rfl⟩
          obtain ⟨hcl1, hcl2⟩ := owns_cellx HO6.out (bv_get hjl)
          rw [hy] at hcl1
          have hxr := xor_u8 y t
          have hji : (j : Int) < ((LA.length : Nat) : Int) := by omega
          have hll : (0 : Int) < ((LA.length : Nat) : Int) := by omega
          obtain ⟨L2, hL2⟩ : ∃ L2, LA.set j (y ^^^ t) = L2 := ⟨_, rfl⟩
          have hL2l : L2.length = LA.length := by rw [← hL2, List.length_set]
          have hto := turn_own (j := j) HO6.out (y ^^^ t)
          obtain ⟨W6, hW6⟩ : ∃ W6, W5.setCell ⟨g, j, none⟩ (.int .u8 ((y ^^^ t).toNat : Int)) = W6 := ⟨_, rfl⟩
          rw [hL2, hW6, ← hL2l] at hto
          have B6 : Below w.heap.size w W6 := by
            rw [← hW6]
            exact B5.setCell (p := ⟨g, j, none⟩) (Nat.le_trans B2.size hge) _
          have hdec : t ≠ 0 → unw L2 = none := by
            intro ht
            have hj2 : j < (wrapped (encLog ⟨a1, a2, a3, a4, a5, a6, a7⟩)).length := by rw [HLA.out]; exact hjl
            have h := unw_turned (encLog ⟨a1, a2, a3, a4, a5, a6, a7⟩) j t hj2 ht
            simp only [HLA.out] at h
            rw [hy, hL2] at h
            exact h
          have hd := logdec_any (some ⟨g, 0, none⟩) c5 W6.heap.size L2 W6 (hT.below hT.1 B6) (Sl.of_own hto) (by omega) (by omega) (Nat.le_refl _)
          rw [hL2l] at hd
          have HD := Lib.hid hd
          have HW6 := Lib.hid hW6
          have HDEC := Lib.hid hdec
          clear hW6 hd hdec hto hL2 hj hy hL2l
          by_cases ht : t = 0
          · have htz : ((t.toNat : Int) == 0) = true := by rw [ht]; rfl
            clear ht
            go_wp2_with fail
            first | rw [HW6.out] | (rw [← UInt8.toNat_xor, HW6.out])
            refine HD.out.mono ?_
            rintro e W7 ⟨A7, c7, he, hb7, -⟩
            obtain ⟨o, ho⟩ : ∃ o, (unw L2).bind decLog = o := ⟨_, rfl⟩
            rw [ho] at he
            obtain ⟨Y, hY⟩ : ∃ Y, o.getD zLog = Y := ⟨_, rfl⟩
            obtain ⟨kk, hk⟩ : ∃ kk : Int, (if o.isSome then 0 else 3) = kk := ⟨_, rfl⟩
            rw [hY, hk] at he
            clear hY hk ho
            obtain ⟨y1, y2, y3, y4, y5, y6, y7⟩ := Y
            have he : e = .returned (.tuple #[.agg #[.int .i64 y1, .int .i64 y2, .int .i64 y3, .int .i64 y4, .int .i64 y5, .int .i64 y6, .slice A7 y7.length c7], .int .i64 kk]) := he
            subst he
            go_wp2
            go_ret
            first | exact ⟨rfl, (B6.trans (hb7.mono B6.size)).alloc (B6.trans (hb7.mono B6.size)).size _⟩ | exact ⟨rfl, B6.trans (hb7.mono B6.size)⟩
          · have htz : ((t.toNat : Int) == 0) = false := by
              rw [beq_eq_false_iff_ne]
              intro e
              exact ht (UInt8.toNat_inj.1 (by simpa using e))
            have hn0 := HDEC.out ht
            clear ht
            go_wp2_with fail
            first | rw [HW6.out] | (rw [← UInt8.toNat_xor, HW6.out])
            refine HD.out.mono ?_
            rintro e W7 ⟨A7, c7, he, hb7, -⟩
            rw [hn0] at he
            have he : e = .returned (.tuple #[.agg #[.int .i64 0, .int .i64 0, .int .i64 0, .int .i64 0, .int .i64 0, .int .i64 0, .slice A7 0 c7], .int .i64 3]) := he
            subst he
            have B7 := B6.trans (hb7.mono B6.size)
            clear hn0
            go_wp2_with fail
            have HZ := Lib.hid (fun W => lsame_zz A7 none c7 0 W)
            refine (HZ.out _).mono ?_
            rintro e W8 ⟨rfl, hb8⟩
            go_wp2
            go_ret
            first | exact ⟨rfl, B7.trans (hb8.mono B7.size)⟩ | exact ⟨rfl, (B7.alloc B7.size _).trans (hb8.mono (B7.alloc B7.size _).size)⟩
end Go.Proofs.YtpmanpckkpheeaaDoor
