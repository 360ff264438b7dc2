/- CallUnlike: the walk. -/
import Derived.Test.YtohahhijbneheaaDoorCqK
import Derived.Test.YtohahhijbneheaaDoorCqI
import Derived.Test.YtohahhijbneheaaDoorCqD
import Derived.Test.YtohahhijbneheaaDoorTurnx
import Derived.Deep.CutRange
import Derived.Deep.RegionLaw
namespace Go.Proofs.YtohahhijbneheaaDoor
open Go.RowKit
set_option linter.unusedVariables false
attribute [local go_sem] Oper.semAt_some

/-- No answer. -/
abbrev zA0 : An := ⟨0, 0, 0, 0, [], []⟩
/-- An own row still lies in a later world, from an earlier block on. -/
theorem cu_own {w w' : World} {b b0 : Nat} {v : Value} {n : Nat} {l : List Value} (h : w.ownsRow b 5 1 v n l) (hb : Below w.heap.size w w') (h0 : b0 ≤ b) : w'.ownsRow b0 5 1 v n l :=
  own_low ((Fr.of_below (M := fun _ => False) hb).owns h (fun _ _ x => x)) h0

set_option maxRecDepth 100000 in
set_option maxHeartbeats 8000000 in
theorem cunl_walk (x y : Cq) (A1 A2 : Option Addr) (c1 c2 : Nat) (z : Int) (t : UInt8) (m : Int) (w : World) (hT : Tab w) (hm : w.cell? ⟨1, 0, none⟩ = some (.int .i64 m))
    (h1 : Sl w w.heap.size A1 (bv x.d)) (n1 : A1 = none → c1 = 0) (h2 : Sl w w.heap.size A2 (bv y.d)) (n2 : A2 = none → c2 = 0)
    (xf : -9223372036854775808 ≤ x.f ∧ x.f ≤ 9223372036854775807) (xn : -9223372036854775808 ≤ x.n ∧ x.n ≤ 9223372036854775807)
    (yf : -9223372036854775808 ≤ y.f ∧ y.f ≤ 9223372036854775807) (yn : -9223372036854775808 ≤ y.n ∧ y.n ≤ 9223372036854775807) :
    Calls Tryd.prog 5 #[x.val A1 c1, y.val A2 c2, .int .i64 z, .int .u8 (t.toNat : Int)] w fun en w' => en = .returned (.bool true) ∧ Below w.heap.size w w' := by
  have HSPK := Lib.hid (fun (W : World) (b : Below w.heap.size w W) => speaks05 m W (hT.below hT.1 b) ((b.cell (p := ⟨1, 0, none⟩) (World.block_lt_of_cell? w _ hm)).trans hm))
  have HGA := Lib.hid (fun W : World => great_call x zA0 [] A1 none none none c1 0 0 0 W.heap.size W (.inl rfl) (Nat.le_refl _))
  have HGB := Lib.hid (fun W : World => great_call y zA0 [] A2 none none none c2 0 0 0 W.heap.size W (.inl rfl) (Nat.le_refl _))
  have HEA := Lib.hid (fun (W : World) (b : Below w.heap.size w W) (s : Small x zA0 []) => cqenc_ok x A1 c1 w.heap.size W (hT.below hT.1 b) (h1.below b) n1 b.size (Nat.le_trans s.p (by omega)) (Nat.le_trans s.o (by omega)) (Nat.le_trans s.d (by omega)))
  have HEB := Lib.hid (fun (W : World) (b : Below w.heap.size w W) (s : Small y zA0 []) => cqenc_ok y A2 c2 w.heap.size W (hT.below hT.1 b) (h2.below b) n2 b.size (Nat.le_trans s.p (by omega)) (Nat.le_trans s.o (by omega)) (Nat.le_trans s.d (by omega)))
  have HSM := Lib.hid (fun (W : World) (b : Below w.heap.size w W) (sx : Small x zA0 []) (sy : Small y zA0 []) => sameq_any x y A1 A2 c1 c2 w.heap.size W (h1.below b) (h2.below b) (Nat.le_trans sx.d (by unfold maxLen; omega)) (Nat.le_trans sy.d (by unfold maxLen; omega)) b.size)
  have HMX := Lib.hid (fun (k : 0 ≤ x.k ∧ x.k ≤ 255) (s : Small x zA0 []) => (⟨k, s.p, s.o, xf, xn, s.d⟩ : x.mid))
  have HMY := Lib.hid (fun (k : 0 ≤ y.k ∧ y.k ≤ 255) (s : Small y zA0 []) => (⟨k, s.p, s.o, yf, yn, s.d⟩ : y.mid))
  have HIF := Lib.hid (cq_enc_iff x y)
  have HLX : Hid (∀ s : Small x zA0 [], (wrapped (encCq x)).length ≤ 10000 ∧ 4 ≤ (wrapped (encCq x)).length) := Lib.hid (fun s => by
    have h1 := s.p; have h2 := s.o; have h3 := s.d
    rw [wrapped_len, encCq_len]; omega)
  have HLY : Hid (∀ s : Small y zA0 [], (wrapped (encCq y)).length ≤ 10000) := Lib.hid (fun s => by
    have h1 := s.p; have h2 := s.o; have h3 := s.d
    rw [wrapped_len, encCq_len]; omega)
  have HT := Lib.hid hT
  obtain ⟨LA, hLA⟩ : ∃ L, wrapped (encCq x) = L := ⟨_, rfl⟩
  obtain ⟨LB, hLB⟩ : ∃ L, wrapped (encCq y) = L := ⟨_, rfl⟩
  rw [hLA] at HEA HIF HLX
  have HUT : Hid (∀ (j : Nat) (t : UInt8) (hj : j < LA.length), t ≠ 0 → unw (LA.set j (LA[j] ^^^ t)) = none) := Lib.hid (by clear HEA HIF HLX; subst hLA; exact unw_turned (encCq x))
  rw [hLB] at HEB HIF HLY
  obtain ⟨q, hq⟩ : ∃ q, x.eqb y = q := ⟨_, rfl⟩
  rw [hq] at HSM HIF
  obtain ⟨SX, hSX⟩ : ∃ p : Prop, Small x zA0 [] = p := ⟨_, rfl⟩
  obtain ⟨SY, hSY⟩ : ∃ p : Prop, Small y zA0 [] = p := ⟨_, rfl⟩
  obtain ⟨MX, hMX⟩ : ∃ p : Prop, x.mid = p := ⟨_, rfl⟩
  obtain ⟨MY, hMY⟩ : ∃ p : Prop, y.mid = p := ⟨_, rfl⟩
  rw [hSX] at HEA HSM HMX HLX
  rw [hSY] at HEB HSM HMY HLY
  rw [hMX] at HMX HIF
  rw [hMY] at HMY HIF
  have HGA : Hid (∀ W : World, Calls Tryd.prog 27 #[x.val A1 c1, zA0.val none 0 none 0, .slice none 0 0] W fun e w' => (∃ r, e = .returned (.bool r) ∧ (r = false → SX)) ∧ Below W.heap.size W w') := Lib.hid (fun W => by subst hSX; exact HGA.out W)
  have HGB : Hid (∀ W : World, Calls Tryd.prog 27 #[y.val A2 c2, zA0.val none 0 none 0, .slice none 0 0] W fun e w' => (∃ r, e = .returned (.bool r) ∧ (r = false → SY)) ∧ Below W.heap.size W w') := Lib.hid (fun W => by subst hSY; exact HGB.out W)
  clear hT hm h1 n1 h2 n2 xf xn yf yn hLA hLB hq hSX hSY hMX hMY
  obtain ⟨r, hr, hr2⟩ := bits_lowx z
  obtain ⟨a1, a2, a3, a4, a5, a6⟩ := x
  obtain ⟨b1, b2, b3, b4, b5, b6⟩ := y
  replace HMX : Hid ((0 ≤ a1 ∧ a1 ≤ 255) → SX → MX) := HMX
  replace HMY : Hid ((0 ≤ b1 ∧ b1 ≤ 255) → SY → MY) := HMY
  obtain ⟨na, hna⟩ : ∃ n, a6.length = n := ⟨_, rfl⟩
  obtain ⟨nb, hnb⟩ : ∃ n, b6.length = n := ⟨_, rfl⟩
  rw [show (Cq.val ⟨a1, a2, a3, a4, a5, a6⟩ A1 c1) = .agg #[.int .i64 a1, .string a2, .string a3, .int .i64 a4, .int .i64 a5, .slice A1 na c1] from by rw [← hna]] at HGA HEA HSM ⊢
  rw [show (Cq.val ⟨b1, b2, b3, b4, b5, b6⟩ A2 c2) = .agg #[.int .i64 b1, .string b2, .string b3, .int .i64 b4, .int .i64 b5, .slice A2 nb c2] from by rw [← hnb]] at HGB HEB HSM ⊢
  clear hna hnb
  go_enter Tryd.func5, Tryd.ntmps5
  go_wp2_with fail
  have hba := (Blk.new w #[.int .i64 a1, .string a2, .string a3, .int .i64 a4, .int .i64 a5, .slice A1 na c1] 46).alloc (.cells #[.int .i64 b1, .string b2, .string b3, .int .i64 b4, .int .i64 b5, .slice A2 nb c2] 46)
  have hbb := Blk.new (w.alloc (.cells #[.int .i64 a1, .string a2, .string a3, .int .i64 a4, .int .i64 a5, .slice A1 na c1] 46)) #[.int .i64 b1, .string b2, .string b3, .int .i64 b4, .int .i64 b5, .slice A2 nb c2] 46
  refine (HSPK.out _ (((Below.refl _ _).alloc (Nat.le_refl _) _).alloc (by simp) _)).mono ?_
  rintro e W0 ⟨rfl, B0⟩
  rw [World.size_alloc] at hbb
  have hba0 := hba.belowAll B0
  have hbb0 := hbb.belowAll B0
  have hqa0 := hba0.cell
  have hqb0 := hbb0.cell
  have B0 : Below w.heap.size w W0 := (((Below.refl _ _).alloc (Nat.le_refl _) _).alloc (by simp) _).trans (B0.mono (by simp; omega))
  clear hba hbb
  go_wp2_with fail
  refine (HGA.out W0).mono ?_
  rintro e W1 ⟨⟨ga, rfl, hga⟩, hb1⟩
  have B1 := B0.trans (hb1.mono B0.size)
  have HXS0 := Lib.hid hga
  clear hga
  cases ga with
  | true =>
    go_wp2_with fail
    go_ret
    exact ⟨rfl, B1⟩
  | false =>
    have HXS := Lib.hid (HXS0.out rfl)
    clear HXS0
    have hba1 := hba0.belowAll hb1
    have hbb1 := hbb0.belowAll hb1
    have hqa1 := hba1.cell
    have hqb1 := hbb1.cell
    clear hqa0 hqb0 hba0 hbb0 hb1
    go_wp2_with fail
    refine (HGB.out W1).mono ?_
    rintro e W2 ⟨⟨gb, rfl, hgb⟩, hb2⟩
    have B2 := B1.trans (hb2.mono B1.size)
    have HYS0 := Lib.hid hgb
    clear hgb
    cases gb with
    | true =>
      go_wp2_with fail
      go_ret
      exact ⟨rfl, B2⟩
    | false =>
      have HYS := Lib.hid (HYS0.out rfl)
      clear HYS0
      have hba2 := hba1.belowAll hb2
      have hbb2 := hbb1.belowAll hb2
      have hqa2 := hba2.cell
      have hqb2 := hbb2.cell
      clear hqa1 hqb1 hba1 hbb1 hb2
      by_cases k1 : a1 < 0
      · go_wp2_with fail
        go_ret
        exact ⟨rfl, B2⟩
      by_cases k2 : 255 < a1
      · go_wp2_with fail
        go_ret
        exact ⟨rfl, B2⟩
      by_cases k3 : b1 < 0
      · go_wp2_with fail
        go_ret
        exact ⟨rfl, B2⟩
      by_cases k4 : 255 < b1
      · go_wp2_with fail
        go_ret
        exact ⟨rfl, B2⟩
      have HEQ := Lib.hid (HIF.out (HMX.out (by omega) HXS.out) (HMY.out (by omega) HYS.out))
      have HLA := Lib.hid (HLX.out HXS.out)
      have HLB := Lib.hid (HLY.out HYS.out)
      have HCA : Hid (∀ W, Below W2.heap.size W2 W → Calls Tryd.prog 28 #[.agg #[.int .i64 a1, .string a2, .string a3, .int .i64 a4, .int .i64 a5, .slice A1 na c1]] W fun e w' => (∃ A c, e = .returned (.slice A LA.length c) ∧ Own w' W2.heap.size (.slice A LA.length c) LA) ∧ Below W2.heap.size W2 w' ∧ Below W.heap.size W w') := Lib.hid (fun W hb =>
        (HEA.out W (B2.trans (hb.mono B2.size)) HXS.out).mono fun e w' ⟨⟨A, c, he, ho⟩, hb'⟩ => ⟨⟨A, c, he, own_low ho hb.size⟩, hb.trans (hb'.mono hb.size), hb'⟩)
      have HCB : Hid (∀ W, Below W2.heap.size W2 W → Calls Tryd.prog 28 #[.agg #[.int .i64 b1, .string b2, .string b3, .int .i64 b4, .int .i64 b5, .slice A2 nb c2]] W fun e w' => (∃ A c, e = .returned (.slice A LB.length c) ∧ Own w' W2.heap.size (.slice A LB.length c) LB) ∧ Below W2.heap.size W2 w' ∧ Below W.heap.size W w') := Lib.hid (fun W hb =>
        (HEB.out W (B2.trans (hb.mono B2.size)) HYS.out).mono fun e w' ⟨⟨A, c, he, ho⟩, hb'⟩ => ⟨⟨A, c, he, own_low ho hb.size⟩, hb.trans (hb'.mono hb.size), hb'⟩)
      have HKA := Lib.hid (hba2)
      have HKB := Lib.hid (hbb2)
      have HGE := Lib.hid (B2.size)
      have HB2 := Lib.hid B2
      clear HIF HLX HLY HMX HMY HEA HEB HGA HGB HSPK B0 B1 B2 hba2 hbb2
      go_upto_region 5 with fail
      go_cut [9, 10] from 43 to 46 (fun s9 s10 wx => ∃ A5 c5 A6 c6, s9 = .slice A5 LA.length c5 ∧ s10 = .slice A6 LB.length c6 ∧ Hid (Own wx W2.heap.size (.slice A5 LA.length c5) LA) ∧ Hid (Own wx W2.heap.size (.slice A6 LB.length c6) LB) ∧ Hid (Below W2.heap.size W2 wx))
      case first =>
        have hD : Below W2.heap.size W2 W2.drew := (Below.refl _ _).drew
        go_region_law
          (first
            | (go_simp; go_at_call 28
               with_reducible refine (HCA.out _ (by first | exact bB | exact hD)).mono ?_
               rintro e1 WA ⟨⟨A5, c5, rfl, hoA⟩, bA, hbA⟩
               have hqbA := (HKB.out.below bA HKB.out.lt).cell)
            | (go_simp; go_at_call 28
               with_reducible refine (HCB.out _ (by first | exact bA | exact hD)).mono ?_
               rintro e1 WB ⟨⟨A6, c6, rfl, hoB⟩, bB, hbB⟩
               have hqaB := (HKA.out.below bB HKA.out.lt).cell))
        all_goals
          go_wp2_with fail
          go_meet
          first
            | exact ⟨A5, c5, A6, c6, rfl, rfl, Lib.hid (Own.below hoA hbB), Lib.hid hoB, Lib.hid bB⟩
            | exact ⟨A5, c5, A6, c6, rfl, rfl, Lib.hid hoA, Lib.hid (Own.below hoB hbA), Lib.hid bA⟩
      case rest =>
        obtain ⟨A5, c5, A6, c6, rfl, rfl, HO5, HO6, HBC⟩ := hcut
        have hla := HLA.out
        have hlb := HLB.out
        obtain ⟨g, rfl, hc5, hge⟩ : ∃ g, A5 = some ⟨g, 0, none⟩ ∧ LA.length ≤ c5 ∧ W2.heap.size ≤ g := by
          rcases HO5.out.2 with ⟨_, h0⟩ | ⟨g', cap', cur, e, q1, q2, q3, _⟩
          · omega
          · injection e with e1 e2 e3
            exact ⟨g', e1, by omega, q1⟩
        have S5 : Sl wc wc.heap.size (some ⟨g, 0, none⟩) (bv LA) := Sl.of_own HO5.out
        have S6 : Sl wc wc.heap.size A6 (bv LB) := Sl.of_own HO6.out
        have B4 := HB2.out.trans (HBC.out.mono HGE.out)
        have HB4 := Lib.hid B4
        have HC1 : Hid (∀ u, Calls Tryd.prog 21 #[.slice (some ⟨g, 0, none⟩) LA.length c5, .slice A6 LB.length c6] (over wc u) fun e w' => e = .returned (.bool q) ∧ ∃ u', w' = over wc u') := Lib.hid (by
          intro u
          have hc := same_any (some ⟨g, 0, none⟩) A6 c5 c6 wc.heap.size LA LB (over wc u) (S5.below (over_below wc u)) (S6.below (over_below wc u)) (by unfold maxLen; omega) (by unfold maxLen; omega)
          rw [HEQ.out] at hc
          exact over_call_drew hc)
        have HC2 : Hid (∀ u, Calls Tryd.prog 29 #[.agg #[.int .i64 a1, .string a2, .string a3, .int .i64 a4, .int .i64 a5, .slice A1 na c1], .agg #[.int .i64 b1, .string b2, .string b3, .int .i64 b4, .int .i64 b5, .slice A2 nb c2]] (over wc u) fun e w' => e = .returned (.bool q) ∧ ∃ u', w' = over wc u') := Lib.hid (by
          intro u
          exact over_call (HSM.out (over wc u) (B4.trans ((over_below wc u).mono B4.size)) HXS.out HYS.out))
        have hba4 := HKA.out.below HBC.out HKA.out.lt
        have hbb4 := HKB.out.below HBC.out HKB.out.lt
        have hla4 := hba4.lt
        have hlb4 := hbb4.lt
        have hqa4 : ∀ i u, (over wc u).cell? ⟨w.heap.size, i, none⟩ = (#[.int .i64 a1, .string a2, .string a3, .int .i64 a4, .int .i64 a5, .slice A1 na c1] : Array Value)[i]? := fun i u => (over_cell wc u _ _ _ hla4).trans (hba4.cell i)
        have hqb4 : ∀ i u, (over wc u).cell? ⟨w.heap.size + 1, i, none⟩ = (#[.int .i64 b1, .string b2, .string b3, .int .i64 b4, .int .i64 b5, .slice A2 nb c2] : Array Value)[i]? := fun i u => (over_cell wc u _ _ _ hlb4).trans (hbb4.cell i)
        have hll : (0 : Int) < ((LA.length : Nat) : Int) := by omega
        have hl0 : (((LA.length : Nat) : Int) == 0) = false := by rw [beq_eq_false_iff_ne]; omega
        clear hba4 hbb4 S5 S6 B4 HCA HCB hqa2 hqb2
        go_wp2_with fail
        refine wp_region_over (by kernel_rfl) (by kernel_rfl) ?_
        repeat (go_big_quiet_step (first
          | (go_at_call 21; exact HC1.out _)
          | (go_at_call 29; exact HC2.out _)))
        refine wpQuiet_nil ?_
        rintro _ ⟨u, rfl⟩
        have B5 := HB4.out.trans ((over_below wc u).mono HB4.out.size)
        have HO6 := Lib.hid (Own.below HO5.out (over_below wc u))
        obtain ⟨W5, hW5⟩ : ∃ W, over wc u = W := ⟨_, rfl⟩
        rw [hW5] at B5 HO6 ⊢
        clear hW5 HC1 HC2 HO5 hqa4 hqb4
        obtain ⟨j, hj⟩ : ∃ j, r % LA.length = j := ⟨_, rfl⟩
        have hjl : j < LA.length := by rw [← hj]; exact Nat.mod_lt _ (by omega)
        have hrem : (r : Int) % ((LA.length : Nat) : Int) = (j : Int) := by rw [← hj, Int.natCast_emod]
        obtain ⟨y, hy⟩ : ∃ y, LA[j] = y := ⟨_, rfl⟩
        obtain ⟨hcl1, hcl2⟩ := owns_cellx HO6.out (bv_get hjl)
        rw [hy] at hcl1
        have hxr := xor_u8 y t
        have hji : (j : Int) < ((LA.length : Nat) : Int) := by omega
        obtain ⟨L2, hL2⟩ : ∃ L2, LA.set j (y ^^^ t) = L2 := ⟨_, rfl⟩
        have hL2l : L2.length = LA.length := by rw [← hL2, List.length_set]
        have hto := turn_own (j := j) HO6.out (y ^^^ t)
        obtain ⟨W6, hW6⟩ : ∃ W6, W5.setCell ⟨g, j, none⟩ (.int .u8 ((y ^^^ t).toNat : Int)) = W6 := ⟨_, rfl⟩
        rw [hL2, hW6, ← hL2l] at hto
        have B6 : Below w.heap.size w W6 := by
          rw [← hW6]
          exact B5.setCell (p := ⟨g, j, none⟩) (Nat.le_trans HGE.out hge) _
        have hdec : t ≠ 0 → unw L2 = none := by
          intro ht
          have h := HUT.out j t hjl ht
          rw [hy, hL2] at h
          exact h
        have hd := cqdec_any (some ⟨g, 0, none⟩) c5 W6.heap.size L2 W6 (HT.out.below HT.out.1 B6) (Sl.of_own hto) (by omega) (by omega) (Nat.le_refl _)
        rw [hL2l] at hd
        have HD := Lib.hid hd
        have HW6 := Lib.hid hW6
        have HDEC := Lib.hid hdec
        clear hW6 hd hdec hto hL2 hj hy hL2l
        by_cases ht : t = 0
        · have htz : ((t.toNat : Int) == 0) = true := by rw [ht]; rfl
          clear ht
          go_wp2_with fail
          first | rw [HW6.out] | (rw [← UInt8.toNat_xor, HW6.out])
          refine HD.out.mono ?_
          rintro e W7 ⟨A7, c7, he, hb7, -⟩
          obtain ⟨o, ho⟩ : ∃ o, (unw L2).bind decCq = o := ⟨_, rfl⟩
          rw [ho] at he
          obtain ⟨Y, hY⟩ : ∃ Y, o.getD zCq = Y := ⟨_, rfl⟩
          obtain ⟨kk, hk⟩ : ∃ kk : Int, (if o.isSome then 0 else 3) = kk := ⟨_, rfl⟩
          rw [hY, hk] at he
          clear hY hk ho
          obtain ⟨y1, y2, y3, y4, y5, y6⟩ := Y
          have he : e = .returned (.tuple #[.agg #[.int .i64 y1, .string y2, .string y3, .int .i64 y4, .int .i64 y5, .slice A7 y6.length c7], .int .i64 kk]) := he
          subst he
          go_wp2
          go_ret
          first | exact ⟨rfl, (B6.trans (hb7.mono B6.size)).alloc (B6.trans (hb7.mono B6.size)).size _⟩ | exact ⟨rfl, B6.trans (hb7.mono B6.size)⟩
        · have htz : ((t.toNat : Int) == 0) = false := by
            rw [beq_eq_false_iff_ne]
            intro e
            exact ht (UInt8.toNat_inj.1 (by simpa using e))
          have hn0 := HDEC.out ht
          clear ht
          go_wp2_with fail
          first | rw [HW6.out] | (rw [← UInt8.toNat_xor, HW6.out])
          refine HD.out.mono ?_
          rintro e W7 ⟨A7, c7, he, hb7, -⟩
          rw [hn0] at he
          have he : e = .returned (.tuple #[.agg #[.int .i64 0, .string ⟨#[]⟩, .string ⟨#[]⟩, .int .i64 0, .int .i64 0, .slice A7 0 c7], .int .i64 3]) := he
          subst he
          have B7 := B6.trans (hb7.mono B6.size)
          clear hn0
          go_wp2
          go_ret
          first | exact ⟨rfl, B7.alloc B7.size _⟩ | exact ⟨rfl, B7⟩
end Go.Proofs.YtohahhijbneheaaDoor
