/- tidelinelaw12.RpcCodes: the walk. -/
import Derived.Test.YtadflbeniccfeaaDoorRpcDr
import Derived.Test.YtadflbeniccfeaaDoorRpcEr
import Derived.Test.YtadflbeniccfeaaDoorReply
namespace Go.Proofs.YtadflbeniccfeaaDoor
open Go.RowKit
set_option linter.unusedVariables false

set_option maxRecDepth 100000 in
set_option maxHeartbeats 2000000 in
theorem rpcenc_bad (m : Msg) (A1 A2 : Option Addr) (c1 c2 : Nat) (w : World) (hr : m.right = false) :
    Calls Tryd.prog 37 #[m.val A1 c1 A2 c2] w fun e w' => e = .returned (.tuple #[.slice none 0 0, .int .i64 1]) ∧ Below w.heap.size w w' := by
  have HR := Lib.hid hr
  clear hr
  obtain ⟨a1, a2, a3, a4, a5, a6, a7, a8, a9, a10, a11, a12, a13, a14, a15, a16⟩ := m
  go_enter Tryd.func37, Tryd.ntmps37
  go_wp2_with fail
  refine (mright_any ⟨a1, a2, a3, a4, a5, a6, a7, a8, a9, a10, a11, a12, a13, a14, a15, a16⟩ A1 A2 c1 c2 _).mono ?_
  rintro e w1 ⟨he, hb1⟩
  rw [HR.out] at he
  subst he
  go_wp2
  go_ret2
  exact ⟨rfl, ((Below.refl _ _).alloc (Nat.le_refl _) _).trans (hb1.mono (by simp))⟩

theorem own_cap {w : World} {base n c : Nat} {A : Option Addr} {xs : List Value} (h : w.ownsRow base 5 1 (.slice A n c) n xs) : n ≤ c := by
  rcases h.2 with ⟨e, h0⟩ | ⟨g', cap, cur, e, hb, hh, hn, _⟩
  · omega
  · injection e with e1 e2 e3
    omega
theorem dec_small (b : List UInt8) : (((unw b).bind decMsg).getD zMsg).cd.length ≤ 65536 ∧ (((unw b).bind decMsg).getD zMsg).va.length ≤ 1000 := by
  cases h : (unw b).bind decMsg with
  | none => exact ⟨Nat.zero_le _, Nat.zero_le _⟩
  | some m =>
    cases hu : unw b with
    | none => rw [hu] at h; cases h
    | some a =>
      rw [hu] at h
      change decMsg a = some m at h
      unfold decMsg at h
      split at h
      · rename_i hc
        injection h with h
        have := of_decide_eq_true hc.2
        rw [h] at this
        exact ⟨by show m.cd.length ≤ _; omega, by show m.va.length ≤ _; omega⟩
      · cases h
theorem encMsg_len (m : Msg) : (encMsg m).length = 85 + m.cd.length + m.va.length := by
  simp [encMsg, be_len, lenBytes_len]
  omega

/-- A message's ints, its bytes, its addresses: laid out. -/
abbrev mcells (y1 y2 y3 : Int) (y4 : Bool) (y5 y6 y7 y8 : Int) (y9 : List UInt8) (y10 y11 : Int) (y12 : List UInt8) (y13 y14 y15 y16 : Int) (A1 A2 : Option Addr) (c1 c2 : Nat) : Array Value :=
  #[.int .i64 y1, .int .i64 y2, .int .i64 y3, .bool y4, .int .i64 y5, .int .i64 y6, .int .i64 y7, .int .i64 y8, .slice A1 y9.length c1, .int .i64 y10, .int .i64 y11, .slice A2 y12.length c2, .int .i64 y13, .int .i64 y14, .int .i64 y15, .int .i64 y16]

set_option maxRecDepth 100000 in
set_option maxHeartbeats 8000000 in
theorem rcodes_walk (m : Msg) (A1 A2 A : Option Addr) (c1 c2 c : Nat) (b : List UInt8) (w : World) (hT : Tab w) (h1 : Sl w w.heap.size A1 (bv m.cd)) (h2 : Sl w w.heap.size A2 (bv m.va)) (n1 : A1 = none → c1 = 0) (n2 : A2 = none → c2 = 0)
    (h3 : Sl w w.heap.size A (bv b)) (n3 : A = none → c = 0) (hbc : b.length ≤ c) (k1 : m.cd.length ≤ maxLen) (k2 : m.va.length ≤ maxLen) (hf : m.fit) :
    Calls Tryd.prog 7 #[m.val A1 c1 A2 c2, .slice A b.length c] w fun e w' => e = .returned (.bool true) ∧ Below w.heap.size w w' := by
  obtain ⟨r, hr⟩ : ∃ r, m.right = r := ⟨_, rfl⟩
  obtain ⟨M, hM⟩ : ∃ M, M = m := ⟨_, rfl⟩
  have HENC := fun (W : World) (hT : Tab W) (h1 : Sl W w.heap.size A1 (bv m.cd)) (h2 : Sl W w.heap.size A2 (bv m.va)) (hB : w.heap.size ≤ W.heap.size) (hr : m.right = true) => rpcenc_ok m A1 A2 c1 c2 w.heap.size W hT h1 h2 n1 n2 hB hr
  have HENR := fun (W : World) (h1 : Sl W w.heap.size A1 (bv m.cd)) (h2 : Sl W w.heap.size A2 (bv m.va)) (hB : w.heap.size ≤ W.heap.size) (hr : m.right = true) => rrpcenc_ok m A1 A2 c1 c2 w.heap.size W h1 h2 n1 n2 hB hr
  have HENB := fun (W : World) (hr : m.right = false) => rpcenc_bad m A1 A2 c1 c2 W hr
  have HRT := fun (W : World) => rmright_any m A1 A2 c1 c2 W
  have HENC := Lib.hid HENC
  have HENR := Lib.hid HENR
  have HENB := Lib.hid HENB
  rw [hr] at HRT
  have HRT := Lib.hid HRT
  have HR := Lib.hid hr
  have HF := Lib.hid hf
  have HM := Lib.hid hM
  have HN3 := Lib.hid n3
  clear hr hf hM n1 n2 n3
  obtain ⟨a1, a2, a3, a4, a5, a6, a7, a8, a9, a10, a11, a12, a13, a14, a15, a16⟩ := m
  go_enter Tryd.func7, Tryd.ntmps7
  go_wp2_with fail
  refine (speaks12_any _).mono ?_
  rintro e W0 ⟨rfl, B0⟩
  have hbm := Blk.new w (mcells a1 a2 a3 a4 a5 a6 a7 a8 a9 a10 a11 a12 a13 a14 a15 a16 A1 A2 c1 c2) 68
  have hbm0 := hbm.belowAll B0
  have hq0 := hbm0.cell
  have B0 : Below w.heap.size w W0 := ((Below.refl _ _).alloc (Nat.le_refl _) _).trans (B0.mono (by simp))
  by_cases t1 : (3000 : Int) < (a9.length : Int)
  · go_wp2_with fail
    go_ret
    exact ⟨rfl, B0⟩
  · by_cases t2 : (3000 : Int) < (a12.length : Int)
    · go_wp2_with fail
      go_ret
      exact ⟨rfl, B0⟩
    · by_cases t3 : (5000 : Int) < (b.length : Int)
      · go_wp2_with fail
        go_ret
        exact ⟨rfl, B0⟩
      · clear hbm
        go_wp2_with fail
        have hT0 := hT.below hT.1 B0
        have S1 := h1.below B0
        have S2 := h2.below B0
        have LL : Hid (0 + b.length ≤ 70368744177664) := by show _ ≤ _; omega
        have hsm := dec_small b
        obtain ⟨o, hoo⟩ : ∃ o, (unw b).bind decMsg = o := ⟨_, rfl⟩
        rw [hoo] at hsm
        obtain ⟨kk, hkk⟩ : ∃ kk : Int, (if o.isSome then 0 else 3) = kk := ⟨_, rfl⟩
        obtain ⟨Y, hYY⟩ : ∃ Y, o.getD zMsg = Y := ⟨_, rfl⟩
        rw [hYY] at hsm
        have HOO := Lib.hid hoo
        have HKK := Lib.hid hkk
        have HYY := Lib.hid hYY
        clear hoo hkk hYY
        obtain ⟨y1, y2, y3, y4, y5, y6, y7, y8, y9, y10, y11, y12, y13, y14, y15, y16⟩ := Y
        have hk1 : y9.length ≤ maxLen := by have := hsm.1; unfold maxLen; dsimp only at this; omega
        have hk2 : y12.length ≤ maxLen := by have := hsm.2; unfold maxLen; dsimp only at this; omega
        clear hsm
        cases r
        · refine (HENB.out W0 HR.out).mono ?_
          rintro e W1 ⟨rfl, hb1⟩
          have B1 := B0.trans (hb1.mono B0.size)
          have hbm1 := hbm0.belowAll hb1
          have hq1 := hbm1.cell
          clear hq0 hbm0
          go_wp2_with (at_builtin; refine wpList_append_bytes rfl _ _ rfl W1.heap.size _ 0 [] rfl (World.ownsRow_made W1 #[] 0 (Nat.le_refl _) (Nat.zero_le _) rfl) A c w.heap.size b rfl HN3.out (h3.below (B1.alloc B1.size _)) LL.out (by simp) ?_; intro v2 W2 ho2 hb2)
          have hb2 : Below W1.heap.size W1 W2 := ((Below.refl _ _).alloc (Nat.le_refl _) _).trans hb2
          obtain ⟨Ab, cb, rfl⟩ := own_form ho2
          rw [Nat.zero_add, List.nil_append] at ho2
          rw [Nat.zero_add]
          have B2 := B1.trans (hb2.mono B1.size)
          have hbm2 := hbm1.belowAll hb2
          have hq2 := hbm2.cell
          clear hq1 hbm1
          refine (rpcdec_any Ab cb W2.heap.size b W2 (hT.below hT.1 B2) (Sl.of_own ho2) (own_cap ho2) (by omega) (Nat.le_refl _)).mono ?_
          rintro e W3 ⟨A4, c4, A5, c5, he, hb3, ho4, ho5⟩
          rw [HOO.out, HYY.out, HKK.out] at he
          rw [HOO.out, HYY.out] at ho4 ho5
          have he : e = .returned (.tuple #[.agg #[.int .i64 y1, .int .i64 y2, .int .i64 y3, .bool y4, .int .i64 y5, .int .i64 y6, .int .i64 y7, .int .i64 y8, .slice A4 y9.length c4, .int .i64 y10, .int .i64 y11, .slice A5 y12.length c5, .int .i64 y13, .int .i64 y14, .int .i64 y15, .int .i64 y16], .int .i64 kk]) := he
          subst he
          have B3 := B2.trans (hb3.mono B2.size)
          have P3 := hb2.trans (hb3.mono hb2.size)
          have hbm3 := (hbm2.belowAll hb3).alloc (.cells #[.int .i64 y1, .int .i64 y2, .int .i64 y3, .bool y4, .int .i64 y5, .int .i64 y6, .int .i64 y7, .int .i64 y8, .slice A4 y9.length c4, .int .i64 y10, .int .i64 y11, .slice A5 y12.length c5, .int .i64 y13, .int .i64 y14, .int .i64 y15, .int .i64 y16] 68)
          have hq3 := hbm3.cell
          have S4 : Sl W3 W3.heap.size A4 (bv y9) := Sl.of_own ho4
          have S5 : Sl W3 W3.heap.size A5 (bv y12) := Sl.of_own ho5
          have hby := Blk.new W3 #[.int .i64 y1, .int .i64 y2, .int .i64 y3, .bool y4, .int .i64 y5, .int .i64 y6, .int .i64 y7, .int .i64 y8, .slice A4 y9.length c4, .int .i64 y10, .int .i64 y11, .slice A5 y12.length c5, .int .i64 y13, .int .i64 y14, .int .i64 y15, .int .i64 y16] 68
          have B3' := B3.alloc B3.size (.cells #[.int .i64 y1, .int .i64 y2, .int .i64 y3, .bool y4, .int .i64 y5, .int .i64 y6, .int .i64 y7, .int .i64 y8, .slice A4 y9.length c4, .int .i64 y10, .int .i64 y11, .slice A5 y12.length c5, .int .i64 y13, .int .i64 y14, .int .i64 y15, .int .i64 y16] 68)
          have P3' := P3.alloc P3.size (.cells #[.int .i64 y1, .int .i64 y2, .int .i64 y3, .bool y4, .int .i64 y5, .int .i64 y6, .int .i64 y7, .int .i64 y8, .slice A4 y9.length c4, .int .i64 y10, .int .i64 y11, .slice A5 y12.length c5, .int .i64 y13, .int .i64 y14, .int .i64 y15, .int .i64 y16] 68)
          have S4 := S4.alloc (Nat.le_refl _) (.cells #[.int .i64 y1, .int .i64 y2, .int .i64 y3, .bool y4, .int .i64 y5, .int .i64 y6, .int .i64 y7, .int .i64 y8, .slice A4 y9.length c4, .int .i64 y10, .int .i64 y11, .slice A5 y12.length c5, .int .i64 y13, .int .i64 y14, .int .i64 y15, .int .i64 y16] 68)
          have S5 := S5.alloc (Nat.le_refl _) (.cells #[.int .i64 y1, .int .i64 y2, .int .i64 y3, .bool y4, .int .i64 y5, .int .i64 y6, .int .i64 y7, .int .i64 y8, .slice A4 y9.length c4, .int .i64 y10, .int .i64 y11, .slice A5 y12.length c5, .int .i64 y13, .int .i64 y14, .int .i64 y15, .int .i64 y16] 68)
          clear hq2 hbm2 hb2 ho2 ho4 ho5
          go_wp2_with fail
          obtain ⟨X3, hX3⟩ : ∃ X, W3.alloc (.cells #[.int .i64 y1, .int .i64 y2, .int .i64 y3, .bool y4, .int .i64 y5, .int .i64 y6, .int .i64 y7, .int .i64 y8, .slice A4 y9.length c4, .int .i64 y10, .int .i64 y11, .slice A5 y12.length c5, .int .i64 y13, .int .i64 y14, .int .i64 y15, .int .i64 y16] 68) = X := ⟨_, rfl⟩
          have hXs : W3.heap.size ≤ X3.heap.size := by rw [← hX3]; simp
          obtain ⟨by0, hby0⟩ : ∃ g, W3.heap.size = g := ⟨_, rfl⟩
          rw [hX3] at B3' P3' S4 S5 hbm3 hq3 hby
          rw [hX3, hby0]
          rw [hby0] at hby S4 S5 hXs
          clear hX3 hby0 hb3
          refine (rrpcdec_any A c w.heap.size b X3 (h3.below B3') hbc (by omega) B3'.size).mono ?_
          rintro e W4 ⟨A6, c6, A7, c7, he, hb4, ho6, ho7⟩
          rw [HOO.out, HYY.out, HKK.out] at he
          rw [HOO.out, HYY.out] at ho6 ho7
          have he : e = .returned (.tuple #[.agg #[.int .i64 y1, .int .i64 y2, .int .i64 y3, .bool y4, .int .i64 y5, .int .i64 y6, .int .i64 y7, .int .i64 y8, .slice A6 y9.length c6, .int .i64 y10, .int .i64 y11, .slice A7 y12.length c7, .int .i64 y13, .int .i64 y14, .int .i64 y15, .int .i64 y16], .int .i64 kk]) := he
          subst he
          have B4 := B3'.trans (hb4.mono B3'.size)
          have P4 := P3'.trans (hb4.mono P3'.size)
          have S6 : Sl W4 W4.heap.size A6 (bv y9) := Sl.of_own ho6
          have S7 : Sl W4 W4.heap.size A7 (bv y12) := Sl.of_own ho7
          have S4 := (S4.more hXs).below hb4
          have S5 := (S5.more hXs).below hb4
          have hby4 := (hby.belowAll hb4).alloc (.cells #[.int .i64 y1, .int .i64 y2, .int .i64 y3, .bool y4, .int .i64 y5, .int .i64 y6, .int .i64 y7, .int .i64 y8, .slice A6 y9.length c6, .int .i64 y10, .int .i64 y11, .slice A7 y12.length c7, .int .i64 y13, .int .i64 y14, .int .i64 y15, .int .i64 y16] 68)
          have hbm4 := (hbm3.belowAll hb4).alloc (.cells #[.int .i64 y1, .int .i64 y2, .int .i64 y3, .bool y4, .int .i64 y5, .int .i64 y6, .int .i64 y7, .int .i64 y8, .slice A6 y9.length c6, .int .i64 y10, .int .i64 y11, .slice A7 y12.length c7, .int .i64 y13, .int .i64 y14, .int .i64 y15, .int .i64 y16] 68)
          have hqy4 := hby4.cell
          have hqm4 := hbm4.cell
          have B4' := B4.alloc B4.size (.cells #[.int .i64 y1, .int .i64 y2, .int .i64 y3, .bool y4, .int .i64 y5, .int .i64 y6, .int .i64 y7, .int .i64 y8, .slice A6 y9.length c6, .int .i64 y10, .int .i64 y11, .slice A7 y12.length c7, .int .i64 y13, .int .i64 y14, .int .i64 y15, .int .i64 y16] 68)
          have P4' := P4.alloc P4.size (.cells #[.int .i64 y1, .int .i64 y2, .int .i64 y3, .bool y4, .int .i64 y5, .int .i64 y6, .int .i64 y7, .int .i64 y8, .slice A6 y9.length c6, .int .i64 y10, .int .i64 y11, .slice A7 y12.length c7, .int .i64 y13, .int .i64 y14, .int .i64 y15, .int .i64 y16] 68)
          have S4 := ((S4.more hb4.size).alloc (Nat.le_refl _) (.cells #[.int .i64 y1, .int .i64 y2, .int .i64 y3, .bool y4, .int .i64 y5, .int .i64 y6, .int .i64 y7, .int .i64 y8, .slice A6 y9.length c6, .int .i64 y10, .int .i64 y11, .slice A7 y12.length c7, .int .i64 y13, .int .i64 y14, .int .i64 y15, .int .i64 y16] 68))
          have S5 := ((S5.more hb4.size).alloc (Nat.le_refl _) (.cells #[.int .i64 y1, .int .i64 y2, .int .i64 y3, .bool y4, .int .i64 y5, .int .i64 y6, .int .i64 y7, .int .i64 y8, .slice A6 y9.length c6, .int .i64 y10, .int .i64 y11, .slice A7 y12.length c7, .int .i64 y13, .int .i64 y14, .int .i64 y15, .int .i64 y16] 68))
          have S6 := S6.alloc (Nat.le_refl _) (.cells #[.int .i64 y1, .int .i64 y2, .int .i64 y3, .bool y4, .int .i64 y5, .int .i64 y6, .int .i64 y7, .int .i64 y8, .slice A6 y9.length c6, .int .i64 y10, .int .i64 y11, .slice A7 y12.length c7, .int .i64 y13, .int .i64 y14, .int .i64 y15, .int .i64 y16] 68)
          have S7 := S7.alloc (Nat.le_refl _) (.cells #[.int .i64 y1, .int .i64 y2, .int .i64 y3, .bool y4, .int .i64 y5, .int .i64 y6, .int .i64 y7, .int .i64 y8, .slice A6 y9.length c6, .int .i64 y10, .int .i64 y11, .slice A7 y12.length c7, .int .i64 y13, .int .i64 y14, .int .i64 y15, .int .i64 y16] 68)
          have hms := msame_any ⟨y1, y2, y3, y4, y5, y6, y7, y8, y9, y10, y11, y12, y13, y14, y15, y16⟩ ⟨y1, y2, y3, y4, y5, y6, y7, y8, y9, y10, y11, y12, y13, y14, y15, y16⟩ A4 A5 A6 A7 c4 c5 c6 c7 W4.heap.size (W4.alloc (.cells #[.int .i64 y1, .int .i64 y2, .int .i64 y3, .bool y4, .int .i64 y5, .int .i64 y6, .int .i64 y7, .int .i64 y8, .slice A6 y9.length c6, .int .i64 y10, .int .i64 y11, .slice A7 y12.length c7, .int .i64 y13, .int .i64 y14, .int .i64 y15, .int .i64 y16] 68)) S4 S5 S6 S7 hk1 hk2 hk1 hk2 (by simp)
          rw [(Msg.eqb_iff _ _).2 rfl] at hms
          have HMS := Lib.hid hms
          clear hq3 hbm3 hby ho6 ho7 hms S4 S5 S6 S7 B3' hXs hb4
          go_wp2_with fail
          refine HMS.out.mono ?_
          rintro e W5 ⟨rfl, hb5⟩
          have B5 := B4'.trans (hb5.mono B4'.size)
          have P5 := P4'.trans (hb5.mono P4'.size)
          have hbm5 := hbm4.belowAll hb5
          have hqm5 := hbm5.cell
          clear hqy4 hqm4 hby4 hbm4 HMS
          go_wp2_with fail
          refine (HRT.out W5).mono ?_
          rintro e W6 ⟨rfl, hb6⟩
          have B6 := B5.trans (hb6.mono B5.size)
          have P6 := P5.trans (hb6.mono P5.size)
          have hbm6 := hbm5.belowAll hb6
          have hqm6 := hbm6.cell
          clear hqm5 hbm5
          go_wp2_with fail
          go_ret
          exact ⟨rfl, B6⟩
        · refine (HENC.out W0 hT0 S1 S2 B0.size HR.out).mono ?_
          rintro e W1 ⟨⟨A3, c3, rfl, ho3⟩, hb1⟩
          have HDM : Hid ((unw (wrapped (encMsg ⟨a1, a2, a3, a4, a5, a6, a7, a8, a9, a10, a11, a12, a13, a14, a15, a16⟩))).bind decMsg = some ⟨a1, a2, a3, a4, a5, a6, a7, a8, a9, a10, a11, a12, a13, a14, a15, a16⟩) := by
            show _ = _
            rw [unw_wrapped, Option.bind_some, decMsg_enc _ HR.out HF.out]
          have hLl : (wrapped (encMsg ⟨a1, a2, a3, a4, a5, a6, a7, a8, a9, a10, a11, a12, a13, a14, a15, a16⟩)).length ≤ 100000 := by rw [wrapped_len, encMsg_len]; dsimp only; omega
          obtain ⟨L, hL⟩ : ∃ L, wrapped (encMsg ⟨a1, a2, a3, a4, a5, a6, a7, a8, a9, a10, a11, a12, a13, a14, a15, a16⟩) = L := ⟨_, rfl⟩
          rw [hL] at ho3 HDM HENR hLl ⊢
          have HO3 := Lib.hid ho3
          clear hL ho3
          have B1 := B0.trans (hb1.mono B0.size)
          have hbm1 := hbm0.belowAll hb1
          have hq1 := hbm1.cell
          clear hq0 hbm0
          go_wp2_with (at_builtin; refine wpList_append_bytes rfl _ _ rfl W1.heap.size _ 0 [] rfl (World.ownsRow_made W1 #[] 0 (Nat.le_refl _) (Nat.zero_le _) rfl) A c w.heap.size b rfl HN3.out (h3.below (B1.alloc B1.size _)) LL.out (by simp) ?_; intro v2 W2 ho2 hb2)
          have hb2 : Below W1.heap.size W1 W2 := ((Below.refl _ _).alloc (Nat.le_refl _) _).trans hb2
          obtain ⟨Ab, cb, rfl⟩ := own_form ho2
          rw [Nat.zero_add, List.nil_append] at ho2
          rw [Nat.zero_add]
          have B2 := B1.trans (hb2.mono B1.size)
          have hbm2 := hbm1.belowAll hb2
          have hq2 := hbm2.cell
          clear hq1 hbm1
          refine (rpcdec_any Ab cb W2.heap.size b W2 (hT.below hT.1 B2) (Sl.of_own ho2) (own_cap ho2) (by omega) (Nat.le_refl _)).mono ?_
          rintro e W3 ⟨A4, c4, A5, c5, he, hb3, ho4, ho5⟩
          rw [HOO.out, HYY.out, HKK.out] at he
          rw [HOO.out, HYY.out] at ho4 ho5
          have he : e = .returned (.tuple #[.agg #[.int .i64 y1, .int .i64 y2, .int .i64 y3, .bool y4, .int .i64 y5, .int .i64 y6, .int .i64 y7, .int .i64 y8, .slice A4 y9.length c4, .int .i64 y10, .int .i64 y11, .slice A5 y12.length c5, .int .i64 y13, .int .i64 y14, .int .i64 y15, .int .i64 y16], .int .i64 kk]) := he
          subst he
          have B3 := B2.trans (hb3.mono B2.size)
          have P3 := hb2.trans (hb3.mono hb2.size)
          have hbm3 := (hbm2.belowAll hb3).alloc (.cells #[.int .i64 y1, .int .i64 y2, .int .i64 y3, .bool y4, .int .i64 y5, .int .i64 y6, .int .i64 y7, .int .i64 y8, .slice A4 y9.length c4, .int .i64 y10, .int .i64 y11, .slice A5 y12.length c5, .int .i64 y13, .int .i64 y14, .int .i64 y15, .int .i64 y16] 68)
          have hq3 := hbm3.cell
          have S4 : Sl W3 W3.heap.size A4 (bv y9) := Sl.of_own ho4
          have S5 : Sl W3 W3.heap.size A5 (bv y12) := Sl.of_own ho5
          have hby := Blk.new W3 #[.int .i64 y1, .int .i64 y2, .int .i64 y3, .bool y4, .int .i64 y5, .int .i64 y6, .int .i64 y7, .int .i64 y8, .slice A4 y9.length c4, .int .i64 y10, .int .i64 y11, .slice A5 y12.length c5, .int .i64 y13, .int .i64 y14, .int .i64 y15, .int .i64 y16] 68
          have B3' := B3.alloc B3.size (.cells #[.int .i64 y1, .int .i64 y2, .int .i64 y3, .bool y4, .int .i64 y5, .int .i64 y6, .int .i64 y7, .int .i64 y8, .slice A4 y9.length c4, .int .i64 y10, .int .i64 y11, .slice A5 y12.length c5, .int .i64 y13, .int .i64 y14, .int .i64 y15, .int .i64 y16] 68)
          have P3' := P3.alloc P3.size (.cells #[.int .i64 y1, .int .i64 y2, .int .i64 y3, .bool y4, .int .i64 y5, .int .i64 y6, .int .i64 y7, .int .i64 y8, .slice A4 y9.length c4, .int .i64 y10, .int .i64 y11, .slice A5 y12.length c5, .int .i64 y13, .int .i64 y14, .int .i64 y15, .int .i64 y16] 68)
          have S4 := S4.alloc (Nat.le_refl _) (.cells #[.int .i64 y1, .int .i64 y2, .int .i64 y3, .bool y4, .int .i64 y5, .int .i64 y6, .int .i64 y7, .int .i64 y8, .slice A4 y9.length c4, .int .i64 y10, .int .i64 y11, .slice A5 y12.length c5, .int .i64 y13, .int .i64 y14, .int .i64 y15, .int .i64 y16] 68)
          have S5 := S5.alloc (Nat.le_refl _) (.cells #[.int .i64 y1, .int .i64 y2, .int .i64 y3, .bool y4, .int .i64 y5, .int .i64 y6, .int .i64 y7, .int .i64 y8, .slice A4 y9.length c4, .int .i64 y10, .int .i64 y11, .slice A5 y12.length c5, .int .i64 y13, .int .i64 y14, .int .i64 y15, .int .i64 y16] 68)
          clear hq2 hbm2 hb2 ho2 ho4 ho5
          go_wp2_with fail
          obtain ⟨X3, hX3⟩ : ∃ X, W3.alloc (.cells #[.int .i64 y1, .int .i64 y2, .int .i64 y3, .bool y4, .int .i64 y5, .int .i64 y6, .int .i64 y7, .int .i64 y8, .slice A4 y9.length c4, .int .i64 y10, .int .i64 y11, .slice A5 y12.length c5, .int .i64 y13, .int .i64 y14, .int .i64 y15, .int .i64 y16] 68) = X := ⟨_, rfl⟩
          have hXs : W3.heap.size ≤ X3.heap.size := by rw [← hX3]; simp
          obtain ⟨by0, hby0⟩ : ∃ g, W3.heap.size = g := ⟨_, rfl⟩
          rw [hX3] at B3' P3' S4 S5 hbm3 hq3 hby
          rw [hX3, hby0]
          rw [hby0] at hby S4 S5 hXs
          clear hX3 hby0 hb3
          refine (rrpcdec_any A c w.heap.size b X3 (h3.below B3') hbc (by omega) B3'.size).mono ?_
          rintro e W4 ⟨A6, c6, A7, c7, he, hb4, ho6, ho7⟩
          rw [HOO.out, HYY.out, HKK.out] at he
          rw [HOO.out, HYY.out] at ho6 ho7
          have he : e = .returned (.tuple #[.agg #[.int .i64 y1, .int .i64 y2, .int .i64 y3, .bool y4, .int .i64 y5, .int .i64 y6, .int .i64 y7, .int .i64 y8, .slice A6 y9.length c6, .int .i64 y10, .int .i64 y11, .slice A7 y12.length c7, .int .i64 y13, .int .i64 y14, .int .i64 y15, .int .i64 y16], .int .i64 kk]) := he
          subst he
          have B4 := B3'.trans (hb4.mono B3'.size)
          have P4 := P3'.trans (hb4.mono P3'.size)
          have S6 : Sl W4 W4.heap.size A6 (bv y9) := Sl.of_own ho6
          have S7 : Sl W4 W4.heap.size A7 (bv y12) := Sl.of_own ho7
          have S4 := (S4.more hXs).below hb4
          have S5 := (S5.more hXs).below hb4
          have hby4 := (hby.belowAll hb4).alloc (.cells #[.int .i64 y1, .int .i64 y2, .int .i64 y3, .bool y4, .int .i64 y5, .int .i64 y6, .int .i64 y7, .int .i64 y8, .slice A6 y9.length c6, .int .i64 y10, .int .i64 y11, .slice A7 y12.length c7, .int .i64 y13, .int .i64 y14, .int .i64 y15, .int .i64 y16] 68)
          have hbm4 := (hbm3.belowAll hb4).alloc (.cells #[.int .i64 y1, .int .i64 y2, .int .i64 y3, .bool y4, .int .i64 y5, .int .i64 y6, .int .i64 y7, .int .i64 y8, .slice A6 y9.length c6, .int .i64 y10, .int .i64 y11, .slice A7 y12.length c7, .int .i64 y13, .int .i64 y14, .int .i64 y15, .int .i64 y16] 68)
          have hqy4 := hby4.cell
          have hqm4 := hbm4.cell
          have B4' := B4.alloc B4.size (.cells #[.int .i64 y1, .int .i64 y2, .int .i64 y3, .bool y4, .int .i64 y5, .int .i64 y6, .int .i64 y7, .int .i64 y8, .slice A6 y9.length c6, .int .i64 y10, .int .i64 y11, .slice A7 y12.length c7, .int .i64 y13, .int .i64 y14, .int .i64 y15, .int .i64 y16] 68)
          have P4' := P4.alloc P4.size (.cells #[.int .i64 y1, .int .i64 y2, .int .i64 y3, .bool y4, .int .i64 y5, .int .i64 y6, .int .i64 y7, .int .i64 y8, .slice A6 y9.length c6, .int .i64 y10, .int .i64 y11, .slice A7 y12.length c7, .int .i64 y13, .int .i64 y14, .int .i64 y15, .int .i64 y16] 68)
          have S4 := ((S4.more hb4.size).alloc (Nat.le_refl _) (.cells #[.int .i64 y1, .int .i64 y2, .int .i64 y3, .bool y4, .int .i64 y5, .int .i64 y6, .int .i64 y7, .int .i64 y8, .slice A6 y9.length c6, .int .i64 y10, .int .i64 y11, .slice A7 y12.length c7, .int .i64 y13, .int .i64 y14, .int .i64 y15, .int .i64 y16] 68))
          have S5 := ((S5.more hb4.size).alloc (Nat.le_refl _) (.cells #[.int .i64 y1, .int .i64 y2, .int .i64 y3, .bool y4, .int .i64 y5, .int .i64 y6, .int .i64 y7, .int .i64 y8, .slice A6 y9.length c6, .int .i64 y10, .int .i64 y11, .slice A7 y12.length c7, .int .i64 y13, .int .i64 y14, .int .i64 y15, .int .i64 y16] 68))
          have S6 := S6.alloc (Nat.le_refl _) (.cells #[.int .i64 y1, .int .i64 y2, .int .i64 y3, .bool y4, .int .i64 y5, .int .i64 y6, .int .i64 y7, .int .i64 y8, .slice A6 y9.length c6, .int .i64 y10, .int .i64 y11, .slice A7 y12.length c7, .int .i64 y13, .int .i64 y14, .int .i64 y15, .int .i64 y16] 68)
          have S7 := S7.alloc (Nat.le_refl _) (.cells #[.int .i64 y1, .int .i64 y2, .int .i64 y3, .bool y4, .int .i64 y5, .int .i64 y6, .int .i64 y7, .int .i64 y8, .slice A6 y9.length c6, .int .i64 y10, .int .i64 y11, .slice A7 y12.length c7, .int .i64 y13, .int .i64 y14, .int .i64 y15, .int .i64 y16] 68)
          have hms := msame_any ⟨y1, y2, y3, y4, y5, y6, y7, y8, y9, y10, y11, y12, y13, y14, y15, y16⟩ ⟨y1, y2, y3, y4, y5, y6, y7, y8, y9, y10, y11, y12, y13, y14, y15, y16⟩ A4 A5 A6 A7 c4 c5 c6 c7 W4.heap.size (W4.alloc (.cells #[.int .i64 y1, .int .i64 y2, .int .i64 y3, .bool y4, .int .i64 y5, .int .i64 y6, .int .i64 y7, .int .i64 y8, .slice A6 y9.length c6, .int .i64 y10, .int .i64 y11, .slice A7 y12.length c7, .int .i64 y13, .int .i64 y14, .int .i64 y15, .int .i64 y16] 68)) S4 S5 S6 S7 hk1 hk2 hk1 hk2 (by simp)
          rw [(Msg.eqb_iff _ _).2 rfl] at hms
          have HMS := Lib.hid hms
          clear hq3 hbm3 hby ho6 ho7 hms S4 S5 S6 S7 B3' hXs hb4
          go_wp2_with fail
          refine HMS.out.mono ?_
          rintro e W5 ⟨rfl, hb5⟩
          have B5 := B4'.trans (hb5.mono B4'.size)
          have P5 := P4'.trans (hb5.mono P4'.size)
          have hbm5 := hbm4.belowAll hb5
          have hqm5 := hbm5.cell
          clear hqy4 hqm4 hby4 hbm4 HMS
          go_wp2_with fail
          refine (HRT.out W5).mono ?_
          rintro e W6 ⟨rfl, hb6⟩
          have B6 := B5.trans (hb6.mono B5.size)
          have P6 := P5.trans (hb6.mono P5.size)
          have hbm6 := hbm5.belowAll hb6
          have hqm6 := hbm6.cell
          clear hqm5 hbm5
          go_wp2_with fail
          have ho3 := (Fr.of_below (M := fun _ => False) P6).owns HO3.out (fun _ _ x => x)
          refine (rpcdec_any A3 c3 W6.heap.size L W6 (hT.below hT.1 B6) (Sl.of_own ho3) (own_cap ho3) (by omega) (Nat.le_refl _)).mono ?_
          rintro e W7 ⟨A8, c8, A9, c9, he, hb7, ho8, ho9⟩
          rw [HDM.out] at he ho8 ho9
          have he : e = .returned (.tuple #[.agg #[.int .i64 a1, .int .i64 a2, .int .i64 a3, .bool a4, .int .i64 a5, .int .i64 a6, .int .i64 a7, .int .i64 a8, .slice A8 a9.length c8, .int .i64 a10, .int .i64 a11, .slice A9 a12.length c9, .int .i64 a13, .int .i64 a14, .int .i64 a15, .int .i64 a16], .int .i64 0]) := he
          subst he
          have B7 := B6.trans (hb7.mono B6.size)
          have hbm7 := (hbm6.belowAll hb7).alloc (.cells #[.int .i64 a1, .int .i64 a2, .int .i64 a3, .bool a4, .int .i64 a5, .int .i64 a6, .int .i64 a7, .int .i64 a8, .slice A8 a9.length c8, .int .i64 a10, .int .i64 a11, .slice A9 a12.length c9, .int .i64 a13, .int .i64 a14, .int .i64 a15, .int .i64 a16] 68)
          have hqm7 := hbm7.cell
          have S8 : Sl W7 W7.heap.size A8 (bv a9) := Sl.of_own ho8
          have S9 : Sl W7 W7.heap.size A9 (bv a12) := Sl.of_own ho9
          have S8 := S8.alloc (Nat.le_refl _) (.cells #[.int .i64 a1, .int .i64 a2, .int .i64 a3, .bool a4, .int .i64 a5, .int .i64 a6, .int .i64 a7, .int .i64 a8, .slice A8 a9.length c8, .int .i64 a10, .int .i64 a11, .slice A9 a12.length c9, .int .i64 a13, .int .i64 a14, .int .i64 a15, .int .i64 a16] 68)
          have S9 := S9.alloc (Nat.le_refl _) (.cells #[.int .i64 a1, .int .i64 a2, .int .i64 a3, .bool a4, .int .i64 a5, .int .i64 a6, .int .i64 a7, .int .i64 a8, .slice A8 a9.length c8, .int .i64 a10, .int .i64 a11, .slice A9 a12.length c9, .int .i64 a13, .int .i64 a14, .int .i64 a15, .int .i64 a16] 68)
          have hbk := Blk.new W7 #[.int .i64 a1, .int .i64 a2, .int .i64 a3, .bool a4, .int .i64 a5, .int .i64 a6, .int .i64 a7, .int .i64 a8, .slice A8 a9.length c8, .int .i64 a10, .int .i64 a11, .slice A9 a12.length c9, .int .i64 a13, .int .i64 a14, .int .i64 a15, .int .i64 a16] 68
          have B7' := B7.alloc B7.size (.cells #[.int .i64 a1, .int .i64 a2, .int .i64 a3, .bool a4, .int .i64 a5, .int .i64 a6, .int .i64 a7, .int .i64 a8, .slice A8 a9.length c8, .int .i64 a10, .int .i64 a11, .slice A9 a12.length c9, .int .i64 a13, .int .i64 a14, .int .i64 a15, .int .i64 a16] 68)
          have S3 : Sl W7 W7.heap.size A3 (bv L) := ((Sl.of_own ho3).below hb7).more hb7.size
          have S3 := S3.alloc (Nat.le_refl _) (.cells #[.int .i64 a1, .int .i64 a2, .int .i64 a3, .bool a4, .int .i64 a5, .int .i64 a6, .int .i64 a7, .int .i64 a8, .slice A8 a9.length c8, .int .i64 a10, .int .i64 a11, .slice A9 a12.length c9, .int .i64 a13, .int .i64 a14, .int .i64 a15, .int .i64 a16] 68)
          obtain ⟨X7, hX7⟩ : ∃ X, W7.alloc (.cells #[.int .i64 a1, .int .i64 a2, .int .i64 a3, .bool a4, .int .i64 a5, .int .i64 a6, .int .i64 a7, .int .i64 a8, .slice A8 a9.length c8, .int .i64 a10, .int .i64 a11, .slice A9 a12.length c9, .int .i64 a13, .int .i64 a14, .int .i64 a15, .int .i64 a16] 68) = X := ⟨_, rfl⟩
          have HX7 := Lib.hid hX7
          have hXs : W7.heap.size ≤ X7.heap.size := by rw [← hX7]; simp
          rw [hX7] at hbm7 S8 S9 hbk B7' S3
          have HE7 := HENR.out X7 (h1.below B7') (h2.below B7') B7'.size HR.out
          have HE7 := Lib.hid HE7
          clear hX7 hqm6 hbm6 ho8 ho9 ho3 HENC HENR HENB HRT
          go_wp2_with fail
          rw [HX7.out]
          refine HE7.out.mono ?_
          rintro e W8 ⟨⟨A10, c10, rfl, ho10⟩, hb8⟩
          have B8 := B7'.trans (hb8.mono B7'.size)
          have hbm8 := hbm7.belowAll hb8
          have hqm8 := hbm8.cell
          have hbk8 := hbk.belowAll hb8
          have hqk8 := hbk8.cell
          have S8 := (S8.more hXs).below hb8
          have S9 := (S9.more hXs).below hb8
          have S3 := ((S3.more hXs).below hb8).more hb8.size
          have HSM := Lib.hid (same_any A3 A10 c3 c10 W8.heap.size L L W8 S3 (Sl.of_own ho10) (by unfold maxLen; omega) (by unfold maxLen; omega))
          clear hqm7 hbm7 hbk HE7 ho10 S3
          go_wp2_with fail
          refine HSM.out.mono ?_
          rintro e W9 ⟨he0, n9, rfl⟩
          have he : e = .returned (.bool true) := by rw [he0]; simp
          subst he
          clear he0
          have hms := msame_any ⟨a1, a2, a3, a4, a5, a6, a7, a8, a9, a10, a11, a12, a13, a14, a15, a16⟩ ⟨a1, a2, a3, a4, a5, a6, a7, a8, a9, a10, a11, a12, a13, a14, a15, a16⟩ A8 A9 A1 A2 c8 c9 c1 c2 W8.heap.size (W8.drewN n9) (S8.more hb8.size) (S9.more hb8.size) ((h1.below B8).more B8.size) ((h2.below B8).more B8.size) k1 k2 k1 k2 (Nat.le_refl _)
          rw [(Msg.eqb_iff _ _).2 rfl] at hms
          have HMS2 := Lib.hid hms
          clear hms HSM
          go_wp2_with fail
          refine HMS2.out.mono ?_
          rintro e W10 ⟨rfl, hb10⟩
          go_wp2
          go_ret
          exact ⟨rfl, (bdrewN B8 n9).trans (hb10.mono B8.size)⟩
end Go.Proofs.YtadflbeniccfeaaDoor
