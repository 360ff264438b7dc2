/- tidelinelaw02.CheckSums: the walk. -/
import Derived.Test.YtocifijoogeafaaDoorRput
namespace Go.Proofs.YtocifijoogeafaaDoor
open Go.RowKit
set_option linter.unusedVariables false

/-- What is ahead of a sum, and the error's number. -/
def uw (a : List UInt8) : List UInt8 × Int :=
  if a.length < 4 then ([], 3) else if beVal (a.drop (a.length - 4)) = more 0 (a.take (a.length - 4)) then (a.take (a.length - 4), 0) else ([], 3)
/-- An Unwrap's outcome. -/
def Uni (a : List UInt8) (w : World) (e : Ending) (w' : World) : Prop :=
  (∃ Ax cx, e = .returned (.tuple #[.slice Ax (uw a).1.length cx, .int .i64 (uw a).2]) ∧ Sl w' w'.heap.size Ax (bv (uw a).1)) ∧ Below w.heap.size w w'
theorem uni_of {a : List UInt8} {w : World} {e : Ending} {w' : World} (h4 : ¬ a.length < 4) (h : Unwrapped (a.take (a.length - 4)) (a.drop (a.length - 4)) w e w') : Uni a w e w' := by
  unfold Unwrapped at h
  refine ⟨?_, h.2⟩
  have h1 := h.1
  unfold uw
  rw [if_neg h4]
  split
  · rename_i hq
    rw [if_pos hq] at h1
    obtain ⟨A, c, he, ho⟩ := h1
    exact ⟨A, c, he, Sl.of_own ho⟩
  · rename_i hq
    rw [if_neg hq] at h1
    exact ⟨none, 0, h1, .inl rfl⟩
theorem uni_short {a : List UInt8} {w : World} (h4 : a.length < 4) : Uni a w (.returned (.tuple #[.slice none 0 0, .int .i64 3])) w := by
  have e : uw a = ([], 3) := by unfold uw; rw [if_pos h4]
  unfold Uni
  rw [e]
  exact ⟨⟨none, 0, rfl, .inl rfl⟩, Below.refl _ _⟩
theorem unwrap_uni (A : Option Addr) (c B : Nat) (a : List UInt8) (w : World) (hT : Tab w) (h : Sl w B A (bv a)) (hc : a.length ≤ c) (hl : a.length ≤ 1099511627776) (hB : B ≤ w.heap.size) :
    Calls Tryd.prog 9 #[.slice A a.length c] w fun e w' => Uni a w e w' := by
  by_cases h4 : a.length < 4
  · refine (unwrap_short A c a w h4).mono ?_
    rintro e w' ⟨rfl, rfl⟩
    exact uni_short h4
  · have hn : a.length = (a.length - 4) + 4 := by omega
    have hcc := unwrap_ok A c B (a.length - 4) (a.take (a.length - 4)) (a.drop (a.length - 4)) w hT (by rw [List.take_append_drop]; exact h) (by rw [List.length_drop]; omega) (by rw [List.length_take]; omega) (by omega) (by omega) hB
    rw [← hn] at hcc
    exact hcc.mono fun e w' hu => uni_of h4 hu
theorem runwrap_uni (A : Option Addr) (c B : Nat) (a : List UInt8) (w : World) (h : Sl w B A (bv a)) (hc : a.length ≤ c) (hl : a.length ≤ 1099511627776) (hB : B ≤ w.heap.size) :
    Calls Tryd.prog 10 #[.slice A a.length c] w fun e w' => Uni a w e w' := by
  by_cases h4 : a.length < 4
  · refine (runwrap_short A c a w h4).mono ?_
    rintro e w' ⟨rfl, rfl⟩
    exact uni_short h4
  · have hn : a.length = (a.length - 4) + 4 := by omega
    have hcc := runwrap_ok A c B (a.length - 4) (a.take (a.length - 4)) (a.drop (a.length - 4)) w (by rw [List.take_append_drop]; exact h) (by rw [List.length_drop]; omega) (by rw [List.length_take]; omega) (by omega) (by omega) hB
    rw [← hn] at hcc
    exact hcc.mono fun e w' hu => uni_of h4 hu
theorem uw_len (a : List UInt8) (h : a.length ≤ 2000) : (uw a).1.length ≤ maxLen := by
  unfold uw maxLen
  split
  · simp
  · split
    · rw [List.length_take]; omega
    · simp

set_option maxRecDepth 100000 in
set_option maxHeartbeats 4000000 in
theorem sums_walk (A1 A2 : Option Addr) (c1 c2 : Nat) (a b : List UInt8) (w : World) (hT : Tab w) (h1 : Sl w w.heap.size A1 (bv a)) (h2 : Sl w w.heap.size A2 (bv b)) (n1 : A1 = none → c1 = 0) (n2 : A2 = none → c2 = 0) (k1 : a.length ≤ c1) :
    Calls Tryd.prog 4 #[.slice A1 a.length c1, .slice A2 b.length c2] w fun e w' => e = .returned (.bool true) ∧ Below w.heap.size w w' := by
  have N1 := Lib.hid n1
  have N2 := Lib.hid n2
  have K1 := Lib.hid k1
  clear n1 n2 k1
  go_enter Tryd.func4, Tryd.ntmps4
  go_wp2_with fail
  refine (cspeak_any w hT).mono ?_
  rintro e W0 ⟨rfl, B0⟩
  by_cases t1 : (2000 : Int) < (a.length : Int)
  · go_wp2_with fail
    go_ret
    exact ⟨rfl, B0⟩
  · by_cases t2 : (2000 : Int) < (b.length : Int)
    · go_wp2_with fail
      go_ret
      exact ⟨rfl, B0⟩
    · have L1 : Hid (a.length ≤ 2000) := by show _ ≤ _; omega
      have L2 : Hid (b.length ≤ 2000) := by show _ ≤ _; omega
      have L11 : Hid (0 + a.length ≤ 70368744177664) := by show _ ≤ _; omega
      have L12 : Hid (0 + a.length + b.length ≤ 70368744177664) := by show _ ≤ _; omega
      go_wp2_with
        (first
          | (at_builtin; refine wpList_append_bytes rfl _ _ rfl W2.heap.size _ 0 [] rfl (World.ownsRow_made W2 #[] 0 (Nat.le_refl _) (Nat.zero_le _) rfl) A1 c1 w.heap.size a rfl N1.out (h1.below (B3.alloc B3.size _)) L11.out (by simp) ?_; intro v3 W3 ho3 hb3)
          | (at_builtin; refine wpList_append_bytes rfl _ _ rfl w.heap.size v1 _ a rfl ho1 A2 c2 w.heap.size b rfl N2.out (h2.below B2) L12.out B2.size ?_; intro v2 W2 ho2 hb2; have B3 := B2.trans hb2)
          | (at_builtin; refine wpList_append_bytes rfl _ _ rfl w.heap.size _ 0 [] rfl (World.ownsRow_made W0 #[] 0 (B0.size) (Nat.zero_le _) rfl) A1 c1 w.heap.size a rfl N1.out (h1.below (B0.alloc B0.size _)) L11.out (B0.alloc B0.size _).size ?_; intro v1 W1 ho1 hb1; have B2 := (B0.alloc B0.size _).trans hb1))
      have hb30 : Below W2.heap.size W2 W3 := ((Below.refl _ W2).alloc (Nat.le_refl _) _).trans hb3
      have B4 := B3.trans (hb30.mono B3.size)
      have HO2 := (Fr.of_below (M := fun _ => False) hb30).owns ho2 (fun _ _ x => x)
      rw [Nat.zero_add, List.nil_append] at ho3
      rw [Nat.zero_add, ← List.length_append] at HO2
      obtain ⟨X2, x2, rfl⟩ := own_form HO2
      obtain ⟨X3, x3, rfl⟩ := own_form ho3
      have hx3 : a.length ≤ x3 := by
        rcases ho3.2 with ⟨e, h0⟩ | ⟨g', cap', cur, e, q1, q2, q3, _⟩
        · omega
        · injection e with e1 e2 e3
          omega
      have S1 := Lib.hid h1
      have S2 := Lib.hid h2
      have SB := Lib.hid (Sl.of_own HO2)
      have HT4 := Lib.hid hT
      have M1 : Hid (a.length ≤ maxLen) := by show _ ≤ _; have := L1.out; unfold maxLen; omega
      have M2 : Hid (b.length ≤ maxLen) := by show _ ≤ _; have := L2.out; unfold maxLen; omega
      refine (unwrap_uni X3 x3 W3.heap.size a W3 (hT.below hT.1 B4) (Sl.of_own ho3) hx3 (by have := L1.out; omega) (Nat.le_refl _)).mono ?_
      rintro e W5 ⟨⟨Ax, cx, rfl, hsx⟩, hb5⟩
      have B5 := B4.trans (hb5.mono B4.size)
      have SB5 := Lib.hid ((SB.out.below hb5).more hb5.size)
      obtain ⟨L, hL⟩ : ∃ L, (uw a).1 = L := ⟨_, rfl⟩
      obtain ⟨kk, hkk⟩ : ∃ kk, (uw a).2 = kk := ⟨_, rfl⟩
      have HLL : Hid (L.length ≤ maxLen) := by show _ ≤ _; rw [← hL]; exact uw_len a L1.out
      rw [hL] at hsx
      rw [hL, hkk]
      have HL := Lib.hid hL
      have HK := Lib.hid hkk
      have SX := Lib.hid hsx
      clear hL hkk hsx ho1 ho2 ho3 hb1 hb2 hb3 HO2 hb30 h1 h2 hT SB hb5 B2 B3 B0
      go_wp2_with fail
      refine (runwrap_uni A1 c1 w.heap.size a W5 (S1.out.below B5) K1.out (by have := L1.out; omega) B5.size).mono ?_
      rintro e W6 ⟨⟨Ay, cy, rfl, hsy⟩, hb6⟩
      have B6 := B5.trans (hb6.mono B5.size)
      have SB6 := Lib.hid ((SB5.out.below hb6).more hb6.size)
      have SX6 := Lib.hid ((SX.out.below hb6).more hb6.size)
      rw [HL.out] at hsy
      rw [HL.out, HK.out]
      have SY := Lib.hid hsy
      have HT6 := Lib.hid (HT4.out.below HT4.out.1 B6)
      clear hsy hb6 SB5 SX
      go_wp2_with fail
      refine (sum_any A1 c1 w.heap.size a W6 HT6.out (S1.out.below B6) M1.out).mono ?_
      rintro e w' ⟨rfl, rfl⟩
      go_wp2_with fail
      refine (rsum_any A1 c1 w.heap.size a _ (S1.out.below B6) (by have := L1.out; omega)).mono ?_
      rintro e w' ⟨rfl, rfl⟩
      go_wp2_with fail
      refine (rsum_any A1 c1 w.heap.size a _ (S1.out.below B6) (by have := L1.out; omega)).mono ?_
      rintro e w' ⟨rfl, rfl⟩
      go_wp2_with fail
      refine (more_any _ (more_lt _ _) A2 c2 w.heap.size b _ HT6.out (S2.out.below B6) M2.out).mono ?_
      rintro e w' ⟨he, rfl⟩
      rw [more_app] at he
      subst he
      go_wp2_with fail
      have hrb := rsum_any X2 x2 _ (a ++ b) _ SB6.out (by rw [List.length_append]; have := L1.out; have := L2.out; omega)
      rw [List.length_append] at hrb
      refine hrb.mono ?_
      clear hrb
      rintro e w' ⟨rfl, rfl⟩
      go_wp2_with fail
      refine (wrap_ok A1 c1 w.heap.size a _ HT6.out (S1.out.below B6) N1.out (by have := L1.out; omega) B6.size).mono ?_
      rintro e W7 ⟨⟨A7, c7, rfl, ho7⟩, hb7⟩
      have B7 := B6.trans (hb7.mono B6.size)
      have S7 := Lib.hid (Sl.of_own ho7)
      have SX7 := Lib.hid ((SX6.out.below hb7).more hb7.size)
      have SY7 := Lib.hid ((SY.out.below hb7).more hb7.size)
      have hwl : (wrapped a).length = a.length + 4 := wrapped_len a
      rw [hwl]
      clear ho7 hb7 SX6 SY
      go_wp2_with fail
      refine (rwrap_ok A1 c1 w.heap.size a W7 (S1.out.below B7) N1.out (by have := L1.out; omega) B7.size).mono ?_
      rintro e W8 ⟨⟨A8, c8, rfl, ho8⟩, hb8⟩
      have B8 := B7.trans (hb8.mono B7.size)
      have S8 := Lib.hid (Sl.of_own ho8)
      have S78 := Lib.hid ((S7.out.below hb8).more hb8.size)
      have SX8 := Lib.hid ((SX7.out.below hb8).more hb8.size)
      have SY8 := Lib.hid ((SY7.out.below hb8).more hb8.size)
      rw [hwl]
      have M3 : Hid ((wrapped a).length ≤ maxLen) := by show _ ≤ _; rw [hwl]; have := L1.out; unfold maxLen; omega
      have hsm := same_any A7 A8 c7 c8 W8.heap.size (wrapped a) (wrapped a) W8 S78.out S8.out M3.out M3.out
      rw [hwl] at hsm
      have HSM := Lib.hid hsm
      clear ho8 hb8 SX7 SY7 S7 hsm
      go_wp2_with fail
      refine HSM.out.mono ?_
      rintro e W9 ⟨he, n9, rfl⟩
      have he : e = .returned (.bool true) := by rw [he]; simp
      subst he
      go_wp2_with fail
      refine (same_any Ax Ay cx cy W8.heap.size L L (W8.drewN n9) (SX8.out.drewN _) (SY8.out.drewN _) HLL.out HLL.out).mono ?_
      rintro e W9 ⟨he, n10, rfl⟩
      have he : e = .returned (.bool true) := by rw [he]; simp
      subst he
      go_wp2_with fail
      go_ret
      exact ⟨rfl, bdrewN B8 (n9 + n10)⟩
end Go.Proofs.YtocifijoogeafaaDoor
