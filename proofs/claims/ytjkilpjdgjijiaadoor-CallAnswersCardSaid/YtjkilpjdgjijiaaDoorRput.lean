/- tidelineref01.Put of four bytes; tidelineref02.Wrap, Unwrap. -/
import Derived.Test.YtjkilpjdgjijiaaDoorRsum
import Derived.Test.YtjkilpjdgjijiaaDoorTurnP
import Derived.Test.YtjkilpjdgjijiaaDoorAppB
import Derived.Test.YtjkilpjdgjijiaaDoorSame
namespace Go.Proofs.YtjkilpjdgjijiaaDoor
open Go.RowKit
set_option linter.unusedVariables false

set_option maxRecDepth 100000 in
set_option maxHeartbeats 2000000 in
/-- Put(out, x, n): the number's bytes behind what out holds, out being the call's own. -/
theorem put_ok {w : World} {n0 : Nat} {v : Value} {l : List UInt8} (hown : w.ownsRow n0 5 1 v l.length (bv l)) (x n : Nat) (hx : x < 18446744073709551616) (hn : n ≤ 8) (hl : l.length ≤ 70368744177000) (hn0 : n0 ≤ w.heap.size) :
    Calls Tryd.prog 48 #[v, .int .u64 (x : Int), .int .i64 (n : Int)] w fun e w' => ∃ v', e = .returned v' ∧ w'.ownsRow n0 5 1 v' (l.length + n) (bv (l ++ beBytes x n)) ∧ Below n0 w w' := by
  have HO := Lib.hid hown
  have HB0 : Hid (Below n0 w w) := Below.refl _ _
  have hn8 : ¬ ((8 : Int) < (n : Int)) := by omega
  clear hown
  go_enter Tryd.func48, Tryd.ntmps48
  go_wp2_with fail
  go_loopw [0, 7] (fun s0 s wr => ∃ k : Nat, k ≤ n ∧ s = .int .i64 ((n : Int) - 1 - (k : Int)) ∧ Hid (wr.ownsRow n0 5 1 s0 (l.length + k) (bv (l ++ (beBytes x n).take k))) ∧ Hid (Below n0 w wr)) (fun _ s _ => (intOf s + 1).toNat)
  case atStart => exact ⟨0, Nat.zero_le _, by simp, by simpa using HO, HB0⟩
  case round =>
    obtain ⟨k, hk, rfl, ho, hb⟩ := hrel
    clear HO HB0
    obtain ⟨A6, c6, hv6⟩ := own_form ho.out
    subst hv6
    by_cases hlt : k < n
    · have hi : (0 : Int) ≤ (n : Int) - 1 - (k : Int) := by omega
      go_wp2_with fail
      go_loopw [8, 9] (fun s8 s wr' => ∃ j : Nat, j ≤ n - 1 - k ∧ s = .int .i64 (j : Int) ∧ s8 = .int .u64 ((x / 256 ^ j : Nat) : Int) ∧ wr' = wr) (fun _ s _ => (n - 1 - k) - (intOf s).toNat)
      case atStart => exact ⟨0, Nat.zero_le _, rfl, by simp, rfl⟩
      case round =>
        obtain ⟨j, hj, rfl, rfl, rfl⟩ := hrel
        by_cases hlt2 : j < n - 1 - k
        · have hi2 : (j : Int) < (n : Int) - 1 - (k : Int) := by omega
          have hdiv : ((x / 256 ^ j : Nat) : Int) / 256 = ((x / 256 ^ (j + 1) : Nat) : Int) := by
            rw [Nat.pow_succ, ← Nat.div_div_eq_div_mul]
            omega
          obtain ⟨y, hy⟩ : ∃ y, x / 256 ^ j = y := ⟨_, rfl⟩
          have hyl : y < 18446744073709551616 := by rw [← hy]; exact Nat.lt_of_le_of_lt (Nat.div_le_self _ _) hx
          have HD := Lib.hid hdiv
          rw [hy] at HD ⊢
          clear hy hdiv
          go_wp2_with fail
          go_roundw
          case rel => exact ⟨j + 1, by omega, by simp, by first | rw [← HD.out] | (rw [← HD.out]; rfl), trivial⟩
          case measure => simp [intOf]; omega
        · have hj2 : j = n - 1 - k := by omega
          subst hj2
          have hi2 : ¬ (((n - 1 - k : Nat) : Int) < (n : Int) - 1 - (k : Int)) := by omega
          have hkl : k < (beBytes x n).length := by rw [be_len]; exact hlt
          obtain ⟨y, hy⟩ : ∃ y, x / 256 ^ (n - 1 - k) = y := ⟨_, rfl⟩
          obtain ⟨b, hbe⟩ : ∃ b, (beBytes x n)[k] = b := ⟨_, rfl⟩
          have hby : (y : Int) % 256 = (b.toNat : Int) := by
            rw [← hbe, ← be_at x n k hkl, ← hy, Int.natCast_ediv, Int.natCast_pow, Int.pow_mul]
            rfl
          have hb2 : (b.toNat : Int) % 256 = (b.toNat : Int) := by have := b.toNat_lt; omega
          have hnx : l ++ (beBytes x n).take (k + 1) = l ++ (beBytes x n).take k ++ [b] := by rw [List.take_succ_eq_append_getElem hkl, hbe, List.append_assoc]
          have HNX := Lib.hid hnx
          rw [hy]
          have h63 : Hid (l.length + k + 1 ≤ maxLen) := by show _ ≤ _; unfold maxLen; omega
          have hbyt : Hid ((l.length + k + 1) * 1 ≤ 140737488355328) := by show _ ≤ _; omega
          clear hy hbe hnx
          go_wp2_with (at_builtin; obtain ⟨i0, hi, hz0, hz1, hz2⟩ := info_parts Tryd.info_u8; refine wpList_append_own _ rfl _ _ 22 rfl n0 5 i0 _ 1 1 Tryd.underlying22 hi hz0 hz1 hz2 rfl (by decide) (.slice A6 (l.length + k) c6) (l.length + k) (bv (l ++ (beBytes x n).take k)) rfl (ho.out.alloc _) ⟨wr.heap.size, 0, none⟩ 1 1 [.int .u8 (b.toNat : Int)] rfl rfl (World.news_of_block (cs := #[.int .u8 (b.toNat : Int)]) (t := 5) (fr := (0, 0)) (heap_alloc_new wr _)) (by simp [Value.oneCell']) h63.out hbyt.out (by simp; have := hb.out.size; omega) ?_; intro v3 W3 hown3 hgrow3 _; clear hi hz0 hz1 hz2 i0)
          have hb3 : Below n0 wr W3 := ((Below.refl n0 wr).alloc (Nat.le_trans hn0 hb.out.size) _).grown hgrow3 (by simp; have := hb.out.size; omega) (fun q hq => owns_ge (ho.out) q hq)
          go_roundw
          case rel => exact ⟨k + 1, by omega, by simp; omega, Lib.hid (by rw [HNX.out, bv_app]; exact hown3), Lib.hid (hb.out.trans hb3)⟩
          case measure => simp [intOf]; omega
    · have hkn : k = n := by omega
      subst hkn
      have hi : ¬ ((0 : Int) ≤ (k : Int) - 1 - (k : Int)) := by omega
      have hfin := ho.out
      rw [List.take_of_length_le (by rw [be_len]; exact Nat.le_refl _)] at hfin
      have HF := Lib.hid hfin
      clear hfin
      go_wp2_with fail
      go_ret
      exact ⟨_, rfl, HF.out, hb.out⟩

set_option maxHeartbeats 1000000 in
theorem rwrap_ok (A : Option Addr) (c B : Nat) (b : List UInt8) (w : World) (h : Sl w B A (bv b)) (hn : A = none → c = 0) (hl : b.length ≤ 1099511627776) (hB : B ≤ w.heap.size) :
    Calls Tryd.prog 47 #[.slice A b.length c] w fun e w' => NewBytes w.heap.size (wrapped b) e w' ∧ Below w.heap.size w w' := by
  have HN := Lib.hid hn
  have HL : Hid (0 + b.length ≤ 70368744177664) := by show _ ≤ _; omega
  have HB := Lib.hid hB
  have B0 := (Below.refl w.heap.size w).alloc (Nat.le_refl _) (.cells #[] 5)
  clear hn
  go_enter Tryd.func47, Tryd.ntmps47
  go_wp2_with (at_builtin; refine wpList_append_bytes rfl _ _ rfl w.heap.size _ 0 [] rfl (World.ownsRow_made w #[] 0 (Nat.le_refl _) (Nat.zero_le _) rfl) A c B b rfl HN.out (h.alloc HB.out _) HL.out B0.size ?_; intro v1 W1 ho1 hb1)
  have B1 := B0.trans hb1
  rw [Nat.zero_add, List.nil_append] at ho1
  refine (rsum_any A c B b W1 (h.below (B1.mono hB)) (by omega)).mono ?_
  rintro e w' ⟨rfl, rfl⟩
  obtain ⟨s, hs⟩ : ∃ s, more 0 b = s := ⟨_, rfl⟩
  have hsl : s < 4294967296 := by rw [← hs]; exact more_lt _ _
  rw [hs]
  have hcv : IntKind.u64.wrap (s : Int) = (s : Int) := by rw [IntKind.wrap_u64]; omega
  go_wp2_with fail
  refine (put_ok ho1 s 4 (by omega) (by decide) (by omega) B1.size).mono ?_
  rintro e w2 ⟨v2, rfl, hown, hb2⟩
  obtain ⟨A2, c2, rfl⟩ := own_form hown
  go_wp2
  go_ret
  have e1 : (wrapped b).length = b.length + 4 := wrapped_len b
  have e2 : b ++ beBytes s 4 = wrapped b := by rw [← hs]; rfl
  rw [e2] at hown
  exact ⟨⟨A2, c2, by rw [e1]; rfl, by rw [e1]; exact hown⟩, B1.trans hb2⟩

theorem runwrap_short (A : Option Addr) (c : Nat) (b : List UInt8) (w : World) (hl : b.length < 4) :
    Calls Tryd.prog 29 #[.slice A b.length c] w fun e w' => e = .returned (.tuple #[.slice none 0 0, .int .i64 3]) ∧ w' = w := by
  have h1 : ((b.length : Nat) : Int) - 4 < 0 := by omega
  have h2 : ((b.length : Nat) : Int) < 4 := by omega
  go_enter Tryd.func29, Tryd.ntmps29
  go_wp2
  go_ret2
  exact ⟨rfl, rfl⟩

theorem wrapped_eq (a s : List UInt8) (hs : s.length = 4) : (wrapped a = a ++ s) ↔ beVal s = more 0 a := by
  constructor
  · intro h
    have h1 : beBytes (more 0 a) 4 = s := List.append_cancel_left h
    rw [← h1, beVal_be _ (more_lt _ _)]
  · intro h
    have h1 : beBytes (more 0 a) 4 = s := beVal_inj _ _ (by rw [be_len, hs]) (by rw [beVal_be _ (more_lt _ _), h])
    rw [← h1]
    rfl

set_option maxRecDepth 100000 in
set_option maxHeartbeats 2000000 in
theorem runwrap_ok (A : Option Addr) (c B n : Nat) (a s : List UInt8) (w : World) (h : Sl w B A (bv (a ++ s))) (hs : s.length = 4) (ha : a.length = n) (hc : n + 4 ≤ c) (hl : n ≤ 1099511627776) (hB : B ≤ w.heap.size) :
    Calls Tryd.prog 29 #[.slice A (n + 4) c] w fun e w' => Unwrapped a s w e w' := by
  obtain ⟨b, o, rfl, hb, hk⟩ : ∃ b o, A = some ⟨b, o, none⟩ ∧ b < B ∧ ∀ k u, (bv (a ++ s))[k]? = some u → w.cell? ⟨b, o + k, none⟩ = some u := by
    rcases h with h | ⟨b, o, e, hb, hk⟩
    · have := congrArg List.length h
      rw [bv_len, List.length_append, hs] at this
      simp at this
    · exact ⟨b, o, e, hb, hk⟩
  have S0 := Lib.hid h
  have S1 : Hid (Sl w B (some ⟨b, o, none⟩) (bv a)) := .inr ⟨b, o, rfl, hb, fun k u hu => hk k u (by rw [bv_app, List.getElem?_append_left (Array.getElem?_eq_some_iff.1 (by simpa using hu : (bv a).toArray[k]? = some u)).1]; exact hu)⟩
  have h1 : ¬ ((((n + 4 : Nat) : Int)) - 4 < 0) := by omega
  have h3 : (n : Int) ≤ (c : Int) := by omega
  have HS := Lib.hid hs
  have HA := Lib.hid ha
  have HL := Lib.hid hl
  have HB := Lib.hid hB
  clear h hk hs ha
  go_enter Tryd.func29, Tryd.ntmps29
  go_wp2_with fail
  have hw := rwrap_ok (some ⟨b, o, none⟩) c B a w S1.out (by simp) (by rw [HA.out]; exact HL.out) HB.out
  rw [HA.out] at hw
  refine hw.mono ?_
  clear hw
  rintro e w1 ⟨⟨A1, c1, rfl, hown⟩, hb1⟩
  have hwl : (wrapped a).length = n + 4 := by rw [wrapped_len, HA.out]
  have hsame := same_any A1 (some ⟨b, o, none⟩) c1 c w1.heap.size (wrapped a) (a ++ s) w1 (Sl.of_own hown) ((S0.out.below (hb1.mono HB.out)).more (Nat.le_trans HB.out hb1.size)) (by rw [hwl]; unfold maxLen; omega) (by rw [List.length_append, HS.out, HA.out]; unfold maxLen; omega)
  rw [hwl, show (a ++ s).length = n + 4 by rw [List.length_append, HS.out, HA.out]] at hsame
  rw [hwl]
  obtain ⟨q, hq⟩ : ∃ q, decide (wrapped a = a ++ s) = q := ⟨_, rfl⟩
  rw [hq] at hsame
  have HSA := Lib.hid hsame
  have HQ := Lib.hid hq
  clear hsame hown hwl hq
  go_wp2_with fail
  refine HSA.out.mono ?_
  rintro e w2 ⟨rfl, nq, rfl⟩
  have B2 := bdrewN hb1 nq
  cases q
  · go_wp2_with fail
    go_ret2
    refine ⟨?_, B2⟩
    rw [if_neg (fun h => by have := of_decide_eq_false HQ.out; exact this ((wrapped_eq a s HS.out).2 h))]
    rfl
  · have S2 : Hid (Sl ((w1.drewN nq).alloc (.cells #[] 5)) B (some ⟨b, o, none⟩) (bv a)) := (S1.out.below (B2.mono HB.out)).alloc (Nat.le_trans HB.out B2.size) _
    have L0 : Hid (0 + a.length ≤ 70368744177664) := by show _ ≤ _; rw [HA.out]; have := HL.out; omega
    have HAN : Hid (a.length = n) := HA.out
    have B3 := B2.alloc B2.size (.cells #[] 5)
    go_wp2_with (at_builtin; refine wpList_append_bytes rfl _ _ rfl w.heap.size _ 0 [] rfl (World.ownsRow_made (w1.drewN nq) #[] 0 B2.size (Nat.zero_le _) rfl) (some ⟨b, o, none⟩) c B a (by rw [HAN.out]; rfl) (by simp) S2.out L0.out B3.size ?_; intro v1 W1 ho1 hb4)
    rw [Nat.zero_add, List.nil_append] at ho1
    obtain ⟨A4, c4, rfl⟩ := own_form ho1
    go_ret2
    refine ⟨?_, B3.trans hb4⟩
    rw [if_pos ((wrapped_eq a s HS.out).1 (of_decide_eq_true HQ.out))]
    exact ⟨A4, c4, rfl, ho1⟩
end Go.Proofs.YtjkilpjdgjijiaaDoor
