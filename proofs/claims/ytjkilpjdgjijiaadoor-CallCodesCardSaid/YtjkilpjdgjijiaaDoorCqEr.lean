/- tidelineref05.Encode. -/
import Derived.Test.YtjkilpjdgjijiaaDoorCqE
import Derived.Deep.CutRange
import Derived.Deep.RegionLaw
namespace Go.Proofs.YtjkilpjdgjijiaaDoor
open Go.RowKit
set_option linter.unusedVariables false

set_option maxRecDepth 100000 in
set_option maxHeartbeats 8000000 in
theorem rcqenc_ok (x : Cq) (A1 : Option Addr) (c1 B : Nat) (w : World) (h1 : Sl w B A1 (bv x.d)) (n1 : A1 = none → c1 = 0) (hB : B ≤ w.heap.size) (z1 : x.p.size ≤ 1000000) (z2 : x.o.size ≤ 1000000) (z3 : x.d.length ≤ 1000000) :
    Calls Tryd.prog 17 #[x.val A1 c1] w fun e w' => NewBytes w.heap.size (wrapped (encCq x)) e w' ∧ Below w.heap.size w w' := by
  obtain ⟨E, hE⟩ : ∃ E, encCq x = E := ⟨_, rfl⟩
  rw [hE]
  have HE := Lib.hid hE
  have HN1 := Lib.hid n1
  clear hE n1
  obtain ⟨a1, a2, a3, a4, a5, a6⟩ := x
  have z3 : a6.length ≤ 1000000 := z3
  obtain ⟨t2, ht2⟩ : ∃ l, a2.data.toList = l := ⟨_, rfl⟩
  obtain ⟨t3, ht3⟩ : ∃ l, a3.data.toList = l := ⟨_, rfl⟩
  have z1 : t2.length ≤ 1000000 := by rw [← ht2, size_list]; exact z1
  have z2 : t3.length ≤ 1000000 := by rw [← ht3, size_list]; exact z2
  have HS2 := Lib.hid ht2
  have HS3 := Lib.hid ht3
  have k1 := byte_conv a1
  clear ht2 ht3
  go_enter Tryd.func17, Tryd.ntmps17
  go_wp2_with fail
  have hbx : Blk (w.alloc (.cells #[.int .i64 a1, .string a2, .string a3, .int .i64 a4, .int .i64 a5, .slice A1 a6.length c1] 26)) w.heap.size #[.int .i64 a1, .string a2, .string a3, .int .i64 a4, .int .i64 a5, .slice A1 a6.length c1] := Blk.new w _ _
  have hbx0 := hbx.alloc (.cells #[.int .u8 ((b8 a1).toNat : Int)] 5)
  obtain ⟨n0, hn0⟩ : ∃ n0, w.heap.size + 1 = n0 := ⟨_, rfl⟩
  have hbn : w.heap.size < n0 := by omega
  have hB1 : B ≤ n0 := by omega
  have hwn : w.heap.size ≤ n0 := by omega
  have hy := heap_alloc_new (w.alloc (.cells #[.int .i64 a1, .string a2, .string a3, .int .i64 a4, .int .i64 a5, .slice A1 a6.length c1] 26)) (.cells #[.int .u8 ((b8 a1).toNat : Int)] 5)
  have Bk0 : Below w.heap.size w ((w.alloc (.cells #[.int .i64 a1, .string a2, .string a3, .int .i64 a4, .int .i64 a5, .slice A1 a6.length c1] 26)).alloc (.cells #[.int .u8 ((b8 a1).toNat : Int)] 5)) := ((Below.refl _ _).alloc (Nat.le_refl _) _).alloc (by simp) _
  rw [World.size_alloc] at hy
  have hs0 : n0 ≤ ((w.alloc (.cells #[.int .i64 a1, .string a2, .string a3, .int .i64 a4, .int .i64 a5, .slice A1 a6.length c1] 26)).alloc (.cells #[.int .u8 ((b8 a1).toNat : Int)] 5)).heap.size := by simp; omega
  obtain ⟨w0, hw0⟩ : ∃ X, (w.alloc (.cells #[.int .i64 a1, .string a2, .string a3, .int .i64 a4, .int .i64 a5, .slice A1 a6.length c1] 26)).alloc (.cells #[.int .u8 ((b8 a1).toNat : Int)] 5) = X := ⟨_, rfl⟩
  rw [hw0] at hbx0 hy Bk0 hs0 ⊢
  rw [hn0] at hy ⊢
  obtain ⟨l0, hl0⟩ : ∃ l, [b8 a1] = l := ⟨_, rfl⟩
  have hn0' : l0.length ≤ 1 := by rw [← hl0]; simp
  have HO0 : Hid (Own w0 n0 (.slice (some ⟨n0, 0, none⟩) 1 1) l0) := by
    rw [← hl0]
    exact ⟨rfl, .inr ⟨n0, 1, _, rfl, Nat.le_refl _, hy, by simp, by decide, rfl, rfl⟩⟩
  obtain ⟨v0, hv0⟩ : ∃ v, Value.slice (some ⟨n0, 0, none⟩) 1 1 = v := ⟨_, rfl⟩
  rw [hv0] at HO0 ⊢
  have HL0 := Lib.hid hl0
  have hc0 := hbx0.cell
  clear hw0 hn0 hl0 hv0 hy hbx k1
  refine (rtext_own HO0.out a2 t2 HS2.out (by omega) hs0).mono ?_
  rintro e w1 ⟨v1, rfl, ho1, hb1⟩
  obtain ⟨l1, hl1⟩ : ∃ l, l0 ++ lenBytes t2 = l := ⟨_, rfl⟩
  have hn1 : l1.length ≤ l0.length + (4 + t2.length) := app_len hl1 (lenBytes_len _)
  rw [hl1] at ho1
  have HL1 := Lib.hid hl1
  have HO1 := Lib.hid ho1
  have hbx1 := hbx0.below hb1 hbn
  have hc1 := hbx1.cell
  have hs1 : n0 ≤ w1.heap.size := Nat.le_trans hs0 hb1.size
  have Bk1 := Bk0.trans (hb1.mono hwn)
  clear hl1 ho1 hb1 hs0 hc0 hbx0
  go_wp2_with fail
  refine (rtext_own HO1.out a3 t3 HS3.out (by omega) hs1).mono ?_
  rintro e w2 ⟨v2, rfl, ho2, hb2⟩
  obtain ⟨l2, hl2⟩ : ∃ l, l1 ++ lenBytes t3 = l := ⟨_, rfl⟩
  have hn2 : l2.length ≤ l1.length + (4 + t3.length) := app_len hl2 (lenBytes_len _)
  rw [hl2] at ho2
  have HL2 := Lib.hid hl2
  have HO2 := Lib.hid ho2
  have hbx2 := hbx1.below hb2 hbn
  have hc2 := hbx2.cell
  have hs2 : n0 ≤ w2.heap.size := Nat.le_trans hs1 hb2.size
  have Bk2 := Bk1.trans (hb2.mono hwn)
  clear hl2 ho2 hb2 hs1 hc1 hbx1
  go_upto_region 4 with fail
  go_cut [3] from 16 to 22 (fun sv wx => Hid (Own wx n0 sv (l2 ++ (beBytes (u64of a4) 8 ++ beBytes (u64of a5) 8))) ∧ Hid (Below n0 w2 wx))
  case first =>
    have HCA := Lib.hid (rint_own (HO2.out.below (Below.refl w2.heap.size w2).drew) a4 (by omega) (show n0 ≤ w2.drew.heap.size from hs2))
    go_region_law
      (first
        | (go_simp; go_at_call 45; ((with_reducible refine HCA.out.mono ?_); rintro e q1 ⟨y1, rfl, hy1, hbq1⟩; have HCB := Lib.hid (rint_own hy1 a5 (by rw [List.length_append, be_len]; omega) (Nat.le_trans hs2 hbq1.size)); have hcq := (hbx2.drew.below hbq1 hbn).cell; have hsq := Nat.le_trans hs2 hbq1.size))
        | (go_simp; go_at_call 45; ((with_reducible refine HCB.out.mono ?_); rintro e q2 ⟨y2, rfl, hy2, hbq2⟩)))
    all_goals
      go_wp2
      go_meet
      exact ⟨by rw [← List.append_assoc]; exact hy2, (Below.refl n0 w2).drew.trans (hbq1.trans hbq2)⟩
  case rest =>
    obtain ⟨HOC, HBC⟩ := hcut
    obtain ⟨v3, hv3⟩ : ∃ v, v = u3 := ⟨_, rfl⟩
    obtain ⟨w3, hw3⟩ : ∃ W, W = wc := ⟨_, rfl⟩
    subst hv3 hw3
    have ho3 := HOC.out
    have hb3 := HBC.out
    clear HOC HBC
    obtain ⟨l3, hl3⟩ : ∃ l, l2 ++ (beBytes (u64of a4) 8 ++ beBytes (u64of a5) 8) = l := ⟨_, rfl⟩
    have hn3 : l3.length ≤ l2.length + (16) := app_len hl3 (by rw [List.length_append, be_len, be_len])
    rw [hl3] at ho3
    have HL3 := Lib.hid hl3
    have HO3 := Lib.hid ho3
    have hbx3 := hbx2.below hb3 hbn
    have hc3 := hbx3.cell
    have hs3 : n0 ≤ w3.heap.size := Nat.le_trans hs2 hb3.size
    have Bk3 := Bk2.trans (hb3.mono hwn)
    clear hl3 ho3 hb3 hs2 hc2 hbx2
    go_wp2_with fail
    refine (rbytes_own HO3.out A1 c1 B a6 (h1.below (Bk3.mono hB)) HN1.out hB1 (by omega) hs3).mono ?_
    rintro e w4 ⟨v4, rfl, ho4, hb4⟩
    obtain ⟨l4, hl4⟩ : ∃ l, l3 ++ lenBytes a6 = l := ⟨_, rfl⟩
    have hn4 : l4.length ≤ l3.length + (4 + a6.length) := app_len hl4 (lenBytes_len _)
    rw [hl4] at ho4
    have HL4 := Lib.hid hl4
    have HO4 := Lib.hid ho4
    have hbx4 := hbx3.below hb4 hbn
    have hc4 := hbx4.cell
    have hs4 : n0 ≤ w4.heap.size := Nat.le_trans hs3 hb4.size
    have Bk4 := Bk3.trans (hb4.mono hwn)
    clear hl4 ho4 hb4 hs3 hc3 hbx3
    go_wp2_with fail
    obtain ⟨A3, c3, rfl⟩ := HO4.out.form
    refine (rwrap_ok A3 c3 w4.heap.size l4 w4 (Sl.of_own HO4.out) (fun e => by have hh := HO4.out; rw [e] at hh; exact owns_nil0 hh) (by omega) (Nat.le_refl _)).mono ?_
    rintro e w11 ⟨⟨A4, c4, rfl, ho4⟩, hb11⟩
    go_wp2
    go_ret
    have hEq : E = l4 := by
      rw [← HE.out, ← HL4.out, ← HL3.out, ← HL2.out, ← HL1.out, ← HL0.out, ← HS2.out, ← HS3.out]
      simp [encCq, List.append_assoc]
    rw [hEq]
    have hs := Bk4.size
    exact ⟨⟨A4, c4, rfl, own_low ho4 hs⟩, Bk4.trans (hb11.mono hs)⟩
end Go.Proofs.YtjkilpjdgjijiaaDoor
