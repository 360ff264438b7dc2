/- tidelineref12.Decode. -/
import Derived.Test.YtadflbeniccfeaaDoorRpcD
import Derived.Test.YtadflbeniccfeaaDoorRrc
namespace Go.Proofs.YtadflbeniccfeaaDoor
open Go.RowKit
set_option linter.unusedVariables false

theorem RR.rb {w : World} {g : Nat} {s : PS} (h : RR w g s) : ∃ xs, w.heap[g]? = some (.cells xs 139 (0, 0)) := by
  obtain ⟨A, c, l, a, q, h1, -⟩ := h
  exact ⟨_, h1.blk⟩
theorem DSt.drawn {T Q : TypeId} {w0 ws : World} {gz g gm : Nat} {zc mc : Array Value} {s : PS} (h : DSt T Q RR w0 ws gz g gm zc mc s) (n : Nat) : DSt T Q RR w0 (ws.drewN n) gz g gm zc mc s :=
  ⟨h.rd.below (bdrewN_refl _ _ n), h.rb, h.hx, h.hz, bdrewN h.bk n, h.ge, h.ne, h.tq⟩
set_option maxHeartbeats 1000000 in
theorem node_ok (x : Nat) (hx : x < 256) (w : World) : Calls Tryd.prog 100 #[.int .u64 (x : Int)] w fun e w' => e = .returned (.int .i64 (i8of x)) ∧ w' = w := by
  obtain ⟨y, hy⟩ : ∃ y, i8of x = y := ⟨_, rfl⟩
  rw [hy]
  have HY := Lib.hid hy
  clear hy
  by_cases h : 127 < x
  · have h1 : (127 : Int) < (x : Int) := by omega
    have h2 := nat_conv x (by omega)
    go_enter Tryd.func100, Tryd.ntmps100
    go_wp2
    go_ret
    exact ⟨ret_int (by rw [← HY.out]; unfold i8of; rw [if_pos h]), rfl⟩
  · have h1 : ¬ ((127 : Int) < (x : Int)) := by omega
    have h2 := nat_conv x (by omega)
    go_enter Tryd.func100, Tryd.ntmps100
    go_wp2
    go_ret
    exact ⟨ret_int (by rw [← HY.out]; unfold i8of; rw [if_neg h]), rfl⟩

set_option maxRecDepth 100000 in
set_option maxHeartbeats 8000000 in
theorem rrpcdec_some (A : Option Addr) (c B : Nat) (b a : List UInt8) (w : World) (h : Sl w B A (bv b)) (hc : b.length ≤ c) (hl : b.length ≤ 1099511627776) (hB : B ≤ w.heap.size) (hu : unw b = some a) :
    Calls Tryd.prog 39 #[.slice A b.length c] w fun e w' => Decd (decMsg a) w e w' := by
  have HU := Lib.hid hu
  have HC := Lib.hid hc
  obtain ⟨E, hE⟩ : ∃ E, decMsg a = E := ⟨_, rfl⟩
  have hal := unw_len hu
  rw [hE]
  have HE := Lib.hid hE
  clear hu hE hc
  go_enter Tryd.func39, Tryd.ntmps39
  go_wp2_with fail
  have B0 := (Below.refl w.heap.size w).alloc (Nat.le_refl _) (.cells #[.int .i64 0, .int .i64 0, .int .i64 0, .bool false, .int .i64 0, .int .i64 0, .int .i64 0, .int .i64 0, .slice none 0 0, .int .i64 0, .int .i64 0, .slice none 0 0, .int .i64 0, .int .i64 0, .int .i64 0, .int .i64 0] 68)
  have hz0 := heap_alloc_new w (.cells #[.int .i64 0, .int .i64 0, .int .i64 0, .bool false, .int .i64 0, .int .i64 0, .int .i64 0, .int .i64 0, .slice none 0 0, .int .i64 0, .int .i64 0, .slice none 0 0, .int .i64 0, .int .i64 0, .int .i64 0, .int .i64 0] 68)
  obtain ⟨X, hX⟩ : ∃ X, w.alloc (.cells #[.int .i64 0, .int .i64 0, .int .i64 0, .bool false, .int .i64 0, .int .i64 0, .int .i64 0, .int .i64 0, .slice none 0 0, .int .i64 0, .int .i64 0, .slice none 0 0, .int .i64 0, .int .i64 0, .int .i64 0, .int .i64 0] 68) = X := ⟨_, rfl⟩
  obtain ⟨gz, hgz⟩ : ∃ gz, w.heap.size = gz := ⟨_, rfl⟩
  have hgz0 : gz < X.heap.size := by rw [← hX, ← hgz]; simp
  rw [hX] at B0 hz0 ⊢
  rw [hgz] at hz0 ⊢
  have HGZ := Lib.hid hgz
  have hs0 := B0.size
  clear hX hgz
  refine (runwrap_any A c B b X (h.below (B0.mono hB)) HC.out hl (Nat.le_trans hB hs0)).mono ?_
  rintro e w1 ⟨⟨A1, c1, he, ho⟩, hb1⟩
  rw [HU.out] at he ho
  have he : e = .returned (.tuple #[.slice A1 a.length c1, .int .i64 0]) := he
  subst he
  have B1 := B0.trans (hb1.mono hs0)
  have hz1 : w1.heap[gz]? = _ := (hb1.block gz hgz0).trans hz0
  have HO := Lib.hid ho
  clear ho
  go_wp2_with fail
  have hbx := (Below.refl w1.heap.size w1).alloc (Nat.le_refl _) (.cells #[.slice A1 a.length c1, .int .i64 0, .bool false] 139)
  have HR : Hid (RR (w1.alloc (.cells #[.slice A1 a.length c1, .int .i64 0, .bool false] 139)) w1.heap.size (some a)) :=
    ⟨A1, c1, a, 0, false, ⟨heap_alloc_new w1 _, Nat.zero_le _, by omega⟩, (RB.of_own HO.out).below hbx, by simp⟩
  have B2 := B1.trans (hbx.mono B1.size)
  have hz2 : (w1.alloc (.cells #[.slice A1 a.length c1, .int .i64 0, .bool false] 139)).heap[gz]? = _ := (hbx.block gz (Array.getElem?_eq_some_iff.1 hz1).1).trans hz1
  have hgw : w.heap.size ≤ w1.heap.size := B1.size
  obtain ⟨w2, hw2⟩ : ∃ X, w1.alloc (.cells #[.slice A1 a.length c1, .int .i64 0, .bool false] 139) = X := ⟨_, rfl⟩
  obtain ⟨g, hg⟩ : ∃ g, w1.heap.size = g := ⟨_, rfl⟩
  rw [hw2] at B2 hz2
  rw [hw2, hg] at HR ⊢
  rw [hg] at hgw
  have hl0 : psLen (some a) ≤ 1099511627776 := by show a.length ≤ _; omega
  have hgzg : gz ≠ g := by have := (Array.getElem?_eq_some_iff.1 hz1).1; omega
  clear hw2 hg hbx hb1 hz0 hz1 B1 B0 HO hs0 hgz0
  obtain ⟨s0, hs0⟩ : ∃ s, some a = s := ⟨_, rfl⟩
  have HS0 := Lib.hid hs0
  rw [hs0] at HR hl0
  clear hs0
  obtain ⟨x1, s1, px1⟩ := isNum 1 s0
  have hx1 : x1 < 256 := px1.lt
  have hl1 := Nat.le_trans px1.len hl0
  have PX1 := Lib.hid px1
  clear px1
  refine (rrnum_is HR.out PX1.out (by decide)).mono ?_
  rintro e u1 ⟨rfl, hr1, hf1⟩
  have HR1 := Lib.hid hr1
  have hzu : u1.heap[gz]? = _ := hf1.cells hz2 hgzg
  have HZU := Lib.hid hzu
  have Bu : Below w.heap.size w u1 := B2.trans (hf1.below B2.size (fun k e => by rw [e]; exact hgw))
  clear hr1 hf1 hz2 hzu B2 HR
  go_wp2_with fail
  refine (node_ok x1 hx1 _).mono ?_
  rintro e u' ⟨rfl, rfl⟩
  go_wp2_with fail
  have HD1 : Hid (DSt 68 139 RR w (u'.alloc (.cells #[.int .i64 (i8of x1), .int .i64 0, .int .i64 0, .bool false, .int .i64 0, .int .i64 0, .int .i64 0, .int .i64 0, .slice none 0 0, .int .i64 0, .int .i64 0, .slice none 0 0, .int .i64 0, .int .i64 0, .int .i64 0, .int .i64 0] 68)) gz g u'.heap.size #[.int .i64 0, .int .i64 0, .int .i64 0, .bool false, .int .i64 0, .int .i64 0, .int .i64 0, .int .i64 0, .slice none 0 0, .int .i64 0, .int .i64 0, .slice none 0 0, .int .i64 0, .int .i64 0, .int .i64 0, .int .i64 0] #[.int .i64 (i8of x1), .int .i64 0, .int .i64 0, .bool false, .int .i64 0, .int .i64 0, .int .i64 0, .int .i64 0, .slice none 0 0, .int .i64 0, .int .i64 0, .slice none 0 0, .int .i64 0, .int .i64 0, .int .i64 0, .int .i64 0] s1) := by
    have hba : Below u'.heap.size u' (u'.alloc (.cells #[.int .i64 (i8of x1), .int .i64 0, .int .i64 0, .bool false, .int .i64 0, .int .i64 0, .int .i64 0, .int .i64 0, .slice none 0 0, .int .i64 0, .int .i64 0, .slice none 0 0, .int .i64 0, .int .i64 0, .int .i64 0, .int .i64 0] 68)) := (Below.refl _ _).alloc (Nat.le_refl _) _
    refine ⟨HR1.out.below hba, (HR1.out.below hba).rb, heap_alloc_new _ _, (hba.block gz ?_).trans HZU.out, Bu.trans (hba.mono Bu.size), Bu.size, ?_, by decide⟩
    · exact (Array.getElem?_eq_some_iff.1 HZU.out).1
    · have := (Array.getElem?_eq_some_iff.1 HZU.out).1; omega
  obtain ⟨ws1, hws1⟩ : ∃ X, u'.alloc (.cells #[.int .i64 (i8of x1), .int .i64 0, .int .i64 0, .bool false, .int .i64 0, .int .i64 0, .int .i64 0, .int .i64 0, .slice none 0 0, .int .i64 0, .int .i64 0, .slice none 0 0, .int .i64 0, .int .i64 0, .int .i64 0, .int .i64 0] 68) = X := ⟨_, rfl⟩
  obtain ⟨gm, hgm⟩ : ∃ gm, u'.heap.size = gm := ⟨_, rfl⟩
  rw [hws1, hgm] at HD1 ⊢
  clear hws1 hgm HR1 HZU Bu
  obtain ⟨x2, s2, px2⟩ := isNum 1 s1
  have hx2 : x2 < 256 := px2.lt
  have hl2 := Nat.le_trans px2.len hl1
  have PX2 := Lib.hid px2
  clear px2
  refine (rrnum_is HD1.out.rd PX2.out (by decide)).mono ?_
  rintro e u2 ⟨rfl, hr2, hf2⟩
  have hbq := Blk.of_heap (HD1.out.box hf2).1
  have hq := hbq.cell
  have hqf := hbq.free
  clear hbq hq hqf
  have HR2 := Lib.hid hr2
  go_wp2_with fail
  refine (node_ok x2 hx2 _).mono ?_
  rintro e u' ⟨rfl, rfl⟩
  have hbq := Blk.of_heap (HD1.out.box hf2).1
  have hq := hbq.cell
  have hqf := hbq.free
  have hd2 : DSt 68 139 RR w (u'.setCell ⟨gm, 1, none⟩ (.int .i64 (i8of x2))) gz g gm _ #[.int .i64 (i8of x1), .int .i64 (i8of x2), .int .i64 0, .bool false, .int .i64 0, .int .i64 0, .int .i64 0, .int .i64 0, .slice none 0 0, .int .i64 0, .int .i64 0, .slice none 0 0, .int .i64 0, .int .i64 0, .int .i64 0, .int .i64 0] s2 := HD1.out.step hr2 hr2.rb hgw hf2 (fun h hb hf => h.far hb (by decide) (by decide) hf) 1 (.int .i64 (i8of x2))
  have HD2 := Lib.hid hd2
  clear hd2 hr2 hbq hf2 HD1
  go_wp2_with fail
  clear hq hqf
  obtain ⟨ws2, hws2⟩ : ∃ W, u'.setCell ⟨gm, 1, none⟩ (.int .i64 (i8of x2)) = W := ⟨_, rfl⟩
  rw [hws2] at HD2 ⊢
  clear hws2
  obtain ⟨x3, s3, px3⟩ := isNum 8 s2
  have hx3 : x3 < 18446744073709551616 := px3.lt
  have hl3 := Nat.le_trans px3.len hl2
  have PX3 := Lib.hid px3
  clear px3
  refine (rrnum_is HD2.out.rd PX3.out (by decide)).mono ?_
  rintro e u3 ⟨rfl, hr3, hf3⟩
  have hbq := Blk.of_heap (HD2.out.box hf3).1
  have hq := hbq.cell
  have hqf := hbq.free
  have hd3 : DSt 68 139 RR w (u3.setCell ⟨gm, 2, none⟩ (.int .i64 (i64of x3))) gz g gm _ #[.int .i64 (i8of x1), .int .i64 (i8of x2), .int .i64 (i64of x3), .bool false, .int .i64 0, .int .i64 0, .int .i64 0, .int .i64 0, .slice none 0 0, .int .i64 0, .int .i64 0, .slice none 0 0, .int .i64 0, .int .i64 0, .int .i64 0, .int .i64 0] s3 := HD2.out.step hr3 hr3.rb hgw hf3 (fun h hb hf => h.far hb (by decide) (by decide) hf) 2 (.int .i64 (i64of x3))
  have HD3 := Lib.hid hd3
  clear hd3 hr3 hbq hf3 HD2
  go_wp2_with fail
  clear hq hqf
  rw [show wrap64 (x3 : Int) = i64of x3 from rfl]
  obtain ⟨ws3, hws3⟩ : ∃ W, u3.setCell ⟨gm, 2, none⟩ (.int .i64 (i64of x3)) = W := ⟨_, rfl⟩
  rw [hws3] at HD3 ⊢
  clear hws3
  obtain ⟨x4, s4, px4⟩ := isFlag s3
  have hl4 := Nat.le_trans px4.len hl3
  have PX4 := Lib.hid px4
  clear px4
  refine (rrflag_is HD3.out.rd PX4.out).mono ?_
  rintro e u4 ⟨rfl, hr4, hf4⟩
  have hbq := Blk.of_heap (HD3.out.box hf4).1
  have hq := hbq.cell
  have hqf := hbq.free
  have hd4 : DSt 68 139 RR w (u4.setCell ⟨gm, 3, none⟩ (.bool x4)) gz g gm _ #[.int .i64 (i8of x1), .int .i64 (i8of x2), .int .i64 (i64of x3), .bool x4, .int .i64 0, .int .i64 0, .int .i64 0, .int .i64 0, .slice none 0 0, .int .i64 0, .int .i64 0, .slice none 0 0, .int .i64 0, .int .i64 0, .int .i64 0, .int .i64 0] s4 := HD3.out.step hr4 hr4.rb hgw hf4 (fun h hb hf => h.far hb (by decide) (by decide) hf) 3 (.bool x4)
  have HD4 := Lib.hid hd4
  clear hd4 hr4 hbq hf4 HD3
  go_wp2_with fail
  clear hq hqf
  obtain ⟨ws4, hws4⟩ : ∃ W, u4.setCell ⟨gm, 3, none⟩ (.bool x4) = W := ⟨_, rfl⟩
  rw [hws4] at HD4 ⊢
  clear hws4
  obtain ⟨x5, s5, px5⟩ := isNum 1 s4
  have hx5 : x5 < 256 := px5.lt
  have hl5 := Nat.le_trans px5.len hl4
  have PX5 := Lib.hid px5
  clear px5
  refine (rrnum_is HD4.out.rd PX5.out (by decide)).mono ?_
  rintro e u5 ⟨rfl, hr5, hf5⟩
  have hbq := Blk.of_heap (HD4.out.box hf5).1
  have hq := hbq.cell
  have hqf := hbq.free
  have hd5 : DSt 68 139 RR w (u5.setCell ⟨gm, 4, none⟩ (.int .i64 (x5 : Int))) gz g gm _ #[.int .i64 (i8of x1), .int .i64 (i8of x2), .int .i64 (i64of x3), .bool x4, .int .i64 (x5 : Int), .int .i64 0, .int .i64 0, .int .i64 0, .slice none 0 0, .int .i64 0, .int .i64 0, .slice none 0 0, .int .i64 0, .int .i64 0, .int .i64 0, .int .i64 0] s5 := HD4.out.step hr5 hr5.rb hgw hf5 (fun h hb hf => h.far hb (by decide) (by decide) hf) 4 (.int .i64 (x5 : Int))
  have HD5 := Lib.hid hd5
  clear hd5 hr5 hbq hf5 HD4
  go_wp2_with fail
  clear hq hqf
  try rw [nat_conv x5 (by omega)]
  obtain ⟨ws5, hws5⟩ : ∃ W, u5.setCell ⟨gm, 4, none⟩ (.int .i64 (x5 : Int)) = W := ⟨_, rfl⟩
  rw [hws5] at HD5 ⊢
  clear hws5
  obtain ⟨x6, s6, px6⟩ := isNum 8 s5
  have hx6 : x6 < 18446744073709551616 := px6.lt
  have hl6 := Nat.le_trans px6.len hl5
  have PX6 := Lib.hid px6
  clear px6
  refine (rrnum_is HD5.out.rd PX6.out (by decide)).mono ?_
  rintro e u6 ⟨rfl, hr6, hf6⟩
  have hbq := Blk.of_heap (HD5.out.box hf6).1
  have hq := hbq.cell
  have hqf := hbq.free
  have hd6 : DSt 68 139 RR w (u6.setCell ⟨gm, 5, none⟩ (.int .i64 (i64of x6))) gz g gm _ #[.int .i64 (i8of x1), .int .i64 (i8of x2), .int .i64 (i64of x3), .bool x4, .int .i64 (x5 : Int), .int .i64 (i64of x6), .int .i64 0, .int .i64 0, .slice none 0 0, .int .i64 0, .int .i64 0, .slice none 0 0, .int .i64 0, .int .i64 0, .int .i64 0, .int .i64 0] s6 := HD5.out.step hr6 hr6.rb hgw hf6 (fun h hb hf => h.far hb (by decide) (by decide) hf) 5 (.int .i64 (i64of x6))
  have HD6 := Lib.hid hd6
  clear hd6 hr6 hbq hf6 HD5
  go_wp2_with fail
  clear hq hqf
  rw [show wrap64 (x6 : Int) = i64of x6 from rfl]
  obtain ⟨ws6, hws6⟩ : ∃ W, u6.setCell ⟨gm, 5, none⟩ (.int .i64 (i64of x6)) = W := ⟨_, rfl⟩
  rw [hws6] at HD6 ⊢
  clear hws6
  obtain ⟨x7, s7, px7⟩ := isNum 8 s6
  have hx7 : x7 < 18446744073709551616 := px7.lt
  have hl7 := Nat.le_trans px7.len hl6
  have PX7 := Lib.hid px7
  clear px7
  refine (rrnum_is HD6.out.rd PX7.out (by decide)).mono ?_
  rintro e u7 ⟨rfl, hr7, hf7⟩
  have hbq := Blk.of_heap (HD6.out.box hf7).1
  have hq := hbq.cell
  have hqf := hbq.free
  have hd7 : DSt 68 139 RR w (u7.setCell ⟨gm, 6, none⟩ (.int .i64 (i64of x7))) gz g gm _ #[.int .i64 (i8of x1), .int .i64 (i8of x2), .int .i64 (i64of x3), .bool x4, .int .i64 (x5 : Int), .int .i64 (i64of x6), .int .i64 (i64of x7), .int .i64 0, .slice none 0 0, .int .i64 0, .int .i64 0, .slice none 0 0, .int .i64 0, .int .i64 0, .int .i64 0, .int .i64 0] s7 := HD6.out.step hr7 hr7.rb hgw hf7 (fun h hb hf => h.far hb (by decide) (by decide) hf) 6 (.int .i64 (i64of x7))
  have HD7 := Lib.hid hd7
  clear hd7 hr7 hbq hf7 HD6
  go_wp2_with fail
  clear hq hqf
  rw [show wrap64 (x7 : Int) = i64of x7 from rfl]
  obtain ⟨ws7, hws7⟩ : ∃ W, u7.setCell ⟨gm, 6, none⟩ (.int .i64 (i64of x7)) = W := ⟨_, rfl⟩
  rw [hws7] at HD7 ⊢
  clear hws7
  obtain ⟨x8, s8, px8⟩ := isNum 1 s7
  have hx8 : x8 < 256 := px8.lt
  have hl8 := Nat.le_trans px8.len hl7
  have PX8 := Lib.hid px8
  clear px8
  refine (rrnum_is HD7.out.rd PX8.out (by decide)).mono ?_
  rintro e u8 ⟨rfl, hr8, hf8⟩
  have hbq := Blk.of_heap (HD7.out.box hf8).1
  have hq := hbq.cell
  have hqf := hbq.free
  have hd8 : DSt 68 139 RR w (u8.setCell ⟨gm, 7, none⟩ (.int .i64 (x8 : Int))) gz g gm _ #[.int .i64 (i8of x1), .int .i64 (i8of x2), .int .i64 (i64of x3), .bool x4, .int .i64 (x5 : Int), .int .i64 (i64of x6), .int .i64 (i64of x7), .int .i64 (x8 : Int), .slice none 0 0, .int .i64 0, .int .i64 0, .slice none 0 0, .int .i64 0, .int .i64 0, .int .i64 0, .int .i64 0] s8 := HD7.out.step hr8 hr8.rb hgw hf8 (fun h hb hf => h.far hb (by decide) (by decide) hf) 7 (.int .i64 (x8 : Int))
  have HD8 := Lib.hid hd8
  clear hd8 hr8 hbq hf8 HD7
  go_wp2_with fail
  clear hq hqf
  try rw [nat_conv x8 (by omega)]
  obtain ⟨ws8, hws8⟩ : ∃ W, u8.setCell ⟨gm, 7, none⟩ (.int .i64 (x8 : Int)) = W := ⟨_, rfl⟩
  rw [hws8] at HD8 ⊢
  clear hws8
  obtain ⟨x9, s9, px9⟩ := isBytes 65536 s8
  have hx9 : x9.length ≤ 65536 := px9.le
  have hl9 := Nat.le_trans px9.len hl8
  have PX9 := Lib.hid px9
  clear px9
  refine (rrbytes_is HD8.out.rd PX9.out (by omega)).mono ?_
  rintro e u9 ⟨⟨A9, c9, rfl, ho9⟩, hr9, hf9⟩
  have hbq := Blk.of_heap (HD8.out.box hf9).1
  have hq := hbq.cell
  have hqf := hbq.free
  have hd9 : DSt 68 139 RR w (u9.setCell ⟨gm, 8, none⟩ (.slice A9 x9.length c9)) gz g gm _ #[.int .i64 (i8of x1), .int .i64 (i8of x2), .int .i64 (i64of x3), .bool x4, .int .i64 (x5 : Int), .int .i64 (i64of x6), .int .i64 (i64of x7), .int .i64 (x8 : Int), .slice A9 x9.length c9, .int .i64 0, .int .i64 0, .slice none 0 0, .int .i64 0, .int .i64 0, .int .i64 0, .int .i64 0] s9 := HD8.out.step hr9 hr9.rb hgw hf9 (fun h hb hf => h.far hb (by decide) (by decide) hf) 8 (.slice A9 x9.length c9)
  have ho9 := row_new (HD8.out.box hf9).1 (row_base ho9 HD8.out.bk.size) (by decide) 8 (.slice A9 x9.length c9)
  have HD9 := Lib.hid hd9
  have HO9 := Lib.hid ho9
  clear hd9 hr9 hbq hf9 HD8 ho9
  go_wp2_with fail
  clear hq hqf
  obtain ⟨ws9, hws9⟩ : ∃ W, u9.setCell ⟨gm, 8, none⟩ (.slice A9 x9.length c9) = W := ⟨_, rfl⟩
  rw [hws9] at HD9 HO9 ⊢
  clear hws9
  obtain ⟨x10, s10, px10⟩ := isNum 8 s9
  have hx10 : x10 < 18446744073709551616 := px10.lt
  have hl10 := Nat.le_trans px10.len hl9
  have PX10 := Lib.hid px10
  clear px10
  refine (rrnum_is HD9.out.rd PX10.out (by decide)).mono ?_
  rintro e u10 ⟨rfl, hr10, hf10⟩
  have hbq := Blk.of_heap (HD9.out.box hf10).1
  have hq := hbq.cell
  have hqf := hbq.free
  have hd10 : DSt 68 139 RR w (u10.setCell ⟨gm, 9, none⟩ (.int .i64 (i64of x10))) gz g gm _ #[.int .i64 (i8of x1), .int .i64 (i8of x2), .int .i64 (i64of x3), .bool x4, .int .i64 (x5 : Int), .int .i64 (i64of x6), .int .i64 (i64of x7), .int .i64 (x8 : Int), .slice A9 x9.length c9, .int .i64 (i64of x10), .int .i64 0, .slice none 0 0, .int .i64 0, .int .i64 0, .int .i64 0, .int .i64 0] s10 := HD9.out.step hr10 hr10.rb hgw hf10 (fun h hb hf => h.far hb (by decide) (by decide) hf) 9 (.int .i64 (i64of x10))
  have ho9 := HD9.out.row hf10 HO9.out (by decide) (by decide) 9 (.int .i64 (i64of x10))
  have HD10 := Lib.hid hd10
  have HO9 := Lib.hid ho9
  clear hd10 hr10 hbq hf10 HD9 ho9
  go_wp2_with fail
  clear hq hqf
  rw [show wrap64 (x10 : Int) = i64of x10 from rfl]
  obtain ⟨ws10, hws10⟩ : ∃ W, u10.setCell ⟨gm, 9, none⟩ (.int .i64 (i64of x10)) = W := ⟨_, rfl⟩
  rw [hws10] at HD10 HO9 ⊢
  clear hws10
  obtain ⟨x11, s11, px11⟩ := isNum 8 s10
  have hx11 : x11 < 18446744073709551616 := px11.lt
  have hl11 := Nat.le_trans px11.len hl10
  have PX11 := Lib.hid px11
  clear px11
  refine (rrnum_is HD10.out.rd PX11.out (by decide)).mono ?_
  rintro e u11 ⟨rfl, hr11, hf11⟩
  have hbq := Blk.of_heap (HD10.out.box hf11).1
  have hq := hbq.cell
  have hqf := hbq.free
  have hd11 : DSt 68 139 RR w (u11.setCell ⟨gm, 10, none⟩ (.int .i64 (i64of x11))) gz g gm _ #[.int .i64 (i8of x1), .int .i64 (i8of x2), .int .i64 (i64of x3), .bool x4, .int .i64 (x5 : Int), .int .i64 (i64of x6), .int .i64 (i64of x7), .int .i64 (x8 : Int), .slice A9 x9.length c9, .int .i64 (i64of x10), .int .i64 (i64of x11), .slice none 0 0, .int .i64 0, .int .i64 0, .int .i64 0, .int .i64 0] s11 := HD10.out.step hr11 hr11.rb hgw hf11 (fun h hb hf => h.far hb (by decide) (by decide) hf) 10 (.int .i64 (i64of x11))
  have ho9 := HD10.out.row hf11 HO9.out (by decide) (by decide) 10 (.int .i64 (i64of x11))
  have HD11 := Lib.hid hd11
  have HO9 := Lib.hid ho9
  clear hd11 hr11 hbq hf11 HD10 ho9
  go_wp2_with fail
  clear hq hqf
  rw [show wrap64 (x11 : Int) = i64of x11 from rfl]
  obtain ⟨ws11, hws11⟩ : ∃ W, u11.setCell ⟨gm, 10, none⟩ (.int .i64 (i64of x11)) = W := ⟨_, rfl⟩
  rw [hws11] at HD11 HO9 ⊢
  clear hws11
  obtain ⟨x12, s12, px12⟩ := isBytes 1000 s11
  have hx12 : x12.length ≤ 1000 := px12.le
  have hl12 := Nat.le_trans px12.len hl11
  have PX12 := Lib.hid px12
  clear px12
  refine (rrbytes_is HD11.out.rd PX12.out (by omega)).mono ?_
  rintro e u12 ⟨⟨A12, c12, rfl, ho12⟩, hr12, hf12⟩
  have hbq := Blk.of_heap (HD11.out.box hf12).1
  have hq := hbq.cell
  have hqf := hbq.free
  have hd12 : DSt 68 139 RR w (u12.setCell ⟨gm, 11, none⟩ (.slice A12 x12.length c12)) gz g gm _ #[.int .i64 (i8of x1), .int .i64 (i8of x2), .int .i64 (i64of x3), .bool x4, .int .i64 (x5 : Int), .int .i64 (i64of x6), .int .i64 (i64of x7), .int .i64 (x8 : Int), .slice A9 x9.length c9, .int .i64 (i64of x10), .int .i64 (i64of x11), .slice A12 x12.length c12, .int .i64 0, .int .i64 0, .int .i64 0, .int .i64 0] s12 := HD11.out.step hr12 hr12.rb hgw hf12 (fun h hb hf => h.far hb (by decide) (by decide) hf) 11 (.slice A12 x12.length c12)
  have ho9 := HD11.out.row hf12 HO9.out (by decide) (by decide) 11 (.slice A12 x12.length c12)
  have ho12 := row_new (HD11.out.box hf12).1 (row_base ho12 HD11.out.bk.size) (by decide) 11 (.slice A12 x12.length c12)
  have HD12 := Lib.hid hd12
  have HO9 := Lib.hid ho9
  have HO12 := Lib.hid ho12
  clear hd12 hr12 hbq hf12 HD11 ho9 ho12
  go_wp2_with fail
  clear hq hqf
  obtain ⟨ws12, hws12⟩ : ∃ W, u12.setCell ⟨gm, 11, none⟩ (.slice A12 x12.length c12) = W := ⟨_, rfl⟩
  rw [hws12] at HD12 HO9 HO12 ⊢
  clear hws12
  obtain ⟨x13, s13, px13⟩ := isNum 8 s12
  have hx13 : x13 < 18446744073709551616 := px13.lt
  have hl13 := Nat.le_trans px13.len hl12
  have PX13 := Lib.hid px13
  clear px13
  refine (rrnum_is HD12.out.rd PX13.out (by decide)).mono ?_
  rintro e u13 ⟨rfl, hr13, hf13⟩
  have hbq := Blk.of_heap (HD12.out.box hf13).1
  have hq := hbq.cell
  have hqf := hbq.free
  have hd13 : DSt 68 139 RR w (u13.setCell ⟨gm, 12, none⟩ (.int .i64 (i64of x13))) gz g gm _ #[.int .i64 (i8of x1), .int .i64 (i8of x2), .int .i64 (i64of x3), .bool x4, .int .i64 (x5 : Int), .int .i64 (i64of x6), .int .i64 (i64of x7), .int .i64 (x8 : Int), .slice A9 x9.length c9, .int .i64 (i64of x10), .int .i64 (i64of x11), .slice A12 x12.length c12, .int .i64 (i64of x13), .int .i64 0, .int .i64 0, .int .i64 0] s13 := HD12.out.step hr13 hr13.rb hgw hf13 (fun h hb hf => h.far hb (by decide) (by decide) hf) 12 (.int .i64 (i64of x13))
  have ho9 := HD12.out.row hf13 HO9.out (by decide) (by decide) 12 (.int .i64 (i64of x13))
  have ho12 := HD12.out.row hf13 HO12.out (by decide) (by decide) 12 (.int .i64 (i64of x13))
  have HD13 := Lib.hid hd13
  have HO9 := Lib.hid ho9
  have HO12 := Lib.hid ho12
  clear hd13 hr13 hbq hf13 HD12 ho9 ho12
  go_wp2_with fail
  clear hq hqf
  rw [show wrap64 (x13 : Int) = i64of x13 from rfl]
  obtain ⟨ws13, hws13⟩ : ∃ W, u13.setCell ⟨gm, 12, none⟩ (.int .i64 (i64of x13)) = W := ⟨_, rfl⟩
  rw [hws13] at HD13 HO9 HO12 ⊢
  clear hws13
  obtain ⟨x14, s14, px14⟩ := isNum 8 s13
  have hx14 : x14 < 18446744073709551616 := px14.lt
  have hl14 := Nat.le_trans px14.len hl13
  have PX14 := Lib.hid px14
  clear px14
  refine (rrnum_is HD13.out.rd PX14.out (by decide)).mono ?_
  rintro e u14 ⟨rfl, hr14, hf14⟩
  have hbq := Blk.of_heap (HD13.out.box hf14).1
  have hq := hbq.cell
  have hqf := hbq.free
  have hd14 : DSt 68 139 RR w (u14.setCell ⟨gm, 13, none⟩ (.int .i64 (i64of x14))) gz g gm _ #[.int .i64 (i8of x1), .int .i64 (i8of x2), .int .i64 (i64of x3), .bool x4, .int .i64 (x5 : Int), .int .i64 (i64of x6), .int .i64 (i64of x7), .int .i64 (x8 : Int), .slice A9 x9.length c9, .int .i64 (i64of x10), .int .i64 (i64of x11), .slice A12 x12.length c12, .int .i64 (i64of x13), .int .i64 (i64of x14), .int .i64 0, .int .i64 0] s14 := HD13.out.step hr14 hr14.rb hgw hf14 (fun h hb hf => h.far hb (by decide) (by decide) hf) 13 (.int .i64 (i64of x14))
  have ho9 := HD13.out.row hf14 HO9.out (by decide) (by decide) 13 (.int .i64 (i64of x14))
  have ho12 := HD13.out.row hf14 HO12.out (by decide) (by decide) 13 (.int .i64 (i64of x14))
  have HD14 := Lib.hid hd14
  have HO9 := Lib.hid ho9
  have HO12 := Lib.hid ho12
  clear hd14 hr14 hbq hf14 HD13 ho9 ho12
  go_wp2_with fail
  clear hq hqf
  rw [show wrap64 (x14 : Int) = i64of x14 from rfl]
  obtain ⟨ws14, hws14⟩ : ∃ W, u14.setCell ⟨gm, 13, none⟩ (.int .i64 (i64of x14)) = W := ⟨_, rfl⟩
  rw [hws14] at HD14 HO9 HO12 ⊢
  clear hws14
  obtain ⟨x15, s15, px15⟩ := isNum 8 s14
  have hx15 : x15 < 18446744073709551616 := px15.lt
  have hl15 := Nat.le_trans px15.len hl14
  have PX15 := Lib.hid px15
  clear px15
  refine (rrnum_is HD14.out.rd PX15.out (by decide)).mono ?_
  rintro e u15 ⟨rfl, hr15, hf15⟩
  have hbq := Blk.of_heap (HD14.out.box hf15).1
  have hq := hbq.cell
  have hqf := hbq.free
  have hd15 : DSt 68 139 RR w (u15.setCell ⟨gm, 14, none⟩ (.int .i64 (i64of x15))) gz g gm _ #[.int .i64 (i8of x1), .int .i64 (i8of x2), .int .i64 (i64of x3), .bool x4, .int .i64 (x5 : Int), .int .i64 (i64of x6), .int .i64 (i64of x7), .int .i64 (x8 : Int), .slice A9 x9.length c9, .int .i64 (i64of x10), .int .i64 (i64of x11), .slice A12 x12.length c12, .int .i64 (i64of x13), .int .i64 (i64of x14), .int .i64 (i64of x15), .int .i64 0] s15 := HD14.out.step hr15 hr15.rb hgw hf15 (fun h hb hf => h.far hb (by decide) (by decide) hf) 14 (.int .i64 (i64of x15))
  have ho9 := HD14.out.row hf15 HO9.out (by decide) (by decide) 14 (.int .i64 (i64of x15))
  have ho12 := HD14.out.row hf15 HO12.out (by decide) (by decide) 14 (.int .i64 (i64of x15))
  have HD15 := Lib.hid hd15
  have HO9 := Lib.hid ho9
  have HO12 := Lib.hid ho12
  clear hd15 hr15 hbq hf15 HD14 ho9 ho12
  go_wp2_with fail
  clear hq hqf
  rw [show wrap64 (x15 : Int) = i64of x15 from rfl]
  obtain ⟨ws15, hws15⟩ : ∃ W, u15.setCell ⟨gm, 14, none⟩ (.int .i64 (i64of x15)) = W := ⟨_, rfl⟩
  rw [hws15] at HD15 HO9 HO12 ⊢
  clear hws15
  obtain ⟨x16, s16, px16⟩ := isNum 8 s15
  have hx16 : x16 < 18446744073709551616 := px16.lt
  have hl16 := Nat.le_trans px16.len hl15
  have PX16 := Lib.hid px16
  clear px16
  refine (rrnum_is HD15.out.rd PX16.out (by decide)).mono ?_
  rintro e u16 ⟨rfl, hr16, hf16⟩
  have hbq := Blk.of_heap (HD15.out.box hf16).1
  have hq := hbq.cell
  have hqf := hbq.free
  have hd16 : DSt 68 139 RR w (u16.setCell ⟨gm, 15, none⟩ (.int .i64 (i64of x16))) gz g gm _ #[.int .i64 (i8of x1), .int .i64 (i8of x2), .int .i64 (i64of x3), .bool x4, .int .i64 (x5 : Int), .int .i64 (i64of x6), .int .i64 (i64of x7), .int .i64 (x8 : Int), .slice A9 x9.length c9, .int .i64 (i64of x10), .int .i64 (i64of x11), .slice A12 x12.length c12, .int .i64 (i64of x13), .int .i64 (i64of x14), .int .i64 (i64of x15), .int .i64 (i64of x16)] s16 := HD15.out.step hr16 hr16.rb hgw hf16 (fun h hb hf => h.far hb (by decide) (by decide) hf) 15 (.int .i64 (i64of x16))
  have ho9 := HD15.out.row hf16 HO9.out (by decide) (by decide) 15 (.int .i64 (i64of x16))
  have ho12 := HD15.out.row hf16 HO12.out (by decide) (by decide) 15 (.int .i64 (i64of x16))
  have HD16 := Lib.hid hd16
  have HO9 := Lib.hid ho9
  have HO12 := Lib.hid ho12
  clear hd16 hr16 hbq hf16 HD15 ho9 ho12
  go_wp2_with fail
  clear hq hqf
  rw [show wrap64 (x16 : Int) = i64of x16 from rfl]
  obtain ⟨ws16, hws16⟩ : ∃ W, u16.setCell ⟨gm, 15, none⟩ (.int .i64 (i64of x16)) = W := ⟨_, rfl⟩
  rw [hws16] at HD16 HO9 HO12 ⊢
  clear hws16
  have hfin := readMsg_of PX1.out PX2.out PX3.out PX4.out PX5.out PX6.out PX7.out PX8.out PX9.out PX10.out PX11.out PX12.out PX13.out PX14.out PX15.out PX16.out
  have HE2 : Hid (E = if s16 = some [] ∧ Msg.right ⟨i8of x1, i8of x2, i64of x3, x4, (x5 : Int), i64of x6, i64of x7, (x8 : Int), x9, i64of x10, i64of x11, x12, i64of x13, i64of x14, i64of x15, i64of x16⟩ = true then some ⟨i8of x1, i8of x2, i64of x3, x4, (x5 : Int), i64of x6, i64of x7, (x8 : Int), x9, i64of x10, i64of x11, x12, i64of x13, i64of x14, i64of x15, i64of x16⟩ else none) := by
    show _ = _
    rw [← HE.out]
    unfold decMsg
    rw [HS0.out, hfin]
  clear hfin
  by_cases he : s16 = some []
  · refine (rrend_any HD16.out.rd).mono ?_
    rintro e w3 ⟨hee, nE, hw3⟩
    rw [if_pos he] at hee
    subst hee
    have HW3 := Lib.hid hw3
    have HDE : Hid (DSt 68 139 RR w w3 gz g gm #[.int .i64 0, .int .i64 0, .int .i64 0, .bool false, .int .i64 0, .int .i64 0, .int .i64 0, .int .i64 0, .slice none 0 0, .int .i64 0, .int .i64 0, .slice none 0 0, .int .i64 0, .int .i64 0, .int .i64 0, .int .i64 0] #[.int .i64 (i8of x1), .int .i64 (i8of x2), .int .i64 (i64of x3), .bool x4, .int .i64 (x5 : Int), .int .i64 (i64of x6), .int .i64 (i64of x7), .int .i64 (x8 : Int), .slice A9 x9.length c9, .int .i64 (i64of x10), .int .i64 (i64of x11), .slice A12 x12.length c12, .int .i64 (i64of x13), .int .i64 (i64of x14), .int .i64 (i64of x15), .int .i64 (i64of x16)] s16) := by rw [hw3]; exact HD16.out.drawn nE
    clear hw3
    have hld := ldR_row (P := Tryd.prog) 68 w3 gm 68 #[.int .i64 (i8of x1), .int .i64 (i8of x2), .int .i64 (i64of x3), .bool x4, .int .i64 (x5 : Int), .int .i64 (i64of x6), .int .i64 (i64of x7), .int .i64 (x8 : Int), .slice A9 x9.length c9, .int .i64 (i64of x10), .int .i64 (i64of x11), .slice A12 x12.length c12, .int .i64 (i64of x13), .int .i64 (i64of x14), .int .i64 (i64of x15), .int .i64 (i64of x16)] (0, 0) _ HDE.out.hx Tryd.underlying68 rfl (by kernel_rfl)
    have HSE := Lib.hid he
    obtain ⟨r, hr⟩ : ∃ r, Msg.right ⟨i8of x1, i8of x2, i64of x3, x4, (x5 : Int), i64of x6, i64of x7, (x8 : Int), x9, i64of x10, i64of x11, x12, i64of x13, i64of x14, i64of x15, i64of x16⟩ = r := ⟨_, rfl⟩
    have HMR : Hid (∀ w, Calls Tryd.prog 41 #[.agg #[.int .i64 (i8of x1), .int .i64 (i8of x2), .int .i64 (i64of x3), .bool x4, .int .i64 (x5 : Int), .int .i64 (i64of x6), .int .i64 (i64of x7), .int .i64 (x8 : Int), .slice A9 x9.length c9, .int .i64 (i64of x10), .int .i64 (i64of x11), .slice A12 x12.length c12, .int .i64 (i64of x13), .int .i64 (i64of x14), .int .i64 (i64of x15), .int .i64 (i64of x16)]] w fun e w' => e = .returned (.bool r) ∧ Below w.heap.size w w') := by
      intro w
      rw [← hr]
      exact rmright_lit (i8of x1) (i8of x2) (i64of x3) x4 (x5 : Int) (i64of x6) (i64of x7) (x8 : Int) x9 (i64of x10) (i64of x11) x12 (i64of x13) (i64of x14) (i64of x15) (i64of x16) A9 A12 c9 c12 w
    have HRT := Lib.hid hr
    clear he hr
    go_wp2_with fail
    refine (HMR.out w3).mono ?_
    rintro e w4 ⟨rfl, hb4⟩
    have hx4 : w4.heap[gm]? = _ := (hb4.block gm (Array.getElem?_eq_some_iff.1 HDE.out.hx).1).trans HDE.out.hx
    have hz4 : w4.heap[gz]? = _ := (hb4.block gz (Array.getElem?_eq_some_iff.1 HDE.out.hz).1).trans HDE.out.hz
    have HZ4 := Lib.hid hz4
    have Bk4 := HDE.out.bk.trans (hb4.mono HDE.out.bk.size)
    have hgzw : w.heap.size ≤ gz := Nat.le_of_eq HGZ.out
    cases r
    · have hst := stR_row (P := Tryd.prog) 68 w4 gz #[.int .i64 0, .int .i64 0, .int .i64 0, .bool false, .int .i64 0, .int .i64 0, .int .i64 0, .int .i64 0, .slice none 0 0, .int .i64 0, .int .i64 0, .slice none 0 0, .int .i64 0, .int .i64 0, .int .i64 0, .int .i64 0] #[.int .i64 0, .int .i64 0, .int .i64 0, .bool false, .int .i64 0, .int .i64 0, .int .i64 0, .int .i64 0, .slice none 0 0, .int .i64 0, .int .i64 0, .slice none 0 0, .int .i64 0, .int .i64 0, .int .i64 0, .int .i64 0] hz4 rfl (by kernel_rfl) (one_all rfl)
      clear hx4 hz4 hld
      go_wp2
      refine bodyPost_ret (v := .tuple #[.agg #[.int .i64 0, .int .i64 0, .int .i64 0, .bool false, .int .i64 0, .int .i64 0, .int .i64 0, .int .i64 0, .slice none 0 0, .int .i64 0, .int .i64 0, .slice none 0 0, .int .i64 0, .int .i64 0, .int .i64 0, .int .i64 0], .int .i64 3]) (results_row_tmp Tryd.results39 _ _ gz 68 #[.int .i64 0, .int .i64 0, .int .i64 0, .bool false, .int .i64 0, .int .i64 0, .int .i64 0, .int .i64 0, .slice none 0 0, .int .i64 0, .int .i64 0, .slice none 0 0, .int .i64 0, .int .i64 0, .int .i64 0, .int .i64 0] (0, 0) _ _ rfl rfl (setRow_heap _ gz #[.int .i64 0, .int .i64 0, .int .i64 0, .bool false, .int .i64 0, .int .i64 0, .int .i64 0, .int .i64 0, .slice none 0 0, .int .i64 0, .int .i64 0, .slice none 0 0, .int .i64 0, .int .i64 0, .int .i64 0, .int .i64 0] _ _ _ HZ4.out) Tryd.underlying68 rfl (by kernel_rfl)) rfl ?_
      have hEn : E = none := by rw [HE2.out, if_neg (by rw [HRT.out]; simp)]
      rw [hEn]
      exact Decd.of_none (below_row Bk4 hgzw _)
    · have hld4 := ldR_row (P := Tryd.prog) 68 w4 gm 68 #[.int .i64 (i8of x1), .int .i64 (i8of x2), .int .i64 (i64of x3), .bool x4, .int .i64 (x5 : Int), .int .i64 (i64of x6), .int .i64 (i64of x7), .int .i64 (x8 : Int), .slice A9 x9.length c9, .int .i64 (i64of x10), .int .i64 (i64of x11), .slice A12 x12.length c12, .int .i64 (i64of x13), .int .i64 (i64of x14), .int .i64 (i64of x15), .int .i64 (i64of x16)] (0, 0) _ hx4 Tryd.underlying68 rfl (by kernel_rfl)
      have hst := stR_row (P := Tryd.prog) 68 w4 gz #[.int .i64 0, .int .i64 0, .int .i64 0, .bool false, .int .i64 0, .int .i64 0, .int .i64 0, .int .i64 0, .slice none 0 0, .int .i64 0, .int .i64 0, .slice none 0 0, .int .i64 0, .int .i64 0, .int .i64 0, .int .i64 0] #[.int .i64 (i8of x1), .int .i64 (i8of x2), .int .i64 (i64of x3), .bool x4, .int .i64 (x5 : Int), .int .i64 (i64of x6), .int .i64 (i64of x7), .int .i64 (x8 : Int), .slice A9 x9.length c9, .int .i64 (i64of x10), .int .i64 (i64of x11), .slice A12 x12.length c12, .int .i64 (i64of x13), .int .i64 (i64of x14), .int .i64 (i64of x15), .int .i64 (i64of x16)] hz4 rfl (by kernel_rfl) (one_all rfl)
      clear hx4 hz4 hld
      go_wp2
      refine bodyPost_ret (v := .tuple #[.agg #[.int .i64 (i8of x1), .int .i64 (i8of x2), .int .i64 (i64of x3), .bool x4, .int .i64 (x5 : Int), .int .i64 (i64of x6), .int .i64 (i64of x7), .int .i64 (x8 : Int), .slice A9 x9.length c9, .int .i64 (i64of x10), .int .i64 (i64of x11), .slice A12 x12.length c12, .int .i64 (i64of x13), .int .i64 (i64of x14), .int .i64 (i64of x15), .int .i64 (i64of x16)], .int .i64 0]) (results_row_tmp Tryd.results39 _ _ gz 68 #[.int .i64 (i8of x1), .int .i64 (i8of x2), .int .i64 (i64of x3), .bool x4, .int .i64 (x5 : Int), .int .i64 (i64of x6), .int .i64 (i64of x7), .int .i64 (x8 : Int), .slice A9 x9.length c9, .int .i64 (i64of x10), .int .i64 (i64of x11), .slice A12 x12.length c12, .int .i64 (i64of x13), .int .i64 (i64of x14), .int .i64 (i64of x15), .int .i64 (i64of x16)] (0, 0) _ _ rfl rfl (setRow_heap _ gz #[.int .i64 0, .int .i64 0, .int .i64 0, .bool false, .int .i64 0, .int .i64 0, .int .i64 0, .int .i64 0, .slice none 0 0, .int .i64 0, .int .i64 0, .slice none 0 0, .int .i64 0, .int .i64 0, .int .i64 0, .int .i64 0] _ _ _ HZ4.out) Tryd.underlying68 rfl (by kernel_rfl)) rfl ?_
      have hEn : E = some ⟨i8of x1, i8of x2, i64of x3, x4, (x5 : Int), i64of x6, i64of x7, (x8 : Int), x9, i64of x10, i64of x11, x12, i64of x13, i64of x14, i64of x15, i64of x16⟩ := by rw [HE2.out, if_pos ⟨HSE.out, HRT.out⟩]
      rw [hEn]
      have fz : Fr (fun k => k = gz) w4 (w4.setRow gz #[.int .i64 (i8of x1), .int .i64 (i8of x2), .int .i64 (i64of x3), .bool x4, .int .i64 (x5 : Int), .int .i64 (i64of x6), .int .i64 (i64of x7), .int .i64 (x8 : Int), .slice A9 x9.length c9, .int .i64 (i64of x10), .int .i64 (i64of x11), .slice A12 x12.length c12, .int .i64 (i64of x13), .int .i64 (i64of x14), .int .i64 (i64of x15), .int .i64 (i64of x16)]) := ⟨rfl, rfl, rfl, by simp [World.setRow], fun k _ hk => setRow_other w4 gz k _ hk⟩
      have kp : ∀ {A : Option Addr} {c : Nat} {l : List UInt8}, w3.ownsRow w.heap.size 5 1 (.slice A l.length c) l.length (bv l) → (w4.setRow gz #[.int .i64 (i8of x1), .int .i64 (i8of x2), .int .i64 (i64of x3), .bool x4, .int .i64 (x5 : Int), .int .i64 (i64of x6), .int .i64 (i64of x7), .int .i64 (x8 : Int), .slice A9 x9.length c9, .int .i64 (i64of x10), .int .i64 (i64of x11), .slice A12 x12.length c12, .int .i64 (i64of x13), .int .i64 (i64of x14), .int .i64 (i64of x15), .int .i64 (i64of x16)]).ownsRow w.heap.size 5 1 (.slice A l.length c) l.length (bv l) := by
        intro A c l ho
        have h1 := (Fr.of_below (M := fun _ => False) hb4).owns ho (fun _ _ x => x)
        exact fz.owns h1 (fun k hk e => owns_ne h1 HZ4.out (by decide) (by rw [hk, e]))
      exact Decd.of_some (i8of x1) (i8of x2) (i64of x3) x4 (x5 : Int) (i64of x6) (i64of x7) (x8 : Int) x9 (i64of x10) (i64of x11) x12 (i64of x13) (i64of x14) (i64of x15) (i64of x16) A9 A12 c9 c12 (below_row Bk4 hgzw _) (kp (show w3.ownsRow _ _ _ _ _ _ from by rw [HW3.out]; exact HO9.out)) (kp (show w3.ownsRow _ _ _ _ _ _ from by rw [HW3.out]; exact HO12.out))
  · refine (rrend_any HD16.out.rd).mono ?_
    rintro e w3 ⟨hee, nE, hw3⟩
    rw [if_neg he] at hee
    subst hee
    have HW3 := Lib.hid hw3
    have HDE : Hid (DSt 68 139 RR w w3 gz g gm #[.int .i64 0, .int .i64 0, .int .i64 0, .bool false, .int .i64 0, .int .i64 0, .int .i64 0, .int .i64 0, .slice none 0 0, .int .i64 0, .int .i64 0, .slice none 0 0, .int .i64 0, .int .i64 0, .int .i64 0, .int .i64 0] #[.int .i64 (i8of x1), .int .i64 (i8of x2), .int .i64 (i64of x3), .bool x4, .int .i64 (x5 : Int), .int .i64 (i64of x6), .int .i64 (i64of x7), .int .i64 (x8 : Int), .slice A9 x9.length c9, .int .i64 (i64of x10), .int .i64 (i64of x11), .slice A12 x12.length c12, .int .i64 (i64of x13), .int .i64 (i64of x14), .int .i64 (i64of x15), .int .i64 (i64of x16)] s16) := by rw [hw3]; exact HD16.out.drawn nE
    clear hw3
    have hst := stR_row (P := Tryd.prog) 68 w3 gz #[.int .i64 0, .int .i64 0, .int .i64 0, .bool false, .int .i64 0, .int .i64 0, .int .i64 0, .int .i64 0, .slice none 0 0, .int .i64 0, .int .i64 0, .slice none 0 0, .int .i64 0, .int .i64 0, .int .i64 0, .int .i64 0] #[.int .i64 0, .int .i64 0, .int .i64 0, .bool false, .int .i64 0, .int .i64 0, .int .i64 0, .int .i64 0, .slice none 0 0, .int .i64 0, .int .i64 0, .slice none 0 0, .int .i64 0, .int .i64 0, .int .i64 0, .int .i64 0] HDE.out.hz rfl (by kernel_rfl) (one_all rfl)
    have HSE := Lib.hid he
    have hgzw : w.heap.size ≤ gz := Nat.le_of_eq HGZ.out
    clear he
    go_wp2
    refine bodyPost_ret (v := .tuple #[.agg #[.int .i64 0, .int .i64 0, .int .i64 0, .bool false, .int .i64 0, .int .i64 0, .int .i64 0, .int .i64 0, .slice none 0 0, .int .i64 0, .int .i64 0, .slice none 0 0, .int .i64 0, .int .i64 0, .int .i64 0, .int .i64 0], .int .i64 3]) (results_row_tmp Tryd.results39 _ _ gz 68 #[.int .i64 0, .int .i64 0, .int .i64 0, .bool false, .int .i64 0, .int .i64 0, .int .i64 0, .int .i64 0, .slice none 0 0, .int .i64 0, .int .i64 0, .slice none 0 0, .int .i64 0, .int .i64 0, .int .i64 0, .int .i64 0] (0, 0) _ _ rfl rfl (setRow_heap _ gz #[.int .i64 0, .int .i64 0, .int .i64 0, .bool false, .int .i64 0, .int .i64 0, .int .i64 0, .int .i64 0, .slice none 0 0, .int .i64 0, .int .i64 0, .slice none 0 0, .int .i64 0, .int .i64 0, .int .i64 0, .int .i64 0] _ _ _ HDE.out.hz) Tryd.underlying68 rfl (by kernel_rfl)) rfl ?_
    have hEn : E = none := by rw [HE2.out, if_neg (fun h => HSE.out h.1)]
    rw [hEn]
    exact Decd.of_none (below_row HDE.out.bk hgzw _)

set_option maxRecDepth 100000 in
set_option maxHeartbeats 2000000 in
theorem rrpcdec_none (A : Option Addr) (c B : Nat) (b : List UInt8) (w : World) (h : Sl w B A (bv b)) (hc : b.length ≤ c) (hl : b.length ≤ 1099511627776) (hB : B ≤ w.heap.size) (hu : unw b = none) :
    Calls Tryd.prog 39 #[.slice A b.length c] w fun e w' => Decd none w e w' := by
  have HU := Lib.hid hu
  have HC := Lib.hid hc
  clear hu hc
  go_enter Tryd.func39, Tryd.ntmps39
  go_wp2_with fail
  have B0 := (Below.refl w.heap.size w).alloc (Nat.le_refl _) (.cells #[.int .i64 0, .int .i64 0, .int .i64 0, .bool false, .int .i64 0, .int .i64 0, .int .i64 0, .int .i64 0, .slice none 0 0, .int .i64 0, .int .i64 0, .slice none 0 0, .int .i64 0, .int .i64 0, .int .i64 0, .int .i64 0] 68)
  have hz0 := heap_alloc_new w (.cells #[.int .i64 0, .int .i64 0, .int .i64 0, .bool false, .int .i64 0, .int .i64 0, .int .i64 0, .int .i64 0, .slice none 0 0, .int .i64 0, .int .i64 0, .slice none 0 0, .int .i64 0, .int .i64 0, .int .i64 0, .int .i64 0] 68)
  obtain ⟨X, hX⟩ : ∃ X, w.alloc (.cells #[.int .i64 0, .int .i64 0, .int .i64 0, .bool false, .int .i64 0, .int .i64 0, .int .i64 0, .int .i64 0, .slice none 0 0, .int .i64 0, .int .i64 0, .slice none 0 0, .int .i64 0, .int .i64 0, .int .i64 0, .int .i64 0] 68) = X := ⟨_, rfl⟩
  obtain ⟨gz, hgz⟩ : ∃ gz, w.heap.size = gz := ⟨_, rfl⟩
  have hgz0 : gz < X.heap.size := by rw [← hX, ← hgz]; simp
  rw [hX] at B0 hz0 ⊢
  rw [hgz] at hz0 ⊢
  have hs0 := B0.size
  have hgzw : w.heap.size ≤ gz := Nat.le_of_eq hgz
  clear hX hgz
  refine (runwrap_any A c B b X (h.below (B0.mono hB)) HC.out hl (Nat.le_trans hB hs0)).mono ?_
  rintro e w1 ⟨⟨A1, c1, he, ho⟩, hb1⟩
  rw [HU.out] at he
  have he : e = .returned (.tuple #[.slice A1 0 c1, .int .i64 3]) := he
  subst he
  have B1 := B0.trans (hb1.mono hs0)
  have hz1 : w1.heap[gz]? = _ := (hb1.block gz hgz0).trans hz0
  have HZ1 := Lib.hid hz1
  have hst := stR_row (P := Tryd.prog) 68 w1 gz #[.int .i64 0, .int .i64 0, .int .i64 0, .bool false, .int .i64 0, .int .i64 0, .int .i64 0, .int .i64 0, .slice none 0 0, .int .i64 0, .int .i64 0, .slice none 0 0, .int .i64 0, .int .i64 0, .int .i64 0, .int .i64 0] #[.int .i64 0, .int .i64 0, .int .i64 0, .bool false, .int .i64 0, .int .i64 0, .int .i64 0, .int .i64 0, .slice none 0 0, .int .i64 0, .int .i64 0, .slice none 0 0, .int .i64 0, .int .i64 0, .int .i64 0, .int .i64 0] hz1 rfl (by kernel_rfl) (one_all rfl)
  clear hz0 hz1 ho hb1
  go_wp2
  refine bodyPost_ret (v := .tuple #[.agg #[.int .i64 0, .int .i64 0, .int .i64 0, .bool false, .int .i64 0, .int .i64 0, .int .i64 0, .int .i64 0, .slice none 0 0, .int .i64 0, .int .i64 0, .slice none 0 0, .int .i64 0, .int .i64 0, .int .i64 0, .int .i64 0], .int .i64 3]) (results_row_tmp Tryd.results39 _ _ gz 68 #[.int .i64 0, .int .i64 0, .int .i64 0, .bool false, .int .i64 0, .int .i64 0, .int .i64 0, .int .i64 0, .slice none 0 0, .int .i64 0, .int .i64 0, .slice none 0 0, .int .i64 0, .int .i64 0, .int .i64 0, .int .i64 0] (0, 0) _ _ rfl rfl (setRow_heap _ gz #[.int .i64 0, .int .i64 0, .int .i64 0, .bool false, .int .i64 0, .int .i64 0, .int .i64 0, .int .i64 0, .slice none 0 0, .int .i64 0, .int .i64 0, .slice none 0 0, .int .i64 0, .int .i64 0, .int .i64 0, .int .i64 0] _ _ _ HZ1.out) Tryd.underlying68 rfl (by kernel_rfl)) rfl ?_
  exact Decd.of_none (below_row B1 hgzw _)

/-- **Decode: the message of any bytes.** -/
theorem rrpcdec_any (A : Option Addr) (c B : Nat) (b : List UInt8) (w : World) (h : Sl w B A (bv b)) (hc : b.length ≤ c) (hl : b.length ≤ 1099511627776) (hB : B ≤ w.heap.size) :
    Calls Tryd.prog 39 #[.slice A b.length c] w fun e w' => Decd ((unw b).bind decMsg) w e w' := by
  cases hu : unw b with
  | none => exact rrpcdec_none A c B b w h hc hl hB hu
  | some a => exact rrpcdec_some A c B b a w h hc hl hB hu
end Go.Proofs.YtadflbeniccfeaaDoor
