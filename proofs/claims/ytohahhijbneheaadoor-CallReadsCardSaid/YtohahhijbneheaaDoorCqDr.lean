/- tidelineref05.Decode. -/
import Derived.Test.YtohahhijbneheaaDoorCqD
import Derived.Test.YtohahhijbneheaaDoorRrc
namespace Go.Proofs.YtohahhijbneheaaDoor
open Go.RowKit
set_option linter.unusedVariables false

theorem RR.rb {w : World} {g : Nat} {s : PS} (h : RR w g s) : ∃ xs, w.heap[g]? = some (.cells xs 105 (0, 0)) := by
  obtain ⟨A, c, l, a, q, h1, -⟩ := h
  exact ⟨_, h1.blk⟩
theorem DSt.drawn {T Q : TypeId} {w0 ws : World} {gz g gm : Nat} {zc mc : Array Value} {s : PS} (h : DSt T Q RR w0 ws gz g gm zc mc s) (n : Nat) : DSt T Q RR w0 (ws.drewN n) gz g gm zc mc s :=
  ⟨h.rd.below (bdrewN_refl _ _ n), h.rb, h.hx, h.hz, bdrewN h.bk n, h.ge, h.ne, h.tq⟩
theorem exec_load_cqr (ev : Operand → Value) (d : Option Tmp) (t : TypeId) (x : Operand) (p : String) (af : Array Edge) (g : Option (Nat × Bool)) (w : World) :
    (execOp ev ⟨d, .load 46 x, t, p, af, g⟩).run Tryd.prog w = ldR Tryd.prog 46 (ev x) w := exec_load ev d _ t x p af g w
theorem exec_store_cqr (ev : Operand → Value) (d : Option Tmp) (t : TypeId) (x y : Operand) (p : String) (af : Array Edge) (g : Option (Nat × Bool)) (w : World) :
    (execOp ev ⟨d, .store 46 x y, t, p, af, g⟩).run Tryd.prog w = stR Tryd.prog 46 (ev x) (ev y) w := exec_store ev d _ t x y p af g w
attribute [local go_sem ↓] exec_load_cqr exec_store_cqr

set_option maxRecDepth 100000 in
set_option maxHeartbeats 8000000 in
theorem rcqdec_some (A : Option Addr) (c B : Nat) (b a : List UInt8) (w : World) (h : Sl w B A (bv b)) (hc : b.length ≤ c) (hl : b.length ≤ 1000000) (hB : B ≤ w.heap.size) (hu : unw b = some a) :
    Calls Tryd.prog 31 #[.slice A b.length c] w (DecC (decCq a) w) := by
  have HU := Lib.hid hu
  have HC := Lib.hid hc
  obtain ⟨E, hE⟩ : ∃ E, decCq a = E := ⟨_, rfl⟩
  have hal := unw_len hu
  rw [hE]
  have HE := Lib.hid hE
  clear hu hE hc
  go_enter Tryd.func31, Tryd.ntmps31
  go_wp2_with fail
  have B0 := (Below.refl w.heap.size w).alloc (Nat.le_refl _) (.cells #[.int .i64 0, .string { data := #[] }, .string { data := #[] }, .int .i64 0, .int .i64 0, .slice none 0 0] 46)
  have hz0 := heap_alloc_new w (.cells #[.int .i64 0, .string { data := #[] }, .string { data := #[] }, .int .i64 0, .int .i64 0, .slice none 0 0] 46)
  obtain ⟨X, hX⟩ : ∃ X, w.alloc (.cells #[.int .i64 0, .string { data := #[] }, .string { data := #[] }, .int .i64 0, .int .i64 0, .slice none 0 0] 46) = X := ⟨_, rfl⟩
  obtain ⟨gz, hgz⟩ : ∃ gz, w.heap.size = gz := ⟨_, rfl⟩
  have hgz0 : gz < X.heap.size := by rw [← hX, ← hgz]; simp
  rw [hX] at B0 hz0 ⊢
  rw [hgz] at hz0 ⊢
  have HGZ := Lib.hid hgz
  have hs0 := B0.size
  clear hX hgz
  refine (runwrap_any A c B b X (h.below (B0.mono hB)) HC.out (by omega) (Nat.le_trans hB hs0)).mono ?_
  rintro e w1 ⟨⟨A1, c1, he, ho⟩, hb1⟩
  rw [HU.out] at he ho
  have he : e = .returned (.tuple #[.slice A1 a.length c1, .int .i64 0]) := he
  subst he
  have B1 := B0.trans (hb1.mono hs0)
  have hz1 : w1.heap[gz]? = _ := (hb1.block gz hgz0).trans hz0
  have HO := Lib.hid ho
  clear ho
  go_wp2_with fail
  have hbx := (Below.refl w1.heap.size w1).alloc (Nat.le_refl _) (.cells #[.slice A1 a.length c1, .int .i64 0, .bool false] 105)
  have HR : Hid (RR (w1.alloc (.cells #[.slice A1 a.length c1, .int .i64 0, .bool false] 105)) w1.heap.size (some a)) :=
    ⟨A1, c1, a, 0, false, ⟨heap_alloc_new w1 _, Nat.zero_le _, by omega⟩, (RB.of_own HO.out).below hbx, by simp⟩
  have B2 := B1.trans (hbx.mono B1.size)
  have hz2 : (w1.alloc (.cells #[.slice A1 a.length c1, .int .i64 0, .bool false] 105)).heap[gz]? = _ := (hbx.block gz (Array.getElem?_eq_some_iff.1 hz1).1).trans hz1
  have hgw : w.heap.size ≤ w1.heap.size := B1.size
  obtain ⟨w2, hw2⟩ : ∃ X, w1.alloc (.cells #[.slice A1 a.length c1, .int .i64 0, .bool false] 105) = X := ⟨_, rfl⟩
  obtain ⟨g, hg⟩ : ∃ g, w1.heap.size = g := ⟨_, rfl⟩
  rw [hw2] at B2 hz2
  rw [hw2, hg] at HR ⊢
  rw [hg] at hgw
  have hl0 : psLen (some a) ≤ 1000000 := by show a.length ≤ _; omega
  have hgzg : gz ≠ g := by have := (Array.getElem?_eq_some_iff.1 hz1).1; omega
  clear hw2 hg hbx hb1 hz0 hz1 B1 B0 HO hs0 hgz0
  obtain ⟨s0, hs0⟩ : ∃ s, some a = s := ⟨_, rfl⟩
  have HS0 := Lib.hid hs0
  rw [hs0] at HR hl0
  clear hs0
  obtain ⟨x1, s1, px1⟩ := isNum 1 s0
  have hx1 : x1 < 256 := px1.lt
  have hl1 := Nat.le_trans px1.len hl0
  have PX1 := Lib.hid px1
  clear px1
  refine (rrnum_is HR.out PX1.out (by decide)).mono ?_
  rintro e u1 ⟨rfl, hr1, hf1⟩
  have HR1 := Lib.hid hr1
  have hzu : u1.heap[gz]? = _ := hf1.cells hz2 hgzg
  have HZU := Lib.hid hzu
  have Bu : Below w.heap.size w u1 := B2.trans (hf1.below B2.size (fun k e => by rw [e]; exact hgw))
  clear hr1 hf1 hz2 hzu B2 HR
  have hst1 := stR_row (P := Tryd.prog) 46 (u1.alloc (.cells #[.int .i64 0, .string { data := #[] }, .string { data := #[] }, .int .i64 0, .int .i64 0, .slice none 0 0] 46)) u1.heap.size #[.int .i64 0, .string { data := #[] }, .string { data := #[] }, .int .i64 0, .int .i64 0, .slice none 0 0] #[.int .i64 (x1 : Int), .string { data := #[] }, .string { data := #[] }, .int .i64 0, .int .i64 0, .slice none 0 0] (heap_alloc_new u1 _) (show (6 : Nat) = 6 from rfl) (by kernel_rfl) (one_all rfl)
  rw [setRow_alloc] at hst1
  go_wp2_with fail
  clear hst1
  skip
  have HD1 : Hid (DSt 46 105 RR w (u1.alloc (.cells #[.int .i64 (x1 : Int), .string { data := #[] }, .string { data := #[] }, .int .i64 0, .int .i64 0, .slice none 0 0] 46)) gz g u1.heap.size #[.int .i64 0, .string { data := #[] }, .string { data := #[] }, .int .i64 0, .int .i64 0, .slice none 0 0] #[.int .i64 (x1 : Int), .string { data := #[] }, .string { data := #[] }, .int .i64 0, .int .i64 0, .slice none 0 0] s1) := by
    have hba : Below u1.heap.size u1 (u1.alloc (.cells #[.int .i64 (x1 : Int), .string { data := #[] }, .string { data := #[] }, .int .i64 0, .int .i64 0, .slice none 0 0] 46)) := (Below.refl _ _).alloc (Nat.le_refl _) _
    refine ⟨HR1.out.below hba, (HR1.out.below hba).rb, heap_alloc_new _ _, (hba.block gz ?_).trans HZU.out, Bu.trans (hba.mono Bu.size), Bu.size, ?_, by decide⟩
    · exact (Array.getElem?_eq_some_iff.1 HZU.out).1
    · have := (Array.getElem?_eq_some_iff.1 HZU.out).1; omega
  obtain ⟨ws1, hws1⟩ : ∃ X, u1.alloc (.cells #[.int .i64 (x1 : Int), .string { data := #[] }, .string { data := #[] }, .int .i64 0, .int .i64 0, .slice none 0 0] 46) = X := ⟨_, rfl⟩
  obtain ⟨gm, hgm⟩ : ∃ gm, u1.heap.size = gm := ⟨_, rfl⟩
  rw [hws1, hgm] at HD1 ⊢
  clear hws1 hgm HR1 HZU Bu
  obtain ⟨x2, s2, px2⟩ := isBytes 300 s1
  have hx2 : x2.length ≤ 300 := px2.le
  have hl2 := Nat.le_trans px2.len hl1
  have PX2 := Lib.hid px2
  clear px2
  refine (rrbytes_is HD1.out.rd PX2.out (by omega)).mono ?_
  rintro e u2 ⟨⟨A2, c2, rfl, ho2⟩, hr2, hf2⟩
  have hcvb := bs_run (c := c2) (Sl.of_own ho2)
  have hbq := Blk.of_heap (HD1.out.box hf2).1
  have hq := hbq.cell
  have hqf := hbq.free
  have hd2 : DSt 46 105 RR w (u2.setCell ⟨gm, 1, none⟩ (.string (bstr x2))) gz g gm _ #[.int .i64 (x1 : Int), .string (bstr x2), .string { data := #[] }, .int .i64 0, .int .i64 0, .slice none 0 0] s2 := HD1.out.step hr2 hr2.rb hgw hf2 (fun h hb hf => h.far hb (by decide) (by decide) hf) 1 (.string (bstr x2))
  have HD2 := Lib.hid hd2
  clear hd2 hr2 hbq hf2 HD1 ho2
  go_wp2_with fail
  clear hq hqf hcvb
  obtain ⟨ws2, hws2⟩ : ∃ W, u2.setCell ⟨gm, 1, none⟩ (.string (bstr x2)) = W := ⟨_, rfl⟩
  rw [hws2] at HD2 ⊢
  clear hws2
  obtain ⟨x3, s3, px3⟩ := isBytes 300 s2
  have hx3 : x3.length ≤ 300 := px3.le
  have hl3 := Nat.le_trans px3.len hl2
  have PX3 := Lib.hid px3
  clear px3
  refine (rrbytes_is HD2.out.rd PX3.out (by omega)).mono ?_
  rintro e u3 ⟨⟨A3, c3, rfl, ho3⟩, hr3, hf3⟩
  have hcvb := bs_run (c := c3) (Sl.of_own ho3)
  have hbq := Blk.of_heap (HD2.out.box hf3).1
  have hq := hbq.cell
  have hqf := hbq.free
  have hd3 : DSt 46 105 RR w (u3.setCell ⟨gm, 2, none⟩ (.string (bstr x3))) gz g gm _ #[.int .i64 (x1 : Int), .string (bstr x2), .string (bstr x3), .int .i64 0, .int .i64 0, .slice none 0 0] s3 := HD2.out.step hr3 hr3.rb hgw hf3 (fun h hb hf => h.far hb (by decide) (by decide) hf) 2 (.string (bstr x3))
  have HD3 := Lib.hid hd3
  clear hd3 hr3 hbq hf3 HD2 ho3
  go_wp2_with fail
  clear hq hqf hcvb
  obtain ⟨ws3, hws3⟩ : ∃ W, u3.setCell ⟨gm, 2, none⟩ (.string (bstr x3)) = W := ⟨_, rfl⟩
  rw [hws3] at HD3 ⊢
  clear hws3
  obtain ⟨x4, s4, px4⟩ := isNum 8 s3
  have hx4 : x4 < 18446744073709551616 := px4.lt
  have hl4 := Nat.le_trans px4.len hl3
  have PX4 := Lib.hid px4
  clear px4
  refine (rrnum_is HD3.out.rd PX4.out (by decide)).mono ?_
  rintro e u4 ⟨rfl, hr4, hf4⟩
  have hbq := Blk.of_heap (HD3.out.box hf4).1
  have hq := hbq.cell
  have hqf := hbq.free
  have hd4 : DSt 46 105 RR w (u4.setCell ⟨gm, 3, none⟩ (.int .i64 (i64of x4))) gz g gm _ #[.int .i64 (x1 : Int), .string (bstr x2), .string (bstr x3), .int .i64 (i64of x4), .int .i64 0, .slice none 0 0] s4 := HD3.out.step hr4 hr4.rb hgw hf4 (fun h hb hf => h.far hb (by decide) (by decide) hf) 3 (.int .i64 (i64of x4))
  have HD4 := Lib.hid hd4
  clear hd4 hr4 hbq hf4 HD3
  go_wp2_with fail
  clear hq hqf
  rw [show wrap64 (x4 : Int) = i64of x4 from rfl]
  obtain ⟨ws4, hws4⟩ : ∃ W, u4.setCell ⟨gm, 3, none⟩ (.int .i64 (i64of x4)) = W := ⟨_, rfl⟩
  rw [hws4] at HD4 ⊢
  clear hws4
  obtain ⟨x5, s5, px5⟩ := isNum 8 s4
  have hx5 : x5 < 18446744073709551616 := px5.lt
  have hl5 := Nat.le_trans px5.len hl4
  have PX5 := Lib.hid px5
  clear px5
  refine (rrnum_is HD4.out.rd PX5.out (by decide)).mono ?_
  rintro e u5 ⟨rfl, hr5, hf5⟩
  have hbq := Blk.of_heap (HD4.out.box hf5).1
  have hq := hbq.cell
  have hqf := hbq.free
  have hd5 : DSt 46 105 RR w (u5.setCell ⟨gm, 4, none⟩ (.int .i64 (i64of x5))) gz g gm _ #[.int .i64 (x1 : Int), .string (bstr x2), .string (bstr x3), .int .i64 (i64of x4), .int .i64 (i64of x5), .slice none 0 0] s5 := HD4.out.step hr5 hr5.rb hgw hf5 (fun h hb hf => h.far hb (by decide) (by decide) hf) 4 (.int .i64 (i64of x5))
  have HD5 := Lib.hid hd5
  clear hd5 hr5 hbq hf5 HD4
  go_wp2_with fail
  clear hq hqf
  rw [show wrap64 (x5 : Int) = i64of x5 from rfl]
  obtain ⟨ws5, hws5⟩ : ∃ W, u5.setCell ⟨gm, 4, none⟩ (.int .i64 (i64of x5)) = W := ⟨_, rfl⟩
  rw [hws5] at HD5 ⊢
  clear hws5
  obtain ⟨x6, s6, px6⟩ := isBytes 4096 s5
  have hx6 : x6.length ≤ 4096 := px6.le
  have hl6 := Nat.le_trans px6.len hl5
  have PX6 := Lib.hid px6
  clear px6
  refine (rrbytes_is HD5.out.rd PX6.out (by omega)).mono ?_
  rintro e u6 ⟨⟨A6, c6, rfl, ho6⟩, hr6, hf6⟩
  have hbq := Blk.of_heap (HD5.out.box hf6).1
  have hq := hbq.cell
  have hqf := hbq.free
  have hd6 : DSt 46 105 RR w (u6.setCell ⟨gm, 5, none⟩ (.slice A6 x6.length c6)) gz g gm _ #[.int .i64 (x1 : Int), .string (bstr x2), .string (bstr x3), .int .i64 (i64of x4), .int .i64 (i64of x5), .slice A6 x6.length c6] s6 := HD5.out.step hr6 hr6.rb hgw hf6 (fun h hb hf => h.far hb (by decide) (by decide) hf) 5 (.slice A6 x6.length c6)
  have ho6 := row_new (HD5.out.box hf6).1 (row_base ho6 HD5.out.bk.size) (by decide) 5 (.slice A6 x6.length c6)
  have HD6 := Lib.hid hd6
  have HO6 := Lib.hid ho6
  clear hd6 hr6 hbq hf6 HD5 ho6
  go_wp2_with fail
  clear hq hqf
  obtain ⟨ws6, hws6⟩ : ∃ W, u6.setCell ⟨gm, 5, none⟩ (.slice A6 x6.length c6) = W := ⟨_, rfl⟩
  rw [hws6] at HD6 HO6 ⊢
  clear hws6
  have hfin := readCq_of PX1.out PX2.out PX3.out PX4.out PX5.out PX6.out
  have HE2 : Hid (E = if s6 = some [] then some ⟨(x1 : Int), bstr x2, bstr x3, i64of x4, i64of x5, x6⟩ else none) := by
    show _ = _
    rw [← HE.out]
    unfold decCq
    rw [HS0.out, hfin]
  clear hfin
  by_cases he : s6 = some []
  · refine (rrend_any HD6.out.rd).mono ?_
    rintro e w3 ⟨hee, nE, hw3⟩
    rw [if_pos he] at hee
    subst hee
    have hd7 := HD6.out.drawn nE
    rw [← hw3] at hd7
    have HD7 := Lib.hid hd7
    have HO7 : Hid (w3.ownsRow w.heap.size 5 1 (.slice A6 x6.length c6) x6.length (bv x6)) := Lib.hid (by rw [hw3]; exact HO6.out)
    clear hd7 hw3
    have hld := ldR_row (P := Tryd.prog) 46 w3 gm 46 #[.int .i64 (x1 : Int), .string (bstr x2), .string (bstr x3), .int .i64 (i64of x4), .int .i64 (i64of x5), .slice A6 x6.length c6] (0, 0) _ HD7.out.hx Tryd.underlying46 rfl (by kernel_rfl)
    have hst := stR_row (P := Tryd.prog) 46 w3 gz #[.int .i64 0, .string { data := #[] }, .string { data := #[] }, .int .i64 0, .int .i64 0, .slice none 0 0] #[.int .i64 (x1 : Int), .string (bstr x2), .string (bstr x3), .int .i64 (i64of x4), .int .i64 (i64of x5), .slice A6 x6.length c6] HD7.out.hz (show (6 : Nat) = 6 from rfl) (by kernel_rfl) (one_all rfl)
    have HSE := Lib.hid he
    have hgzw : w.heap.size ≤ gz := Nat.le_of_eq HGZ.out
    clear he
    go_wp2
    refine bodyPost_ret (v := .tuple #[.agg #[.int .i64 (x1 : Int), .string (bstr x2), .string (bstr x3), .int .i64 (i64of x4), .int .i64 (i64of x5), .slice A6 x6.length c6], .int .i64 0]) (results_row_tmp Tryd.results31 _ _ gz 46 #[.int .i64 (x1 : Int), .string (bstr x2), .string (bstr x3), .int .i64 (i64of x4), .int .i64 (i64of x5), .slice A6 x6.length c6] (0, 0) _ _ rfl rfl (setRow_heap _ gz #[.int .i64 0, .string { data := #[] }, .string { data := #[] }, .int .i64 0, .int .i64 0, .slice none 0 0] _ _ _ HD7.out.hz) Tryd.underlying46 rfl (by kernel_rfl)) rfl ?_
    have hEn : E = some ⟨(x1 : Int), bstr x2, bstr x3, i64of x4, i64of x5, x6⟩ := by rw [HE2.out, if_pos HSE.out]
    rw [hEn]
    have fz : Fr (fun k => k = gz) w3 (w3.setRow gz #[.int .i64 (x1 : Int), .string (bstr x2), .string (bstr x3), .int .i64 (i64of x4), .int .i64 (i64of x5), .slice A6 x6.length c6]) := ⟨rfl, rfl, rfl, by simp [World.setRow], fun k _ hk => setRow_other w3 gz k _ hk⟩
    exact DecC.of_some (x1 : Int) (bstr x2) (bstr x3) (i64of x4) (i64of x5) x6 A6 c6 (below_row HD7.out.bk hgzw _) (fz.owns HO7.out (fun k hk e => owns_ne HO7.out HD7.out.hz (by decide) (by rw [hk, e])))
  · refine (rrend_any HD6.out.rd).mono ?_
    rintro e w3 ⟨hee, nE, hw3⟩
    rw [if_neg he] at hee
    subst hee
    have hd7 := HD6.out.drawn nE
    rw [← hw3] at hd7
    have HD7 := Lib.hid hd7
    have HO7 : Hid (w3.ownsRow w.heap.size 5 1 (.slice A6 x6.length c6) x6.length (bv x6)) := Lib.hid (by rw [hw3]; exact HO6.out)
    clear hd7 hw3
    have hst := stR_row (P := Tryd.prog) 46 w3 gz #[.int .i64 0, .string { data := #[] }, .string { data := #[] }, .int .i64 0, .int .i64 0, .slice none 0 0] #[.int .i64 0, .string { data := #[] }, .string { data := #[] }, .int .i64 0, .int .i64 0, .slice none 0 0] HD7.out.hz (show (6 : Nat) = 6 from rfl) (by kernel_rfl) (one_all rfl)
    have HSE := Lib.hid he
    have hgzw : w.heap.size ≤ gz := Nat.le_of_eq HGZ.out
    clear he
    go_wp2
    refine bodyPost_ret (v := .tuple #[.agg #[.int .i64 0, .string { data := #[] }, .string { data := #[] }, .int .i64 0, .int .i64 0, .slice none 0 0], .int .i64 3]) (results_row_tmp Tryd.results31 _ _ gz 46 #[.int .i64 0, .string { data := #[] }, .string { data := #[] }, .int .i64 0, .int .i64 0, .slice none 0 0] (0, 0) _ _ rfl rfl (setRow_heap _ gz #[.int .i64 0, .string { data := #[] }, .string { data := #[] }, .int .i64 0, .int .i64 0, .slice none 0 0] _ _ _ HD7.out.hz) Tryd.underlying46 rfl (by kernel_rfl)) rfl ?_
    have hEn : E = none := by rw [HE2.out, if_neg HSE.out]
    rw [hEn]
    exact DecC.of_none (below_row HD7.out.bk hgzw _)

set_option maxRecDepth 100000 in
set_option maxHeartbeats 2000000 in
theorem rcqdec_none (A : Option Addr) (c B : Nat) (b : List UInt8) (w : World) (h : Sl w B A (bv b)) (hc : b.length ≤ c) (hl : b.length ≤ 1000000) (hB : B ≤ w.heap.size) (hu : unw b = none) :
    Calls Tryd.prog 31 #[.slice A b.length c] w (DecC none w) := by
  have HU := Lib.hid hu
  have HC := Lib.hid hc
  clear hu hc
  go_enter Tryd.func31, Tryd.ntmps31
  go_wp2_with fail
  have B0 := (Below.refl w.heap.size w).alloc (Nat.le_refl _) (.cells #[.int .i64 0, .string { data := #[] }, .string { data := #[] }, .int .i64 0, .int .i64 0, .slice none 0 0] 46)
  have hz0 := heap_alloc_new w (.cells #[.int .i64 0, .string { data := #[] }, .string { data := #[] }, .int .i64 0, .int .i64 0, .slice none 0 0] 46)
  obtain ⟨X, hX⟩ : ∃ X, w.alloc (.cells #[.int .i64 0, .string { data := #[] }, .string { data := #[] }, .int .i64 0, .int .i64 0, .slice none 0 0] 46) = X := ⟨_, rfl⟩
  obtain ⟨gz, hgz⟩ : ∃ gz, w.heap.size = gz := ⟨_, rfl⟩
  have hgz0 : gz < X.heap.size := by rw [← hX, ← hgz]; simp
  rw [hX] at B0 hz0 ⊢
  rw [hgz] at hz0 ⊢
  have hs0 := B0.size
  have hgzw : w.heap.size ≤ gz := Nat.le_of_eq hgz
  clear hX hgz
  refine (runwrap_any A c B b X (h.below (B0.mono hB)) HC.out (by omega) (Nat.le_trans hB hs0)).mono ?_
  rintro e w1 ⟨⟨A1, c1, he, ho⟩, hb1⟩
  rw [HU.out] at he
  have he : e = .returned (.tuple #[.slice A1 0 c1, .int .i64 3]) := he
  subst he
  have B1 := B0.trans (hb1.mono hs0)
  have hz1 : w1.heap[gz]? = _ := (hb1.block gz hgz0).trans hz0
  have HZ1 := Lib.hid hz1
  have hst := stR_row (P := Tryd.prog) 46 w1 gz #[.int .i64 0, .string { data := #[] }, .string { data := #[] }, .int .i64 0, .int .i64 0, .slice none 0 0] #[.int .i64 0, .string { data := #[] }, .string { data := #[] }, .int .i64 0, .int .i64 0, .slice none 0 0] hz1 (show (6 : Nat) = 6 from rfl) (by kernel_rfl) (one_all rfl)
  clear hz0 hz1 ho hb1
  go_wp2
  refine bodyPost_ret (v := .tuple #[.agg #[.int .i64 0, .string { data := #[] }, .string { data := #[] }, .int .i64 0, .int .i64 0, .slice none 0 0], .int .i64 3]) (results_row_tmp Tryd.results31 _ _ gz 46 #[.int .i64 0, .string { data := #[] }, .string { data := #[] }, .int .i64 0, .int .i64 0, .slice none 0 0] (0, 0) _ _ rfl rfl (setRow_heap _ gz #[.int .i64 0, .string { data := #[] }, .string { data := #[] }, .int .i64 0, .int .i64 0, .slice none 0 0] _ _ _ HZ1.out) Tryd.underlying46 rfl (by kernel_rfl)) rfl ?_
  exact DecC.of_none (below_row B1 hgzw _)

theorem rcqdec_any (A : Option Addr) (c B : Nat) (b : List UInt8) (w : World) (h : Sl w B A (bv b)) (hc : b.length ≤ c) (hl : b.length ≤ 1000000) (hB : B ≤ w.heap.size) :
    Calls Tryd.prog 31 #[.slice A b.length c] w (DecC ((unw b).bind decCq) w) := by
  cases hu : unw b with
  | none => exact rcqdec_none A c B b w h hc hl hB hu
  | some a => exact rcqdec_some A c B b a w h hc hl hB hu
end Go.Proofs.YtohahhijbneheaaDoor
