/- tidelineref05.DecodeAnswer. -/
import Derived.Test.YtohahhijbneheaaDoorCqDr
import Derived.Test.YtohahhijbneheaaDoorAnD
import Derived.Deep.CutRange
import Derived.Deep.RegionLaw
namespace Go.Proofs.YtohahhijbneheaaDoor
open Go.RowKit
set_option linter.unusedVariables false
attribute [local go_sem] Oper.semAt_some

theorem RR.off {M : Nat → Prop} {W W' : World} {g : Nat} {s : PS} (h : RR W g s) (hf : Fr M W W') (h1 : Off M W 5) (h2 : Off M W 105) : RR W' g s := by
  obtain ⟨A, c, l, a, q, k1, k2, k3⟩ := h
  refine ⟨A, c, l, a, q, ⟨h2.cells hf k1.blk, k1.le, k1.ll⟩, ?_, k3⟩
  rcases k2 with e | ⟨b, o, cs, fr, e, hb, r⟩
  · exact .inl e
  · exact .inr ⟨b, o, cs, fr, e, h1.cells hf hb, r⟩
theorem RR.is_gone {w : World} {g : Nat} (h : RR w g none) : w.cell? ⟨g, 2, none⟩ = some (.bool true) := by
  obtain ⟨A, c, l, a, q, h1, -, h3⟩ := h
  cases q
  · cases h3
  · exact (Blk.of_heap h1.blk).cell 2
theorem RR.is_left {w : World} {g : Nat} {l : List UInt8} (h : RR w g (some l)) : w.cell? ⟨g, 2, none⟩ = some (.bool false) := by
  obtain ⟨A, c, l, a, q, h1, -, h3⟩ := h
  cases q
  · exact (Blk.of_heap h1.blk).cell 2
  · cases h3
theorem bszA {g : Nat} {w w' : World} (h : Below g w w') (e : w.heap.size = g) : g ≤ w'.heap.size := e ▸ h.size
/-- The document's DecodeAnswer under way. -/
structure RAS (w0 : World) (gz g gm : Nat) (y1 y2 y3 y4 : Int) (A5 : Option Addr) (c5 : Nat) (d : List UInt8) (v : Value) (xs : List ByteArray) (s : PS) (W : World) : Prop where
  rd : RR W g s
  z : W.heap[gz]? = some (.cells #[.int .i64 0, .int .i64 0, .int .i64 0, .int .i64 0, .slice none 0 0, .slice none 0 0] 50 (0, 0))
  m : W.heap[gm]? = some (.cells #[.int .i64 y1, .int .i64 y2, .int .i64 y3, .int .i64 y4, .slice A5 d.length c5, v] 50 (0, 0))
  dat : W.ownsRow gz 5 1 (.slice A5 d.length c5) d.length (bv d)
  row : W.ownsRow gz 9 1 v xs.length (xs.map Value.string)
  bel : Below gz w0 W
section
variable {w0 : World} {gz g gm : Nat} {y1 y2 y3 y4 : Int} {A5 : Option Addr} {c5 : Nat} {d : List UInt8} {v : Value} {xs : List ByteArray} {s : PS} {W W' : World}
theorem RAS.below (h : RAS w0 gz g gm y1 y2 y3 y4 A5 c5 d v xs s W) (hb : Below W.heap.size W W') (hz : gz ≤ W.heap.size) : RAS w0 gz g gm y1 y2 y3 y4 A5 c5 d v xs s W' := by
  have f : Fr (fun _ => False) W W' := Fr.of_below hb
  exact ⟨h.rd.below hb, f.cells h.z (fun x => x), f.cells h.m (fun x => x), Off.none.row f h.dat, Off.none.row f h.row, h.bel.trans (hb.mono hz)⟩
theorem RAS.read {s' : PS} (h : RAS w0 gz g gm y1 y2 y3 y4 A5 c5 d v xs s W) (hf : Fr (fun k => k = g) W W') (hr : RR W' g s') (hz : gz ≤ W.heap.size) (hg : gz ≤ g) : RAS w0 gz g gm y1 y2 y3 y4 A5 c5 d v xs s' W' := by
  obtain ⟨cs, hb⟩ := h.rd.rb
  exact ⟨hr, (Off.one hb (by decide)).cells hf h.z, (Off.one hb (by decide)).cells hf h.m, (Off.one hb (by decide)).row hf h.dat, (Off.one hb (by decide)).row hf h.row, h.bel.trans (hf.below hz (fun k e => by rw [e]; exact hg))⟩
theorem RAS.grown {w2 : World} {o : Obj} (h : RAS w0 gz g gm y1 y2 y3 y4 A5 c5 d v xs s W) (hgrow : (W.alloc o).grownBy w2 v.ownBlock) : w2.heap[gm]? = some (.cells #[.int .i64 y1, .int .i64 y2, .int .i64 y3, .int .i64 y4, .slice A5 d.length c5, v] 50 (0, 0)) := by
  have f1 : Fr (fun k => v.ownBlock = some k) W w2 := ((Fr.refl _ W).alloc o).grown hgrow (fun k hk _ => hk)
  exact (Off.own h.row (by decide)).cells f1 h.m
theorem RAS.next {w2 : World} {gg cap : Nat} {o : Obj} {z : ByteArray} (h : RAS w0 gz g gm y1 y2 y3 y4 A5 c5 d v xs s W) (hz : gz ≤ W.heap.size) (hzm : gz ≠ gm) (hgm : gz ≤ gm)
    (hown2 : w2.ownsRow gz 9 1 (.slice (some ⟨gg, 0, none⟩) (xs.length + 1) cap) (xs.length + 1) (xs.map Value.string ++ [.string z])) (hgrow : (W.alloc o).grownBy w2 v.ownBlock) :
    RAS w0 gz g gm y1 y2 y3 y4 A5 c5 d (.slice (some ⟨gg, 0, none⟩) (xs.length + 1) cap) (xs ++ [z]) s (w2.setCell ⟨gm, 5, none⟩ (.slice (some ⟨gg, 0, none⟩) (xs.length + 1) cap)) := by
  have f1 : Fr (fun k => v.ownBlock = some k) W w2 := ((Fr.refl _ W).alloc o).grown hgrow (fun k hk _ => hk)
  have o1 : ∀ {t : TypeId}, t ≠ 9 → Off (fun k => v.ownBlock = some k) W t := fun ht => Off.own h.row ht
  have hm2 := h.grown hgrow
  have hz2 := (o1 (t := 50) (by decide)).cells f1 h.z
  have f2 := fr_set w2 gm 5 (.slice (some ⟨gg, 0, none⟩) (xs.length + 1) cap)
  have o2 : ∀ {t : TypeId}, t ≠ 50 → Off (fun k => k = gm) w2 t := fun ht => Off.one hm2 ht
  refine ⟨(h.rd.off f1 (o1 (by decide)) (o1 (by decide))).off f2 (o2 (by decide)) (o2 (by decide)), f2.cells hz2 hzm, cell_set (i := 5) hm2 _, (o2 (by decide)).row f2 ((o1 (by decide)).row f1 h.dat), ?_, ?_⟩
  · rw [List.map_append, List.length_append]
    exact (o2 (by decide)).row f2 hown2
  · exact (h.bel.trans (f1.below hz (fun k e => lst_ge h.row e))).setCell (p := ⟨gm, 5, none⟩) hgm _
end
theorem exec_load_anr (ev : Operand → Value) (d : Option Tmp) (t : TypeId) (x : Operand) (p : String) (af : Array Edge) (g : Option (Nat × Bool)) (w : World) :
    (execOp ev ⟨d, .load 50 x, t, p, af, g⟩).run Tryd.prog w = ldR Tryd.prog 50 (ev x) w := exec_load ev d _ t x p af g w
theorem exec_store_anr (ev : Operand → Value) (d : Option Tmp) (t : TypeId) (x y : Operand) (p : String) (af : Array Edge) (g : Option (Nat × Bool)) (w : World) :
    (execOp ev ⟨d, .store 50 x y, t, p, af, g⟩).run Tryd.prog w = stR Tryd.prog 50 (ev x) (ev y) w := exec_store ev d _ t x y p af g w
attribute [local go_sem ↓] exec_load_anr exec_store_anr

set_option maxRecDepth 100000 in
set_option maxHeartbeats 8000000 in
theorem randec_some (A : Option Addr) (c B : Nat) (b a : List UInt8) (w : World) (h : Sl w B A (bv b)) (hc : b.length ≤ c) (hl : b.length ≤ 1000000) (hB : B ≤ w.heap.size) (hu : unw b = some a) :
    Calls Tryd.prog 33 #[.slice A b.length c] w (DecA (decAn a) w) := by
  have HU := Lib.hid hu
  have HC := Lib.hid hc
  obtain ⟨E, hE⟩ : ∃ E, decAn a = E := ⟨_, rfl⟩
  have hal := unw_len hu
  rw [hE]
  have HE := Lib.hid hE
  clear hu hE hc
  go_enter Tryd.func33, Tryd.ntmps33
  go_wp2_with fail
  have B0 := (Below.refl w.heap.size w).alloc (Nat.le_refl _) (.cells #[.int .i64 0, .int .i64 0, .int .i64 0, .int .i64 0, .slice none 0 0, .slice none 0 0] 50)
  have hz0 := heap_alloc_new w (.cells #[.int .i64 0, .int .i64 0, .int .i64 0, .int .i64 0, .slice none 0 0, .slice none 0 0] 50)
  obtain ⟨X, hX⟩ : ∃ X, w.alloc (.cells #[.int .i64 0, .int .i64 0, .int .i64 0, .int .i64 0, .slice none 0 0, .slice none 0 0] 50) = X := ⟨_, rfl⟩
  obtain ⟨gz, hgz⟩ : ∃ gz, w.heap.size = gz := ⟨_, rfl⟩
  have hgz0 : gz < X.heap.size := by rw [← hX, ← hgz]; simp
  rw [hX] at B0 hz0 ⊢
  rw [hgz] at hz0 ⊢
  have HGZ := Lib.hid hgz
  have hs0 := B0.size
  clear hX hgz
  refine (runwrap_any A c B b X (h.below (B0.mono hB)) HC.out (by omega) (Nat.le_trans hB hs0)).mono ?_
  rintro e w1 ⟨⟨A1, c1, he, ho⟩, hb1⟩
  rw [HU.out] at he ho
  have he : e = .returned (.tuple #[.slice A1 a.length c1, .int .i64 0]) := he
  subst he
  have B1 := B0.trans (hb1.mono hs0)
  have hz1 : w1.heap[gz]? = _ := (hb1.block gz hgz0).trans hz0
  have HO := Lib.hid ho
  clear ho
  go_wp2_with fail
  have hbx := (Below.refl w1.heap.size w1).alloc (Nat.le_refl _) (.cells #[.slice A1 a.length c1, .int .i64 0, .bool false] 105)
  have HR : Hid (RR (w1.alloc (.cells #[.slice A1 a.length c1, .int .i64 0, .bool false] 105)) w1.heap.size (some a)) :=
    ⟨A1, c1, a, 0, false, ⟨heap_alloc_new w1 _, Nat.zero_le _, by omega⟩, (RB.of_own HO.out).below hbx, by simp⟩
  have B2 := B1.trans (hbx.mono B1.size)
  have hz2 : (w1.alloc (.cells #[.slice A1 a.length c1, .int .i64 0, .bool false] 105)).heap[gz]? = _ := (hbx.block gz (Array.getElem?_eq_some_iff.1 hz1).1).trans hz1
  have hgw : w.heap.size ≤ w1.heap.size := B1.size
  obtain ⟨w2, hw2⟩ : ∃ X, w1.alloc (.cells #[.slice A1 a.length c1, .int .i64 0, .bool false] 105) = X := ⟨_, rfl⟩
  obtain ⟨g, hg⟩ : ∃ g, w1.heap.size = g := ⟨_, rfl⟩
  rw [hw2] at B2 hz2
  rw [hw2, hg] at HR ⊢
  rw [hg] at hgw
  have hl0 : psLen (some a) ≤ 1000000 := by show a.length ≤ _; omega
  have hgzg : gz ≠ g := by have := (Array.getElem?_eq_some_iff.1 hz1).1; omega
  clear hw2 hg hbx hb1 hz0 hz1 B1 B0 HO hs0 hgz0
  obtain ⟨s0, hs0⟩ : ∃ s, some a = s := ⟨_, rfl⟩
  have HS0 := Lib.hid hs0
  rw [hs0] at HR hl0
  clear hs0
  obtain ⟨x1, s1, px1⟩ := isNum 8 s0
  have hx1 : x1 < 18446744073709551616 := px1.lt
  have hl1 := Nat.le_trans px1.len hl0
  have PX1 := Lib.hid px1
  clear px1
  refine (rrnum_is HR.out PX1.out (by decide)).mono ?_
  rintro e u1 ⟨rfl, hr1, hf1⟩
  have HR1 := Lib.hid hr1
  have hzu : u1.heap[gz]? = _ := hf1.cells hz2 hgzg
  have HZU := Lib.hid hzu
  have Bu : Below w.heap.size w u1 := B2.trans (hf1.below B2.size (fun k e => by rw [e]; exact hgw))
  clear hr1 hf1 hz2 hzu B2 HR
  have hst1 := stR_row (P := Tryd.prog) 50 (u1.alloc (.cells #[.int .i64 0, .int .i64 0, .int .i64 0, .int .i64 0, .slice none 0 0, .slice none 0 0] 50)) u1.heap.size #[.int .i64 0, .int .i64 0, .int .i64 0, .int .i64 0, .slice none 0 0, .slice none 0 0] #[.int .i64 (wrap64 (x1 : Int)), .int .i64 0, .int .i64 0, .int .i64 0, .slice none 0 0, .slice none 0 0] (heap_alloc_new u1 _) (show (6 : Nat) = 6 from rfl) (by kernel_rfl) (one_all rfl)
  rw [setRow_alloc] at hst1
  go_wp2_with fail
  clear hst1
  rw [show wrap64 (x1 : Int) = i64of x1 from rfl]
  have HD1 : Hid (DSt 50 105 RR w (u1.alloc (.cells #[.int .i64 (i64of x1), .int .i64 0, .int .i64 0, .int .i64 0, .slice none 0 0, .slice none 0 0] 50)) gz g u1.heap.size #[.int .i64 0, .int .i64 0, .int .i64 0, .int .i64 0, .slice none 0 0, .slice none 0 0] #[.int .i64 (i64of x1), .int .i64 0, .int .i64 0, .int .i64 0, .slice none 0 0, .slice none 0 0] s1) := by
    have hba : Below u1.heap.size u1 (u1.alloc (.cells #[.int .i64 (i64of x1), .int .i64 0, .int .i64 0, .int .i64 0, .slice none 0 0, .slice none 0 0] 50)) := (Below.refl _ _).alloc (Nat.le_refl _) _
    refine ⟨HR1.out.below hba, (HR1.out.below hba).rb, heap_alloc_new _ _, (hba.block gz ?_).trans HZU.out, Bu.trans (hba.mono Bu.size), Bu.size, ?_, by decide⟩
    · exact (Array.getElem?_eq_some_iff.1 HZU.out).1
    · have := (Array.getElem?_eq_some_iff.1 HZU.out).1; omega
  obtain ⟨ws1, hws1⟩ : ∃ X, u1.alloc (.cells #[.int .i64 (i64of x1), .int .i64 0, .int .i64 0, .int .i64 0, .slice none 0 0, .slice none 0 0] 50) = X := ⟨_, rfl⟩
  obtain ⟨gm, hgm⟩ : ∃ gm, u1.heap.size = gm := ⟨_, rfl⟩
  rw [hws1, hgm] at HD1 ⊢
  clear hws1 hgm HR1 HZU Bu
  obtain ⟨x2, s2, px2⟩ := isNum 8 s1
  have hx2 : x2 < 18446744073709551616 := px2.lt
  have hl2 := Nat.le_trans px2.len hl1
  have PX2 := Lib.hid px2
  clear px2
  refine (rrnum_is HD1.out.rd PX2.out (by decide)).mono ?_
  rintro e u2 ⟨rfl, hr2, hf2⟩
  have hbq := Blk.of_heap (HD1.out.box hf2).1
  have hq := hbq.cell
  have hqf := hbq.free
  have hd2 : DSt 50 105 RR w (u2.setCell ⟨gm, 1, none⟩ (.int .i64 (i64of x2))) gz g gm _ #[.int .i64 (i64of x1), .int .i64 (i64of x2), .int .i64 0, .int .i64 0, .slice none 0 0, .slice none 0 0] s2 := HD1.out.step hr2 hr2.rb hgw hf2 (fun h hb hf => h.far hb (by decide) (by decide) hf) 1 (.int .i64 (i64of x2))
  have HD2 := Lib.hid hd2
  clear hd2 hr2 hbq hf2 HD1
  go_wp2_with fail
  clear hq hqf
  rw [show wrap64 (x2 : Int) = i64of x2 from rfl]
  obtain ⟨ws2, hws2⟩ : ∃ W, u2.setCell ⟨gm, 1, none⟩ (.int .i64 (i64of x2)) = W := ⟨_, rfl⟩
  rw [hws2] at HD2 ⊢
  clear hws2
  obtain ⟨x3, s3, px3⟩ := isNum 8 s2
  have hx3 : x3 < 18446744073709551616 := px3.lt
  have hl3 := Nat.le_trans px3.len hl2
  have PX3 := Lib.hid px3
  clear px3
  refine (rrnum_is HD2.out.rd PX3.out (by decide)).mono ?_
  rintro e u3 ⟨rfl, hr3, hf3⟩
  have hbq := Blk.of_heap (HD2.out.box hf3).1
  have hq := hbq.cell
  have hqf := hbq.free
  have hd3 : DSt 50 105 RR w (u3.setCell ⟨gm, 2, none⟩ (.int .i64 (i64of x3))) gz g gm _ #[.int .i64 (i64of x1), .int .i64 (i64of x2), .int .i64 (i64of x3), .int .i64 0, .slice none 0 0, .slice none 0 0] s3 := HD2.out.step hr3 hr3.rb hgw hf3 (fun h hb hf => h.far hb (by decide) (by decide) hf) 2 (.int .i64 (i64of x3))
  have HD3 := Lib.hid hd3
  clear hd3 hr3 hbq hf3 HD2
  go_wp2_with fail
  clear hq hqf
  rw [show wrap64 (x3 : Int) = i64of x3 from rfl]
  obtain ⟨ws3, hws3⟩ : ∃ W, u3.setCell ⟨gm, 2, none⟩ (.int .i64 (i64of x3)) = W := ⟨_, rfl⟩
  rw [hws3] at HD3 ⊢
  clear hws3
  obtain ⟨x4, s4, px4⟩ := isNum 8 s3
  have hx4 : x4 < 18446744073709551616 := px4.lt
  have hl4 := Nat.le_trans px4.len hl3
  have PX4 := Lib.hid px4
  clear px4
  refine (rrnum_is HD3.out.rd PX4.out (by decide)).mono ?_
  rintro e u4 ⟨rfl, hr4, hf4⟩
  have hbq := Blk.of_heap (HD3.out.box hf4).1
  have hq := hbq.cell
  have hqf := hbq.free
  have hd4 : DSt 50 105 RR w (u4.setCell ⟨gm, 3, none⟩ (.int .i64 (i64of x4))) gz g gm _ #[.int .i64 (i64of x1), .int .i64 (i64of x2), .int .i64 (i64of x3), .int .i64 (i64of x4), .slice none 0 0, .slice none 0 0] s4 := HD3.out.step hr4 hr4.rb hgw hf4 (fun h hb hf => h.far hb (by decide) (by decide) hf) 3 (.int .i64 (i64of x4))
  have HD4 := Lib.hid hd4
  clear hd4 hr4 hbq hf4 HD3
  go_wp2_with fail
  clear hq hqf
  rw [show wrap64 (x4 : Int) = i64of x4 from rfl]
  obtain ⟨ws4, hws4⟩ : ∃ W, u4.setCell ⟨gm, 3, none⟩ (.int .i64 (i64of x4)) = W := ⟨_, rfl⟩
  rw [hws4] at HD4 ⊢
  clear hws4
  obtain ⟨x5, s5, px5⟩ := isBytes 4096 s4
  have hx5 : x5.length ≤ 4096 := px5.le
  have hl5 := Nat.le_trans px5.len hl4
  have PX5 := Lib.hid px5
  clear px5
  refine (rrbytes_is HD4.out.rd PX5.out (by omega)).mono ?_
  rintro e u5 ⟨⟨A5, c5, rfl, ho5⟩, hr5, hf5⟩
  have hbq := Blk.of_heap (HD4.out.box hf5).1
  have hq := hbq.cell
  have hqf := hbq.free
  have hd5 : DSt 50 105 RR w (u5.setCell ⟨gm, 4, none⟩ (.slice A5 x5.length c5)) gz g gm _ #[.int .i64 (i64of x1), .int .i64 (i64of x2), .int .i64 (i64of x3), .int .i64 (i64of x4), .slice A5 x5.length c5, .slice none 0 0] s5 := HD4.out.step hr5 hr5.rb hgw hf5 (fun h hb hf => h.far hb (by decide) (by decide) hf) 4 (.slice A5 x5.length c5)
  have ho5 := row_new (HD4.out.box hf5).1 (row_base ho5 HD4.out.bk.size) (by decide) 4 (.slice A5 x5.length c5)
  have HD5 := Lib.hid hd5
  have HO5 := Lib.hid ho5
  clear hd5 hr5 hbq hf5 HD4 ho5
  go_wp2_with fail
  clear hq hqf
  obtain ⟨ws5, hws5⟩ : ∃ W, u5.setCell ⟨gm, 4, none⟩ (.slice A5 x5.length c5) = W := ⟨_, rfl⟩
  rw [hws5] at HD5 HO5 ⊢
  clear hws5
  have hgzw := HGZ.out
  have hsm : RAS w gz g gm (i64of x1) (i64of x2) (i64of x3) (i64of x4) A5 c5 x5 (.slice none 0 0) [] s5 ws5 := ⟨HD5.out.rd, HD5.out.hz, HD5.out.hx, by rw [← hgzw]; exact HO5.out, World.ownsRow_nil _ _ _ _, by rw [← hgzw]; exact HD5.out.bk⟩
  have hzm : gz ≠ gm := fun e => HD5.out.ne e.symm
  have hgm : gz ≤ gm := by rw [← hgzw]; exact HD5.out.ge
  have hgg : gz ≤ g := by rw [← hgzw]; exact hgw
  have HRS := Lib.hid hsm
  obtain ⟨n, s6, px6⟩ := isCount 64 s5
  have hn64 : n ≤ 64 := px6.le
  have hfin := readAn_of PX1.out PX2.out PX3.out PX4.out PX5.out (show plist 64 oneS s5 = ((plist 64 oneS s5).1, (plist 64 oneS s5).2) from rfl)
  have HPL : Hid (plist 64 oneS s5 = if (pmany oneS n s6).2 = none then ([], none) else pmany oneS n s6) := Lib.hid (by
    unfold plist
    rw [show pcount 64 s5 = (n, s6) from px6])
  have HE2 : Hid (E = if (plist 64 oneS s5).2 = some [] then some ⟨i64of x1, i64of x2, i64of x3, i64of x4, x5, (plist 64 oneS s5).1⟩ else none) := Lib.hid (by
    rw [← HE.out]
    unfold decAn
    rw [HS0.out, hfin])
  have PX6 := Lib.hid px6
  clear hfin px6 hsm hgzw HD5 HO5
  refine (rrcount_is HRS.out.rd PX6.out (by decide)).mono ?_
  rintro e u6 ⟨rfl, hr6, hf6⟩
  have HS6 := Lib.hid (HRS.out.read hf6 hr6 (bszA HRS.out.bel HGZ.out) hgg)
  clear hr6 hf6 HRS
  go_wp2_with fail
  go_loopw [9] (fun sk wr => ∃ (k : Nat) (v : Value) (xs : List ByteArray) (s : PS), k ≤ n ∧ sk = .int .i64 (k : Int) ∧ Hid (xs.length = k) ∧ Hid (RAS w gz g gm (i64of x1) (i64of x2) (i64of x3) (i64of x4) A5 c5 x5 v xs s wr) ∧ Hid (pmany oneS k s6 = (xs, s)) ∧ Hid (psLen s ≤ 1000000)) (fun sk _ => n - (intOf sk).toNat)
  case atStart => exact ⟨0, _, [], s6, Nat.zero_le _, rfl, Lib.hid rfl, HS6, Lib.hid rfl, Lib.hid (Nat.le_trans (show psLen s6 ≤ psLen s5 from PX6.out.len) (by omega))⟩
  case round =>
    obtain ⟨k, v, xs, s, hk, rfl, HXL, HS, HPM, HPS⟩ := hrel
    clear HS6
    obtain ⟨Av, cv, rfl⟩ := own_form HS.out.row
    by_cases hgo : k < n ∧ s ≠ none
    · obtain ⟨hlt, hsn⟩ := hgo
      obtain ⟨ls, rfl⟩ : ∃ ls, s = some ls := by cases s with | none => exact absurd rfl hsn | some l => exact ⟨l, rfl⟩
      have hi1 : (k : Int) < (n : Int) := by omega
      have hwr := HS.out.rd.is_left
      obtain ⟨x, s7, px7⟩ := isBytes 300 (some ls)
      have hle7 := px7.len
      have PX7 := Lib.hid px7
      have HPS7 : Hid (psLen s7 ≤ 1000000) := Lib.hid (Nat.le_trans hle7 HPS.out)
      clear px7 hsn hle7
      have hmb := Blk.of_heap HS.out.m
      have hm5 : wr.cell? ⟨gm, 5, none⟩ = some (.slice Av xs.length cv) := hmb.cell 5
      have hml := hmb.lt
      have hmf := hmb.free 5
      have HSD := Lib.hid (HS.out.below ((Below.refl _ wr).drew) (bszA HS.out.bel HGZ.out))
      have H63 : Hid (xs.length + 1 ≤ maxLen) := Lib.hid (by have := HXL.out; unfold maxLen; omega)
      have HBY : Hid ((xs.length + 1) * 16 ≤ 140737488355328) := Lib.hid (by have := HXL.out; omega)
      clear hmb
      go_upto_region 14 with fail
      have HPM2 : Hid (pmany oneS (k + 1) s6 = (xs ++ [bstr x], s7)) := Lib.hid (by
        rw [pmany_snoc oneS _ _ _ _ HPM.out]
        unfold oneS
        rw [show pbytes 300 (some ls) = (x, s7) from PX7.out])
      go_region_law
        (first
          | (obtain ⟨i0, hi0, hz0, hz1, hz2⟩ := info_parts info_strL
             refine step_append_lies _ (by rfl) _ _ _ (by rfl) gz 9 i0 _ 1 16 Tryd.underlying48 hi0 hz0 hz1 hz2 rfl (by omega) (.slice Av xs.length cv) xs.length (xs.map Value.string) (by rfl) (HS1.out.row.alloc _)
               ⟨w1.heap.size, 0, none⟩ 1 1 [.string (bstr x)] (by rfl) (by rfl) (World.news_of_block (cs := #[.string (bstr x)]) (t := 9) (fr := (0, 0)) (heap_alloc_new w1 _)) (by simp [Value.oneCell'])
               (by omega) H63.out HBY.out (by have := bszA HS1.out.bel HGZ.out; simp; omega) (w1.heap.size + 1) (by simp) ?_
             intro gg cap w2 hown2 hgrow hat hlt2
             clear hi0 hz0 hz1 hz2 i0
             have hmg := Blk.of_heap (HS1.out.grown hgrow)
             have hc2 := hmg.cell 5
             have hf2 := hmg.free 5
             have hl2 := hmg.lt
             have HO2 := Lib.hid hown2
             have HG2 := Lib.hid hgrow
             clear hown2 hgrow hat hlt2 hmg)
          | (go_simp; go_at_call 73
             refine (rrbytes_is HSD.out.rd PX7.out (by decide)).mono ?_
             rintro e w1 ⟨⟨A6, c6, rfl, ho6⟩, hr6, hf6⟩
             have hcvb := bs_run (c := c6) (Sl.of_own ho6)
             have HS1 := Lib.hid (HSD.out.read hf6 hr6 (bszA HSD.out.bel HGZ.out) hgg)
             have hmb1 := Blk.of_heap HS1.out.m
             have hm51 : w1.cell? ⟨gm, 5, none⟩ = some (.slice Av xs.length cv) := hmb1.cell 5
             have hml1 := hmb1.lt
             clear ho6 hr6 hf6 hmb1)
          | fail "arm")
      all_goals
        have HS2 := Lib.hid (HS1.out.next (bszA HS1.out.bel HGZ.out) hzm hgm HO2.out HG2.out)
        go_wp2_with fail
        go_roundw
        case rel => exact ⟨k + 1, _, _, s7, by omega, by go_num, Lib.hid (by rw [List.length_append, HXL.out]; rfl), HS2, HPM2, HPS7⟩
        case measure => simp [intOf]; omega
    · have HFIN : Hid (pmany oneS n s6 = (xs, s)) := Lib.hid (by
        by_cases hkn : k < n
        · have hsn : s = none := by cases s with | none => rfl | some l => exact absurd ⟨hkn, by simp⟩ hgo
          subst hsn
          exact pmany_gone oneS _ _ _ n HPM.out hk
        · obtain rfl : k = n := by omega
          exact HPM.out)
      have htest : (k = n ∧ ¬ ((k : Int) < (k : Int))) ∨ ((k : Int) < (n : Int) ∧ wr.cell? ⟨g, 2, none⟩ = some (.bool true)) := by
        by_cases hkn : k < n
        · have hsn : s = none := by cases s with | none => rfl | some l => exact absurd ⟨hkn, by simp⟩ hgo
          subst hsn
          exact .inr ⟨by omega, HS.out.rd.is_gone⟩
        · exact .inl ⟨by omega, by omega⟩
      clear hgo
      rcases htest with ⟨rfl, hend⟩ | ⟨hi1, hwr⟩
      all_goals
        go_wp2_with fail
        refine (rrend_any HS.out.rd).mono ?_
        rintro e w3 ⟨hee, nE, hw3⟩
        have HS7 : Hid (RAS w gz g gm (i64of x1) (i64of x2) (i64of x3) (i64of x4) A5 c5 x5 (.slice Av xs.length cv) xs s w3) := Lib.hid (by rw [hw3]; exact HS.out.below (bdrewN_refl _ _ nE) (bszA HS.out.bel HGZ.out))
        clear hw3
        by_cases he : s = some []
        · rw [if_pos he] at hee
          subst hee
          have hld := ldR_row (P := Tryd.prog) 50 w3 gm 50 _ (0, 0) _ HS7.out.m Tryd.underlying50 rfl (by kernel_rfl)
          have hst := stR_row (P := Tryd.prog) 50 w3 gz #[.int .i64 0, .int .i64 0, .int .i64 0, .int .i64 0, .slice none 0 0, .slice none 0 0] #[.int .i64 (i64of x1), .int .i64 (i64of x2), .int .i64 (i64of x3), .int .i64 (i64of x4), .slice A5 x5.length c5, .slice Av xs.length cv] HS7.out.z (show (6 : Nat) = 6 from rfl) (by kernel_rfl) (one_all rfl)
          have HSE := Lib.hid he
          clear he
          go_wp2
          refine bodyPost_ret (v := .tuple #[.agg #[.int .i64 (i64of x1), .int .i64 (i64of x2), .int .i64 (i64of x3), .int .i64 (i64of x4), .slice A5 x5.length c5, .slice Av xs.length cv], .int .i64 0]) (results_row_tmp Tryd.results33 _ _ gz 50 #[.int .i64 (i64of x1), .int .i64 (i64of x2), .int .i64 (i64of x3), .int .i64 (i64of x4), .slice A5 x5.length c5, .slice Av xs.length cv] (0, 0) _ _ rfl rfl (setRow_heap _ gz #[.int .i64 0, .int .i64 0, .int .i64 0, .int .i64 0, .slice none 0 0, .slice none 0 0] _ _ _ HS7.out.z) Tryd.underlying50 rfl (by kernel_rfl)) rfl ?_
          have hEn : E = some ⟨i64of x1, i64of x2, i64of x3, i64of x4, x5, xs⟩ := by
            rw [HE2.out, HPL.out, HFIN.out, HSE.out]
            rfl
          rw [hEn]
          have fz : Fr (fun k => k = gz) w3 (w3.setRow gz #[.int .i64 (i64of x1), .int .i64 (i64of x2), .int .i64 (i64of x3), .int .i64 (i64of x4), .slice A5 x5.length c5, .slice Av xs.length cv]) := ⟨rfl, rfl, rfl, by simp [World.setRow], fun k _ hk => setRow_other w3 gz k _ hk⟩
          have hgzw := HGZ.out
          have hbk : Below w.heap.size w w3 := by rw [hgzw]; exact HS7.out.bel
          exact DecA.of_some (i64of x1) (i64of x2) (i64of x3) (i64of x4) x5 xs A5 c5 Av cv (below_row hbk (Nat.le_of_eq hgzw) _) (by rw [hgzw]; exact fz.owns HS7.out.dat (fun k hk e => owns_ne HS7.out.dat HS7.out.z (by decide) (by rw [hk, e]))) (by rw [hgzw]; exact fz.owns HS7.out.row (fun k hk e => owns_ne HS7.out.row HS7.out.z (by decide) (by rw [hk, e])))
        · rw [if_neg he] at hee
          subst hee
          have hst := stR_row (P := Tryd.prog) 50 w3 gz #[.int .i64 0, .int .i64 0, .int .i64 0, .int .i64 0, .slice none 0 0, .slice none 0 0] #[.int .i64 0, .int .i64 0, .int .i64 0, .int .i64 0, .slice none 0 0, .slice none 0 0] HS7.out.z (show (6 : Nat) = 6 from rfl) (by kernel_rfl) (one_all rfl)
          have HSE := Lib.hid he
          clear he
          go_wp2
          refine bodyPost_ret (v := .tuple #[.agg #[.int .i64 0, .int .i64 0, .int .i64 0, .int .i64 0, .slice none 0 0, .slice none 0 0], .int .i64 3]) (results_row_tmp Tryd.results33 _ _ gz 50 #[.int .i64 0, .int .i64 0, .int .i64 0, .int .i64 0, .slice none 0 0, .slice none 0 0] (0, 0) _ _ rfl rfl (setRow_heap _ gz #[.int .i64 0, .int .i64 0, .int .i64 0, .int .i64 0, .slice none 0 0, .slice none 0 0] _ _ _ HS7.out.z) Tryd.underlying50 rfl (by kernel_rfl)) rfl ?_
          have hEn : E = none := by
            rw [HE2.out, HPL.out, HFIN.out]
            cases s with
            | none => rw [if_pos (show ((xs, none) : List ByteArray × PS).2 = none from rfl)]; rfl
            | some l => rw [if_neg (show ¬ ((xs, some l) : List ByteArray × PS).2 = none by simp), if_neg (show ¬ ((xs, some l) : List ByteArray × PS).2 = some [] from HSE.out)]
          rw [hEn]
          have hgzw := HGZ.out
          have hbk : Below w.heap.size w w3 := by rw [hgzw]; exact HS7.out.bel
          exact DecA.of_none' (below_row hbk (Nat.le_of_eq hgzw) _)

set_option maxRecDepth 100000 in
set_option maxHeartbeats 2000000 in
theorem randec_none (A : Option Addr) (c B : Nat) (b : List UInt8) (w : World) (h : Sl w B A (bv b)) (hc : b.length ≤ c) (hl : b.length ≤ 1000000) (hB : B ≤ w.heap.size) (hu : unw b = none) :
    Calls Tryd.prog 33 #[.slice A b.length c] w (DecA none w) := by
  have HU := Lib.hid hu
  have HC := Lib.hid hc
  clear hu hc
  go_enter Tryd.func33, Tryd.ntmps33
  go_wp2_with fail
  have B0 := (Below.refl w.heap.size w).alloc (Nat.le_refl _) (.cells #[.int .i64 0, .int .i64 0, .int .i64 0, .int .i64 0, .slice none 0 0, .slice none 0 0] 50)
  have hz0 := heap_alloc_new w (.cells #[.int .i64 0, .int .i64 0, .int .i64 0, .int .i64 0, .slice none 0 0, .slice none 0 0] 50)
  obtain ⟨X, hX⟩ : ∃ X, w.alloc (.cells #[.int .i64 0, .int .i64 0, .int .i64 0, .int .i64 0, .slice none 0 0, .slice none 0 0] 50) = X := ⟨_, rfl⟩
  obtain ⟨gz, hgz⟩ : ∃ gz, w.heap.size = gz := ⟨_, rfl⟩
  have hgz0 : gz < X.heap.size := by rw [← hX, ← hgz]; simp
  rw [hX] at B0 hz0 ⊢
  rw [hgz] at hz0 ⊢
  have hs0 := B0.size
  have hgzw : w.heap.size ≤ gz := Nat.le_of_eq hgz
  clear hX hgz
  refine (runwrap_any A c B b X (h.below (B0.mono hB)) HC.out (by omega) (Nat.le_trans hB hs0)).mono ?_
  rintro e w1 ⟨⟨A1, c1, he, ho⟩, hb1⟩
  rw [HU.out] at he
  have he : e = .returned (.tuple #[.slice A1 0 c1, .int .i64 3]) := he
  subst he
  have B1 := B0.trans (hb1.mono hs0)
  have hz1 : w1.heap[gz]? = _ := (hb1.block gz hgz0).trans hz0
  have HZ1 := Lib.hid hz1
  have hst := stR_row (P := Tryd.prog) 50 w1 gz #[.int .i64 0, .int .i64 0, .int .i64 0, .int .i64 0, .slice none 0 0, .slice none 0 0] #[.int .i64 0, .int .i64 0, .int .i64 0, .int .i64 0, .slice none 0 0, .slice none 0 0] hz1 (show (6 : Nat) = 6 from rfl) (by kernel_rfl) (one_all rfl)
  clear hz0 hz1 ho hb1
  go_wp2
  refine bodyPost_ret (v := .tuple #[.agg #[.int .i64 0, .int .i64 0, .int .i64 0, .int .i64 0, .slice none 0 0, .slice none 0 0], .int .i64 3]) (results_row_tmp Tryd.results33 _ _ gz 50 #[.int .i64 0, .int .i64 0, .int .i64 0, .int .i64 0, .slice none 0 0, .slice none 0 0] (0, 0) _ _ rfl rfl (setRow_heap _ gz #[.int .i64 0, .int .i64 0, .int .i64 0, .int .i64 0, .slice none 0 0, .slice none 0 0] _ _ _ HZ1.out) Tryd.underlying50 rfl (by kernel_rfl)) rfl ?_
  exact DecA.of_none' (below_row B1 hgzw _)

theorem randec_any (A : Option Addr) (c B : Nat) (b : List UInt8) (w : World) (h : Sl w B A (bv b)) (hc : b.length ≤ c) (hl : b.length ≤ 1000000) (hB : B ≤ w.heap.size) :
    Calls Tryd.prog 33 #[.slice A b.length c] w (DecA ((unw b).bind decAn) w) := by
  cases hu : unw b with
  | none => exact randec_none A c B b w h hc hl hB hu
  | some a => exact randec_some A c B b a w h hc hl hB hu
end Go.Proofs.YtohahhijbneheaaDoor
