/- call.DecodeAnswer. -/
import Derived.Test.YtjkilpjdgjijiaaDoorCqD
import Derived.Test.YtjkilpjdgjijiaaDoorLstS
namespace Go.Proofs.YtjkilpjdgjijiaaDoor
open Go.RowKit
set_option linter.unusedVariables false

/-- The answer that is none. -/
abbrev zAn : An := ⟨0, 0, 0, 0, [], []⟩
/-- What a Decode comes to. -/
def DecA (o : Option An) (w : World) (e : Ending) (w' : World) : Prop :=
  ∃ A1 c1 A2 c2, e = .returned (.tuple #[(o.getD zAn).val A1 c1 A2 c2, .int .i64 (if o.isSome then 0 else 3)]) ∧ Below w.heap.size w w' ∧ w'.ownsRow w.heap.size 5 1 (.slice A1 (o.getD zAn).d.length c1) (o.getD zAn).d.length (bv (o.getD zAn).d) ∧ w'.ownsRow w.heap.size 9 1 (.slice A2 (o.getD zAn).ns.length c2) (o.getD zAn).ns.length ((o.getD zAn).ns.map Value.string)
theorem DecA.of_none {w w' : World} (hb : Below w.heap.size w w') : DecA none w (.returned (.tuple #[zAn.val none 0 none 0, .int .i64 3])) w' :=
  ⟨none, 0, none, 0, rfl, hb, World.ownsRow_nil _ _ _ _, World.ownsRow_nil _ _ _ _⟩
theorem DecA.of_none' {w w' : World} (hb : Below w.heap.size w w') : DecA none w (.returned (.tuple #[.agg #[.int .i64 0, .int .i64 0, .int .i64 0, .int .i64 0, .slice none 0 0, .slice none 0 0], .int .i64 3])) w' := DecA.of_none hb
theorem DecA.of_some {w w' : World} (y1 y2 y3 y4 : Int) (y5 : List UInt8) (y6 : List ByteArray) (A1 : Option Addr) (c1 : Nat) (A2 : Option Addr) (c2 : Nat) (hb : Below w.heap.size w w')
    (h1 : w'.ownsRow w.heap.size 5 1 (.slice A1 y5.length c1) y5.length (bv y5)) (h2 : w'.ownsRow w.heap.size 9 1 (.slice A2 y6.length c2) y6.length (y6.map Value.string)) :
    DecA (some ⟨y1, y2, y3, y4, y5, y6⟩) w (.returned (.tuple #[.agg #[.int .i64 y1, .int .i64 y2, .int .i64 y3, .int .i64 y4, .slice A1 y5.length c1, .slice A2 y6.length c2], .int .i64 0])) w' :=
  ⟨A1, c1, A2, c2, rfl, hb, h1, h2⟩
set_option maxHeartbeats 1000000 in
theorem dec_text {g : Nat} (W : World) (s : PS) (h : Rd W g s) (hl : psLen s ≤ 1000000) :
    Calls Tryd.prog 34 #[.pointer (some ⟨g, 0, none⟩)] W fun e W' => ∃ b7 : ByteArray, e = .returned (.string b7) ∧ id b7 = (oneS s).1 ∧ DatOk 3 (fun _ : ByteArray => none) W' W.heap.size b7 ∧ Rd W' g (oneS s).2 ∧ Fr (fun k => k = g) W W' := by
  obtain ⟨x, r, hx⟩ := isBytes 300 s
  have e1 : oneS s = (bstr x, r) := by unfold oneS; rw [show pbytes 300 s = (x, r) from hx]
  rw [e1]
  have H := Lib.hid h
  have HX := Lib.hid hx
  clear h hx e1
  go_enter Tryd.func34, Tryd.ntmps34
  go_wp2_with fail
  refine (rbytes_is H.out HX.out (by omega) (by decide)).mono ?_
  rintro e w' ⟨⟨A, c, rfl, ho⟩, h2, hf⟩
  have hcvb := bs_run (c := c) (Sl.of_own ho)
  clear ho
  go_wp2
  go_ret
  exact ⟨_, rfl, rfl, (fun v n xs e => by cases e), h2, hf⟩
theorem exec_load_an (ev : Operand → Value) (d : Option Tmp) (t : TypeId) (x : Operand) (p : String) (af : Array Edge) (g : Option (Nat × Bool)) (w : World) :
    (execOp ev ⟨d, .load 30 x, t, p, af, g⟩).run Tryd.prog w = ldR Tryd.prog 30 (ev x) w := exec_load ev d _ t x p af g w
theorem exec_store_an (ev : Operand → Value) (d : Option Tmp) (t : TypeId) (x y : Operand) (p : String) (af : Array Edge) (g : Option (Nat × Bool)) (w : World) :
    (execOp ev ⟨d, .store 30 x y, t, p, af, g⟩).run Tryd.prog w = stR Tryd.prog 30 (ev x) (ev y) w := exec_store ev d _ t x y p af g w
attribute [local go_sem ↓] exec_load_an exec_store_an

set_option maxRecDepth 100000 in
set_option maxHeartbeats 8000000 in
theorem andec_some (A : Option Addr) (c B : Nat) (b a : List UInt8) (w : World) (hT : Tab w) (h : Sl w B A (bv b)) (hc : b.length ≤ c) (hl : b.length ≤ 1000000) (hB : B ≤ w.heap.size) (hu : unw b = some a) :
    Calls Tryd.prog 10 #[.slice A b.length c] w (DecA (decAn a) w) := by
  have HU := Lib.hid hu
  have HC := Lib.hid hc
  obtain ⟨E, hE⟩ : ∃ E, decAn a = E := ⟨_, rfl⟩
  have hal := unw_len hu
  rw [hE]
  have HE := Lib.hid hE
  clear hu hE hc
  go_enter Tryd.func10, Tryd.ntmps10
  go_wp2_with fail
  have B0 := (Below.refl w.heap.size w).alloc (Nat.le_refl _) (.cells #[.int .i64 0, .int .i64 0, .int .i64 0, .int .i64 0, .slice none 0 0, .slice none 0 0] 30)
  have hT0 := hT.below hT.1 B0
  have hz0 := heap_alloc_new w (.cells #[.int .i64 0, .int .i64 0, .int .i64 0, .int .i64 0, .slice none 0 0, .slice none 0 0] 30)
  obtain ⟨X, hX⟩ : ∃ X, w.alloc (.cells #[.int .i64 0, .int .i64 0, .int .i64 0, .int .i64 0, .slice none 0 0, .slice none 0 0] 30) = X := ⟨_, rfl⟩
  obtain ⟨gz, hgz⟩ : ∃ gz, w.heap.size = gz := ⟨_, rfl⟩
  have hgz0 : gz < X.heap.size := by rw [← hX, ← hgz]; simp
  rw [hX] at B0 hT0 hz0 ⊢
  rw [hgz] at hz0 ⊢
  have HGZ := Lib.hid hgz
  have hs0 := B0.size
  clear hX hgz
  refine (unwrap_any A c B b X hT0 (h.below (B0.mono hB)) HC.out (by omega) (Nat.le_trans hB hs0)).mono ?_
  rintro e w1 ⟨⟨A1, c1, he, ho⟩, hb1⟩
  rw [HU.out] at he ho
  have he : e = .returned (.tuple #[.slice A1 a.length c1, .int .i64 0]) := he
  subst he
  have B1 := B0.trans (hb1.mono hs0)
  have hz1 : w1.heap[gz]? = _ := (hb1.block gz hgz0).trans hz0
  have HO := Lib.hid ho
  clear ho
  go_wp2_with fail
  refine (read_ok A1 c1 w1.heap.size a w1 (Sl.of_own HO.out) (fun e => by have hh := HO.out; rw [e] at hh; exact owns_nil0 hh) (by omega) (Nat.le_refl _)).mono ?_
  rintro e w2 ⟨g, A2, c2, rfl, hr, hg1, hb2⟩
  have B2 := B1.trans (hb2.mono B1.size)
  have hgz1 : gz < w1.heap.size := (Array.getElem?_eq_some_iff.1 hz1).1
  have hz2 : w2.heap[gz]? = _ := (hb2.block gz hgz1).trans hz1
  have HR := Lib.hid (Rd.left hr)
  have hgl := HR.out.lt
  clear hr hb1 hb2 hz0 hz1
  go_wp2_with fail
  have HD0 : Hid (DSt 30 99 Rd w (w2.alloc (.cells #[.int .i64 0, .int .i64 0, .int .i64 0, .int .i64 0, .slice none 0 0, .slice none 0 0] 30)) gz g w2.heap.size #[.int .i64 0, .int .i64 0, .int .i64 0, .int .i64 0, .slice none 0 0, .slice none 0 0] #[.int .i64 0, .int .i64 0, .int .i64 0, .int .i64 0, .slice none 0 0, .slice none 0 0] (some a)) := by
    have hba : Below w2.heap.size w2 (w2.alloc (.cells #[.int .i64 0, .int .i64 0, .int .i64 0, .int .i64 0, .slice none 0 0, .slice none 0 0] 30)) := (Below.refl _ _).alloc (Nat.le_refl _) _
    refine ⟨HR.out.below hba, (HR.out.below hba).rb, heap_alloc_new _ _, (hba.block gz ?_).trans hz2, B2.trans (hba.mono B2.size), B2.size, ?_, by decide⟩
    · exact (Array.getElem?_eq_some_iff.1 hz2).1
    · have := (Array.getElem?_eq_some_iff.1 hz2).1; omega
  have hgw : w.heap.size ≤ g := Nat.le_trans B1.size hg1
  obtain ⟨ws0, hw0⟩ : ∃ X, w2.alloc (.cells #[.int .i64 0, .int .i64 0, .int .i64 0, .int .i64 0, .slice none 0 0, .slice none 0 0] 30) = X := ⟨_, rfl⟩
  obtain ⟨gm, hgm⟩ : ∃ gm, w2.heap.size = gm := ⟨_, rfl⟩
  rw [hw0, hgm] at HD0 ⊢
  have hl0 : psLen (some a) ≤ 1000000 := by show a.length ≤ _; omega
  clear hw0 hgm HR hz2 hgz1 hgl B2 B1 B0 HO hs0 hT0 hgz0 hg1
  obtain ⟨s0, hs0⟩ : ∃ s, some a = s := ⟨_, rfl⟩
  have HS0 := Lib.hid hs0
  rw [hs0] at HD0 hl0
  clear hs0
  obtain ⟨x1, s1, px1⟩ := isNum 8 s0
  have hx1 : x1 < 18446744073709551616 := px1.lt
  have hl1 := Nat.le_trans px1.len hl0
  have PX1 := Lib.hid px1
  clear px1
  refine (rint_is HD0.out.rd PX1.out (by omega)).mono ?_
  rintro e u1 ⟨rfl, hr1, hf1⟩
  have hbq := Blk.of_heap (HD0.out.box hf1).1
  have hq := hbq.cell
  have hqf := hbq.free
  have hd1 : DSt 30 99 Rd w (u1.setCell ⟨gm, 0, none⟩ (.int .i64 (i64of x1))) gz g gm _ #[.int .i64 (i64of x1), .int .i64 0, .int .i64 0, .int .i64 0, .slice none 0 0, .slice none 0 0] s1 := HD0.out.step hr1 hr1.rb hgw hf1 (fun h hb hf => h.far hb (by decide) (by decide) hf) 0 (.int .i64 (i64of x1))
  have HD1 := Lib.hid hd1
  clear hd1 hr1 hbq hf1 HD0
  go_wp2_with fail
  clear hq hqf
  obtain ⟨ws1, hws1⟩ : ∃ W, u1.setCell ⟨gm, 0, none⟩ (.int .i64 (i64of x1)) = W := ⟨_, rfl⟩
  rw [hws1] at HD1 ⊢
  clear hws1
  obtain ⟨x2, s2, px2⟩ := isNum 8 s1
  have hx2 : x2 < 18446744073709551616 := px2.lt
  have hl2 := Nat.le_trans px2.len hl1
  have PX2 := Lib.hid px2
  clear px2
  refine (rint_is HD1.out.rd PX2.out (by omega)).mono ?_
  rintro e u2 ⟨rfl, hr2, hf2⟩
  have hbq := Blk.of_heap (HD1.out.box hf2).1
  have hq := hbq.cell
  have hqf := hbq.free
  have hd2 : DSt 30 99 Rd w (u2.setCell ⟨gm, 1, none⟩ (.int .i64 (i64of x2))) gz g gm _ #[.int .i64 (i64of x1), .int .i64 (i64of x2), .int .i64 0, .int .i64 0, .slice none 0 0, .slice none 0 0] s2 := HD1.out.step hr2 hr2.rb hgw hf2 (fun h hb hf => h.far hb (by decide) (by decide) hf) 1 (.int .i64 (i64of x2))
  have HD2 := Lib.hid hd2
  clear hd2 hr2 hbq hf2 HD1
  go_wp2_with fail
  clear hq hqf
  obtain ⟨ws2, hws2⟩ : ∃ W, u2.setCell ⟨gm, 1, none⟩ (.int .i64 (i64of x2)) = W := ⟨_, rfl⟩
  rw [hws2] at HD2 ⊢
  clear hws2
  obtain ⟨x3, s3, px3⟩ := isNum 8 s2
  have hx3 : x3 < 18446744073709551616 := px3.lt
  have hl3 := Nat.le_trans px3.len hl2
  have PX3 := Lib.hid px3
  clear px3
  refine (rint_is HD2.out.rd PX3.out (by omega)).mono ?_
  rintro e u3 ⟨rfl, hr3, hf3⟩
  have hbq := Blk.of_heap (HD2.out.box hf3).1
  have hq := hbq.cell
  have hqf := hbq.free
  have hd3 : DSt 30 99 Rd w (u3.setCell ⟨gm, 2, none⟩ (.int .i64 (i64of x3))) gz g gm _ #[.int .i64 (i64of x1), .int .i64 (i64of x2), .int .i64 (i64of x3), .int .i64 0, .slice none 0 0, .slice none 0 0] s3 := HD2.out.step hr3 hr3.rb hgw hf3 (fun h hb hf => h.far hb (by decide) (by decide) hf) 2 (.int .i64 (i64of x3))
  have HD3 := Lib.hid hd3
  clear hd3 hr3 hbq hf3 HD2
  go_wp2_with fail
  clear hq hqf
  obtain ⟨ws3, hws3⟩ : ∃ W, u3.setCell ⟨gm, 2, none⟩ (.int .i64 (i64of x3)) = W := ⟨_, rfl⟩
  rw [hws3] at HD3 ⊢
  clear hws3
  obtain ⟨x4, s4, px4⟩ := isNum 8 s3
  have hx4 : x4 < 18446744073709551616 := px4.lt
  have hl4 := Nat.le_trans px4.len hl3
  have PX4 := Lib.hid px4
  clear px4
  refine (rint_is HD3.out.rd PX4.out (by omega)).mono ?_
  rintro e u4 ⟨rfl, hr4, hf4⟩
  have hbq := Blk.of_heap (HD3.out.box hf4).1
  have hq := hbq.cell
  have hqf := hbq.free
  have hd4 : DSt 30 99 Rd w (u4.setCell ⟨gm, 3, none⟩ (.int .i64 (i64of x4))) gz g gm _ #[.int .i64 (i64of x1), .int .i64 (i64of x2), .int .i64 (i64of x3), .int .i64 (i64of x4), .slice none 0 0, .slice none 0 0] s4 := HD3.out.step hr4 hr4.rb hgw hf4 (fun h hb hf => h.far hb (by decide) (by decide) hf) 3 (.int .i64 (i64of x4))
  have HD4 := Lib.hid hd4
  clear hd4 hr4 hbq hf4 HD3
  go_wp2_with fail
  clear hq hqf
  obtain ⟨ws4, hws4⟩ : ∃ W, u4.setCell ⟨gm, 3, none⟩ (.int .i64 (i64of x4)) = W := ⟨_, rfl⟩
  rw [hws4] at HD4 ⊢
  clear hws4
  obtain ⟨x5, s5, px5⟩ := isBytes 4096 s4
  have hx5 : x5.length ≤ 4096 := px5.le
  have hl5 := Nat.le_trans px5.len hl4
  have PX5 := Lib.hid px5
  clear px5
  refine (rbytes_is HD4.out.rd PX5.out (by omega) (by omega)).mono ?_
  rintro e u5 ⟨⟨A5, c5, rfl, ho5⟩, hr5, hf5⟩
  have hbq := Blk.of_heap (HD4.out.box hf5).1
  have hq := hbq.cell
  have hqf := hbq.free
  have hd5 : DSt 30 99 Rd w (u5.setCell ⟨gm, 4, none⟩ (.slice A5 x5.length c5)) gz g gm _ #[.int .i64 (i64of x1), .int .i64 (i64of x2), .int .i64 (i64of x3), .int .i64 (i64of x4), .slice A5 x5.length c5, .slice none 0 0] s5 := HD4.out.step hr5 hr5.rb hgw hf5 (fun h hb hf => h.far hb (by decide) (by decide) hf) 4 (.slice A5 x5.length c5)
  have ho5 := row_new (HD4.out.box hf5).1 (row_base ho5 HD4.out.bk.size) (by decide) 4 (.slice A5 x5.length c5)
  have HD5 := Lib.hid hd5
  have HO5 := Lib.hid ho5
  clear hd5 hr5 hbq hf5 HD4 ho5
  go_wp2_with fail
  clear hq hqf
  obtain ⟨ws5, hws5⟩ : ∃ W, u5.setCell ⟨gm, 4, none⟩ (.slice A5 x5.length c5) = W := ⟨_, rfl⟩
  rw [hws5] at HD5 HO5 ⊢
  clear hws5
  obtain ⟨R, hR⟩ : ∃ R, plist 64 oneS s5 = R := ⟨_, rfl⟩
  have HR := Lib.hid hR
  clear hR
  refine (list_texts (most := 64) oneS id HD5.out.rd (by omega) (by decide) (fun l => oneS_len _) (fun W ls hr hp => dec_text W _ hr hp)).mono ?_
  rw [HR.out]
  rintro e u6 ⟨⟨v, xs, rfl, hxs, ho6, -⟩, hr6, hf6⟩
  rw [List.map_id] at hxs
  obtain ⟨A6, c6, rfl⟩ := own_form ho6
  have hbx6 := (HD5.out.box hf6).1
  have hbq := Blk.of_heap hbx6
  have hq := hbq.cell
  have hqf := hbq.free
  have hd6 : DSt 30 99 Rd w (u6.setCell ⟨gm, 5, none⟩ (.slice A6 xs.length c6)) gz g gm _ #[.int .i64 (i64of x1), .int .i64 (i64of x2), .int .i64 (i64of x3), .int .i64 (i64of x4), .slice A5 x5.length c5, .slice A6 xs.length c6] R.2 := HD5.out.step hr6 hr6.rb hgw hf6 (fun h hb hf => h.far hb (by decide) (by decide) hf) 5 (.slice A6 xs.length c6)
  have ho5 := HD5.out.row hf6 HO5.out (by decide) (by decide) 5 (.slice A6 xs.length c6)
  have ho6 := (Off.one hbx6 (by decide)).row (fr_set u6 gm 5 (.slice A6 xs.length c6)) (own_low ho6 HD5.out.bk.size)
  have HD6 := Lib.hid hd6
  have HO5 := Lib.hid ho5
  have HO6 := Lib.hid ho6
  have HXS := Lib.hid hxs
  clear hd6 hr6 hbq hf6 HD5 ho5 ho6 hbx6 hxs
  go_wp2_with fail
  clear hq hqf
  obtain ⟨ws6, hws6⟩ : ∃ W, u6.setCell ⟨gm, 5, none⟩ (.slice A6 xs.length c6) = W := ⟨_, rfl⟩
  rw [hws6] at HD6 HO5 HO6 ⊢
  clear hws6
  have hfin := readAn_of PX1.out PX2.out PX3.out PX4.out PX5.out (show plist 64 oneS s5 = (xs, R.2) from by rw [HR.out, HXS.out])
  have HE2 : Hid (E = if R.2 = some [] then some ⟨i64of x1, i64of x2, i64of x3, i64of x4, x5, xs⟩ else none) := by
    show _ = _
    rw [← HE.out]
    unfold decAn
    rw [HS0.out, hfin]
  clear hfin
  by_cases he : R.2 = some []
  · refine (rend_any HD6.out.rd).mono ?_
    rintro e w3 ⟨hee, rfl⟩
    rw [if_pos he] at hee
    subst hee
    have hld := ldR_row (P := Tryd.prog) 30 w3 gm 30 #[.int .i64 (i64of x1), .int .i64 (i64of x2), .int .i64 (i64of x3), .int .i64 (i64of x4), .slice A5 x5.length c5, .slice A6 xs.length c6] (0, 0) _ HD6.out.hx Tryd.underlying30 rfl (by kernel_rfl)
    have hst := stR_row (P := Tryd.prog) 30 w3 gz #[.int .i64 0, .int .i64 0, .int .i64 0, .int .i64 0, .slice none 0 0, .slice none 0 0] #[.int .i64 (i64of x1), .int .i64 (i64of x2), .int .i64 (i64of x3), .int .i64 (i64of x4), .slice A5 x5.length c5, .slice A6 xs.length c6] HD6.out.hz (show (6 : Nat) = 6 from rfl) (by kernel_rfl) (one_all rfl)
    have HSE := Lib.hid he
    have hgzw : w.heap.size ≤ gz := Nat.le_of_eq HGZ.out
    clear he
    go_wp2
    refine bodyPost_ret (v := .tuple #[.agg #[.int .i64 (i64of x1), .int .i64 (i64of x2), .int .i64 (i64of x3), .int .i64 (i64of x4), .slice A5 x5.length c5, .slice A6 xs.length c6], .int .i64 0]) (results_row_tmp Tryd.results10 _ _ gz 30 #[.int .i64 (i64of x1), .int .i64 (i64of x2), .int .i64 (i64of x3), .int .i64 (i64of x4), .slice A5 x5.length c5, .slice A6 xs.length c6] (0, 0) _ _ rfl rfl (setRow_heap _ gz #[.int .i64 0, .int .i64 0, .int .i64 0, .int .i64 0, .slice none 0 0, .slice none 0 0] _ _ _ HD6.out.hz) Tryd.underlying30 rfl (by kernel_rfl)) rfl ?_
    have hEn : E = some ⟨i64of x1, i64of x2, i64of x3, i64of x4, x5, xs⟩ := by rw [HE2.out, if_pos HSE.out]
    rw [hEn]
    have fz : Fr (fun k => k = gz) w3 (w3.setRow gz #[.int .i64 (i64of x1), .int .i64 (i64of x2), .int .i64 (i64of x3), .int .i64 (i64of x4), .slice A5 x5.length c5, .slice A6 xs.length c6]) := ⟨rfl, rfl, rfl, by simp [World.setRow], fun k _ hk => setRow_other w3 gz k _ hk⟩
    exact DecA.of_some (i64of x1) (i64of x2) (i64of x3) (i64of x4) x5 xs A5 c5 A6 c6 (below_row HD6.out.bk hgzw _) (fz.owns HO5.out (fun k hk e => owns_ne HO5.out HD6.out.hz (by decide) (by rw [hk, e]))) (fz.owns HO6.out (fun k hk e => owns_ne HO6.out HD6.out.hz (by decide) (by rw [hk, e])))
  · refine (rend_any HD6.out.rd).mono ?_
    rintro e w3 ⟨hee, rfl⟩
    rw [if_neg he] at hee
    subst hee
    have hst := stR_row (P := Tryd.prog) 30 w3 gz #[.int .i64 0, .int .i64 0, .int .i64 0, .int .i64 0, .slice none 0 0, .slice none 0 0] #[.int .i64 0, .int .i64 0, .int .i64 0, .int .i64 0, .slice none 0 0, .slice none 0 0] HD6.out.hz (show (6 : Nat) = 6 from rfl) (by kernel_rfl) (one_all rfl)
    have HSE := Lib.hid he
    have hgzw : w.heap.size ≤ gz := Nat.le_of_eq HGZ.out
    clear he
    go_wp2
    refine bodyPost_ret (v := .tuple #[.agg #[.int .i64 0, .int .i64 0, .int .i64 0, .int .i64 0, .slice none 0 0, .slice none 0 0], .int .i64 3]) (results_row_tmp Tryd.results10 _ _ gz 30 #[.int .i64 0, .int .i64 0, .int .i64 0, .int .i64 0, .slice none 0 0, .slice none 0 0] (0, 0) _ _ rfl rfl (setRow_heap _ gz #[.int .i64 0, .int .i64 0, .int .i64 0, .int .i64 0, .slice none 0 0, .slice none 0 0] _ _ _ HD6.out.hz) Tryd.underlying30 rfl (by kernel_rfl)) rfl ?_
    have hEn : E = none := by rw [HE2.out, if_neg HSE.out]
    rw [hEn]
    exact DecA.of_none' (below_row HD6.out.bk hgzw _)

set_option maxRecDepth 100000 in
set_option maxHeartbeats 2000000 in
theorem andec_none (A : Option Addr) (c B : Nat) (b : List UInt8) (w : World) (hT : Tab w) (h : Sl w B A (bv b)) (hc : b.length ≤ c) (hl : b.length ≤ 1000000) (hB : B ≤ w.heap.size) (hu : unw b = none) :
    Calls Tryd.prog 10 #[.slice A b.length c] w (DecA none w) := by
  have HU := Lib.hid hu
  have HC := Lib.hid hc
  clear hu hc
  go_enter Tryd.func10, Tryd.ntmps10
  go_wp2_with fail
  have B0 := (Below.refl w.heap.size w).alloc (Nat.le_refl _) (.cells #[.int .i64 0, .int .i64 0, .int .i64 0, .int .i64 0, .slice none 0 0, .slice none 0 0] 30)
  have hT0 := hT.below hT.1 B0
  have hz0 := heap_alloc_new w (.cells #[.int .i64 0, .int .i64 0, .int .i64 0, .int .i64 0, .slice none 0 0, .slice none 0 0] 30)
  obtain ⟨X, hX⟩ : ∃ X, w.alloc (.cells #[.int .i64 0, .int .i64 0, .int .i64 0, .int .i64 0, .slice none 0 0, .slice none 0 0] 30) = X := ⟨_, rfl⟩
  obtain ⟨gz, hgz⟩ : ∃ gz, w.heap.size = gz := ⟨_, rfl⟩
  have hgz0 : gz < X.heap.size := by rw [← hX, ← hgz]; simp
  rw [hX] at B0 hT0 hz0 ⊢
  rw [hgz] at hz0 ⊢
  have hs0 := B0.size
  have hgzw : w.heap.size ≤ gz := Nat.le_of_eq hgz
  clear hX hgz
  refine (unwrap_any A c B b X hT0 (h.below (B0.mono hB)) HC.out (by omega) (Nat.le_trans hB hs0)).mono ?_
  rintro e w1 ⟨⟨A1, c1, he, ho⟩, hb1⟩
  rw [HU.out] at he
  have he : e = .returned (.tuple #[.slice A1 0 c1, .int .i64 3]) := he
  subst he
  have B1 := B0.trans (hb1.mono hs0)
  have hz1 : w1.heap[gz]? = _ := (hb1.block gz hgz0).trans hz0
  have HZ1 := Lib.hid hz1
  have hst := stR_row (P := Tryd.prog) 30 w1 gz #[.int .i64 0, .int .i64 0, .int .i64 0, .int .i64 0, .slice none 0 0, .slice none 0 0] #[.int .i64 0, .int .i64 0, .int .i64 0, .int .i64 0, .slice none 0 0, .slice none 0 0] hz1 (show (6 : Nat) = 6 from rfl) (by kernel_rfl) (one_all rfl)
  clear hz0 hz1 ho hb1
  go_wp2
  refine bodyPost_ret (v := .tuple #[.agg #[.int .i64 0, .int .i64 0, .int .i64 0, .int .i64 0, .slice none 0 0, .slice none 0 0], .int .i64 3]) (results_row_tmp Tryd.results10 _ _ gz 30 #[.int .i64 0, .int .i64 0, .int .i64 0, .int .i64 0, .slice none 0 0, .slice none 0 0] (0, 0) _ _ rfl rfl (setRow_heap _ gz #[.int .i64 0, .int .i64 0, .int .i64 0, .int .i64 0, .slice none 0 0, .slice none 0 0] _ _ _ HZ1.out) Tryd.underlying30 rfl (by kernel_rfl)) rfl ?_
  exact DecA.of_none' (below_row B1 hgzw _)

theorem andec_any (A : Option Addr) (c B : Nat) (b : List UInt8) (w : World) (hT : Tab w) (h : Sl w B A (bv b)) (hc : b.length ≤ c) (hl : b.length ≤ 1000000) (hB : B ≤ w.heap.size) :
    Calls Tryd.prog 10 #[.slice A b.length c] w (DecA ((unw b).bind decAn) w) := by
  cases hu : unw b with
  | none => exact andec_none A c B b w hT h hc hl hB hu
  | some a => exact andec_some A c B b a w hT h hc hl hB hu
end Go.Proofs.YtjkilpjdgjijiaaDoor
