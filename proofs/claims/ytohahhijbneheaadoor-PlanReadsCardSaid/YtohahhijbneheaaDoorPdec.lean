/- plan.Decode. -/
import Derived.Test.YtohahhijbneheaaDoorLstJ
import Derived.Test.YtohahhijbneheaaDoorUnw
import Derived.Test.YtohahhijbneheaaDoorWide
import Derived.Test.YtohahhijbneheaaDoorWr
import Derived.Test.YtohahhijbneheaaDoorPlanN
import Derived.Test.YtohahhijbneheaaDoorPlanA
namespace Go.Proofs.YtohahhijbneheaaDoor
open Go.RowKit
set_option linter.unusedVariables false
attribute [local go_sem] Oper.semAt_some

/-- A plan out of bytes; what is ahead of a sum. -/
def readPlan (s : PS) : Int × List (List Int) × PS := (((pnum 4 s).1 : Int), plist 7 oneC (pnum 4 s).2)
def decPlan (a : List UInt8) : Option (Int × List (List Int)) :=
  if (readPlan (some a)).2.2 = some [] ∧ rightP (readPlan (some a)).1 (readPlan (some a)).2.1 = true then some ((readPlan (some a)).1, (readPlan (some a)).2.1) else none
/-- What a Decode comes to. -/
def DecP (o : Option (Int × List (List Int))) (w : World) (e : Ending) (w' : World) : Prop :=
  NewPlan w.heap.size (o.getD (0, [])).1 (o.getD (0, [])).2 (if o.isSome then 0 else 3) e w' ∧ Below w.heap.size w w'
theorem DecP.of_none {w w' : World} (hb : Below w.heap.size w w') : DecP none w (.returned (.tuple #[.agg #[.int .i64 0, .slice none 0 0], .int .i64 3])) w' := ⟨NewPlan.nil _ 3 _, hb⟩
theorem bsize {g : Nat} {w w' : World} (h : Below g w w') (e : w.heap.size = g) : g ≤ w'.heap.size := e ▸ h.size
/-- Rows of one's own, each with its own memory. -/
structure RowsAt (W : World) (base : Nat) (v : Value) (xs : List Ch) : Prop where
  row : W.ownsRow base 25 1 v xs.length (xs.map Ch.val)
  dat : ∀ x ∈ xs, W.ownsRow base 3 1 x.val x.l.length (iv x.l)
theorem RowsAt.off {W W' : World} {base : Nat} {v : Value} {xs : List Ch} {M : Nat → Prop} (h : RowsAt W base v xs) (hf : Fr M W W') (h1 : Off M W 25) (h2 : Off M W 3) : RowsAt W' base v xs :=
  ⟨h1.row hf h.row, fun x hx => h2.row hf (h.dat x hx)⟩
theorem RowsAt.below {W W' : World} {base : Nat} {v : Value} {xs : List Ch} (h : RowsAt W base v xs) (hb : Below W.heap.size W W') : RowsAt W' base v xs :=
  h.off (M := fun _ => False) (Fr.of_below hb) .none .none
theorem RowsAt.mem {W : World} {base c : Nat} {A : Option Addr} {xs : List Ch} (h : RowsAt W base (.slice A xs.length c) xs) : Mem W W.heap.size A xs :=
  ⟨Sl.of_own h.row, fun x hx => ok_of_own (h.dat x hx)⟩
theorem RowsAt.lo {W : World} {base n0 c : Nat} {A : Option Addr} {xs : List Ch} (h : RowsAt W base (.slice A xs.length c) xs) (hn : n0 ≤ base) : LoAll n0 A xs :=
  ⟨(Lo.of_own h.row).mono hn, fun x hx => (Lo.of_own (h.dat x hx)).mono hn⟩

set_option maxRecDepth 100000 in
set_option maxHeartbeats 4000000 in
theorem pdec_some (A : Option Addr) (c B : Nat) (b a : List UInt8) (w : World) (hT : Tab w) (h : Sl w B A (bv b)) (hc : b.length ≤ c) (hl : b.length ≤ 1000000) (hB : B ≤ w.heap.size) (hu : unw b = some a) :
    Calls Tryd.prog 24 #[.slice A b.length c] w (DecP (decPlan a) w) := by
  have HU := Lib.hid hu
  have HC := Lib.hid hc
  have hal := unw_len hu
  obtain ⟨x1, s1, px1⟩ := isNum 4 (some a)
  have hx1 : x1 < 4294967296 := px1.lt
  have hl1 : psLen s1 ≤ 1000000 := Nat.le_trans px1.len (Nat.le_trans hal hl)
  obtain ⟨R, hR⟩ : ∃ R, plist 7 oneC s1 = R := ⟨_, rfl⟩
  have HRD : Hid (readPlan (some a) = ((x1 : Int), R)) := Lib.hid (by
    unfold readPlan
    rw [show pnum 4 (some a) = (x1, s1) from px1, hR])
  have PX1 := Lib.hid px1
  have HR := Lib.hid hR
  obtain ⟨D, hD⟩ : ∃ D, decPlan a = D := ⟨_, rfl⟩
  rw [hD]
  have HD : Hid (D = if R.2 = some [] ∧ rightP (x1 : Int) R.1 = true then some ((x1 : Int), R.1) else none) := Lib.hid (by
    rw [← hD]
    unfold decPlan
    rw [HRD.out])
  clear hu hc px1 hR hD HRD
  go_enter Tryd.func24, Tryd.ntmps24
  go_wp2_with fail
  have B0 := (Below.refl w.heap.size w).alloc (Nat.le_refl _) (.cells #[.int .i64 0, .slice none 0 0] 24)
  have hT0 := hT.below hT.1 B0
  have hz0 := Obj1.new w 24 #[.int .i64 0, .slice none 0 0]
  obtain ⟨X, hX⟩ : ∃ X, w.alloc (.cells #[.int .i64 0, .slice none 0 0] 24) = X := ⟨_, rfl⟩
  obtain ⟨gz, hgz⟩ : ∃ gz, w.heap.size = gz := ⟨_, rfl⟩
  rw [hX] at B0 hT0 hz0 ⊢
  have hs0 := B0.size
  have hB' : B ≤ X.heap.size := Nat.le_trans hB hs0
  have hsl := h.below (B0.mono hB)
  rw [hgz] at hz0 B0 hs0 ⊢
  have HGZ := Lib.hid hgz
  clear hX hgz
  refine (unwrap_any A c B b X hT0 hsl HC.out (by omega) hB').mono ?_
  rintro e w1 ⟨⟨A1, c1, he, ho⟩, hb1⟩
  rw [HU.out] at he ho
  have he : e = .returned (.tuple #[.slice A1 a.length c1, .int .i64 0]) := he
  subst he
  have B1 := B0.trans (hb1.mono hs0)
  have hz1 := hz0.below hb1 hz0.lt
  have HO := Lib.hid ho
  clear ho hz0 hb1 hsl
  go_wp2_with fail
  refine (read_ok A1 c1 w1.heap.size a w1 (Sl.of_own HO.out) (fun e => by have hh := HO.out; rw [e] at hh; exact owns_nil0 hh) (by omega) (Nat.le_refl _)).mono ?_
  rintro e w2 ⟨g, A2, c2, rfl, hr, hg1, hb2⟩
  have B2 := B1.trans (hb2.mono (bsize B1 HGZ.out))
  have hz2 := hz1.below hb2 hz1.lt
  have hgw : gz ≤ g := Nat.le_trans (bsize B1 HGZ.out) hg1
  have HRD := Lib.hid (Rd.left hr)
  clear hr hb2 hz1 HO hg1
  go_wp2_with fail
  refine (num_is HRD.out PX1.out (by decide) (by decide) (by show a.length ≤ _; omega)).mono ?_
  rintro e w3 ⟨rfl, hr3, hf3⟩
  obtain ⟨cr, hcr⟩ := HRD.out.rb
  have hz3 : Obj1 w3 gz 24 _ := (Off.one hcr (by decide)).cells hf3 hz2
  have B3 := B2.trans (hf3.below (bsize B2 HGZ.out) (fun k e => by rw [e]; exact hgw))
  have HR3 := Lib.hid hr3
  have hs3 := (bsize B3 HGZ.out)
  have hgz3 := hz3.lt
  have HZ3 := Lib.hid hz3
  have HB3 := Lib.hid B3
  clear hr3 hf3 hcr hz2 HRD hz3 B2 B1 B0 B3
  go_wp2_with fail
  try rw [nat_conv x1 (by omega)]
  have hm4 := Obj1.new w3 24 #[.int .i64 (x1 : Int), .slice none 0 0]
  have hba : Below w3.heap.size w3 (w3.alloc (.cells #[.int .i64 (x1 : Int), .slice none 0 0] 24)) := (Below.refl _ _).alloc (Nat.le_refl _) _
  obtain ⟨W4, hW4⟩ : ∃ X, w3.alloc (.cells #[.int .i64 (x1 : Int), .slice none 0 0] 24) = X := ⟨_, rfl⟩
  obtain ⟨gm, hgm⟩ : ∃ gm, w3.heap.size = gm := ⟨_, rfl⟩
  rw [hW4] at hba hm4 ⊢
  have hr4 := HR3.out.below hba
  have hz4 := HZ3.out.below hba hgz3
  have B4 := HB3.out.trans (hba.mono hs3)
  rw [hgm] at hm4 hs3 hgz3 ⊢
  clear hba hW4 hgm
  refine (list_rows (most := 7) oneC Ch.l hr4 hl1 (by decide) (fun l => oneC_len _) (fun W ls hr hp => dec1_any W _ hr hp)).mono ?_
  rw [HR.out]
  rintro e w5 ⟨⟨v, xs, rfl, hxs, ho, hdat⟩, hr5, hf5⟩
  obtain ⟨A5, c5, rfl⟩ := own_form ho
  obtain ⟨cr, hcr⟩ := hr4.rb
  have hz5 : Obj1 w5 gz 24 _ := (Off.one hcr (by decide)).cells hf5 hz4
  have hm5 : Obj1 w5 gm 24 _ := (Off.one hcr (by decide)).cells hf5 hm4
  have B5 := B4.trans (hf5.below (bsize B4 HGZ.out) (fun k e => by rw [e]; exact hgw))
  have hra5 : RowsAt w5 W4.heap.size (.slice A5 xs.length c5) xs := ⟨ho, fun x hx => hdat x hx _ _ _ rfl⟩
  have h4s := (bsize B4 HGZ.out)
  have f6 := fr_set w5 gm 1 (.slice A5 xs.length c5)
  have hra6 := hra5.off f6 (Off.one hm5 (by decide)) (Off.one hm5 (by decide))
  have hr6 := hr5.off f6 (Off.one hm5 (by decide)) (Off.one hm5 (by decide))
  have hm6 : Obj1 (w5.setCell ⟨gm, 1, none⟩ (.slice A5 xs.length c5)) gm 24 #[.int .i64 (x1 : Int), .slice A5 xs.length c5] := cell_set (i := 1) hm5 _
  have hne : gz ≠ gm := by omega
  have hz6 := hz5.far (p := ⟨gm, 1, none⟩) hne (.slice A5 xs.length c5)
  have B6 := B5.setCell (p := ⟨gm, 1, none⟩) hs3 (.slice A5 xs.length c5)
  have hbq := hm5.blk
  have hq := hbq.cell
  have hqf := hbq.free
  have HRA := Lib.hid hra6
  have HR6 := Lib.hid hr6
  have HM6 := Lib.hid hm6
  have HZ6 := Lib.hid hz6
  have HB6 := Lib.hid B6
  have HXS := Lib.hid hxs
  obtain ⟨n5, hn5⟩ : ∃ n, xs.length = n := ⟨_, rfl⟩
  have HN5 := Lib.hid hn5
  rw [hn5] at HRA HR6 HM6 HZ6 HB6 ⊢
  clear hm5 hz5 hr5 hf5 hcr hr4 ho hdat hra5 f6 hra6 hr6 hm6 hz6 B6 B5 B4 hm4 hz4 hbq hxs hn5
  go_wp2_with fail
  clear hq hqf
  obtain ⟨W6, hW6⟩ : ∃ X, w5.setCell ⟨gm, 1, none⟩ (.slice A5 n5 c5) = X := ⟨_, rfl⟩
  rw [hW6] at HRA HR6 HM6 HZ6 HB6 ⊢
  clear hW6
  refine (rend_any HR6.out).mono ?_
  rintro e w7 ⟨hee, rfl⟩
  by_cases hR2 : R.2 = some []
  · rw [if_pos hR2] at hee
    subst hee
    have hmb := HM6.out.blk
    have hm0 := hmb.cell 0
    have hm1 := hmb.cell 1
    have HR2 := Lib.hid hR2
    have HRT := Lib.hid (right_any (x1 : Int) A5 c5 xs w7.heap.size w7 (by rw [← HN5.out] at HRA; exact HRA.out.mem.sl) (by rw [← HN5.out] at HRA; exact HRA.out.mem.ok) (Nat.le_refl _))
    rw [HXS.out, HN5.out] at HRT
    obtain ⟨rt, hrt⟩ : ∃ b, rightP (x1 : Int) R.1 = b := ⟨_, rfl⟩
    rw [hrt] at HRT
    have HRTE := Lib.hid hrt
    have hgml := HM6.out.lt
    clear hmb hR2 hrt
    go_wp2_with fail
    refine HRT.out.mono ?_
    rintro e w8 ⟨rfl, hb8⟩
    have hz8 := HZ6.out.below hb8 HZ6.out.lt
    have HZ8 := Lib.hid hz8
    have hzb := hz8.blk
    have hz80 := hzb.cell 0
    have hz81 := hzb.cell 1
    have hzf := hzb.free
    have hzl := hzb.lt
    have HB8 := Lib.hid (HB6.out.trans (hb8.mono (bsize HB6.out HGZ.out)))
    have hwz : w.heap.size ≤ gz := Nat.le_of_eq HGZ.out
    have HRA8 : Hid (RowsAt w8 W4.heap.size (.slice A5 n5 c5) xs) := Lib.hid (by rw [← HN5.out] at HRA ⊢; exact HRA.out.below hb8)
    have hmb := (HM6.out.below hb8 HM6.out.lt).blk
    have hm0' := hmb.cell 0
    have hm1' := hmb.cell 1
    have hml := hmb.lt
    clear hz8 hzb hb8 hmb hm0 hm1
    cases rt with
    | false =>
      go_wp2
      refine bodyPost_ret (v := .tuple #[.agg #[.int .i64 0, .slice none 0 0], .int .i64 3]) (results_row_tmp Tryd.results24 _ _ gz 24 #[.int .i64 0, .slice none 0 0] (0, 0) _ _ rfl rfl (blk_set (blk_set HZ8.out _) _) Tryd.underlying24 rfl (by kernel_rfl)) rfl ?_
      have hDn : D = none := by rw [HD.out, if_neg (by rw [HRTE.out]; simp)]
      rw [hDn]
      refine DecP.of_none ?_
      rw [HGZ.out]
      exact (HB8.out.setCell (p := ⟨gz, 0, none⟩) (Nat.le_refl _) _).setCell (p := ⟨gz, 1, none⟩) (Nat.le_refl _) _
    | true =>
      go_wp2
      refine bodyPost_ret (v := .tuple #[.agg #[.int .i64 (x1 : Int), .slice A5 n5 c5], .int .i64 0]) (results_row_tmp Tryd.results24 _ _ gz 24 #[.int .i64 (x1 : Int), .slice A5 n5 c5] (0, 0) _ _ rfl rfl (blk_set (blk_set HZ8.out _) _) Tryd.underlying24 rfl (by kernel_rfl)) rfl ?_
      have hDs : D = some ((x1 : Int), R.1) := by rw [HD.out, if_pos ⟨HR2.out, HRTE.out⟩]
      rw [hDs]
      have hB9 : Below gz w ((w8.setCell ⟨gz, 0, none⟩ (.int .i64 (x1 : Int))).setCell ⟨gz, 1, none⟩ (.slice A5 n5 c5)) := (HB8.out.setCell (p := ⟨gz, 0, none⟩) (Nat.le_refl _) _).setCell (p := ⟨gz, 1, none⟩) (Nat.le_refl _) _
      have hf9 : Fr (fun k => k = gz) w8 ((w8.setCell ⟨gz, 0, none⟩ (.int .i64 (x1 : Int))).setCell ⟨gz, 1, none⟩ (.slice A5 n5 c5)) := (fr_set w8 gz 0 _).trans (fr_set _ gz 1 _) (fun _ _ e => e)
      have hra9 := HRA8.out.off hf9 (Off.one HZ8.out (by decide)) (Off.one HZ8.out (by decide))
      refine ⟨⟨A5, c5, xs, by rw [HN5.out]; rfl, HXS.out, ?_, ?_⟩, by rw [HGZ.out]; exact hB9⟩
      · rw [← HN5.out] at hra9 ⊢
        exact hra9.mem
      · rw [← HN5.out] at hra9
        exact hra9.lo (by rw [HGZ.out]; exact h4s)
  · rw [if_neg hR2] at hee
    subst hee
    have HR2 := Lib.hid hR2
    have hzb := HZ6.out.blk
    have hz80 := hzb.cell 0
    have hz81 := hzb.cell 1
    have hzf := hzb.free
    have hzl := hzb.lt
    clear hzb hR2
    go_wp2
    refine bodyPost_ret (v := .tuple #[.agg #[.int .i64 0, .slice none 0 0], .int .i64 3]) (results_row_tmp Tryd.results24 _ _ gz 24 #[.int .i64 0, .slice none 0 0] (0, 0) _ _ rfl rfl (blk_set (blk_set HZ6.out _) _) Tryd.underlying24 rfl (by kernel_rfl)) rfl ?_
    have hDn : D = none := by rw [HD.out, if_neg (fun h => HR2.out h.1)]
    rw [hDn]
    refine DecP.of_none ?_
    rw [HGZ.out]
    exact (HB6.out.setCell (p := ⟨gz, 0, none⟩) (Nat.le_refl _) _).setCell (p := ⟨gz, 1, none⟩) (Nat.le_refl _) _

set_option maxRecDepth 100000 in
set_option maxHeartbeats 2000000 in
theorem pdec_none (A : Option Addr) (c B : Nat) (b : List UInt8) (w : World) (hT : Tab w) (h : Sl w B A (bv b)) (hc : b.length ≤ c) (hl : b.length ≤ 1000000) (hB : B ≤ w.heap.size) (hu : unw b = none) :
    Calls Tryd.prog 24 #[.slice A b.length c] w (DecP none w) := by
  have HU := Lib.hid hu
  have HC := Lib.hid hc
  clear hu hc
  go_enter Tryd.func24, Tryd.ntmps24
  go_wp2_with fail
  have B0 := (Below.refl w.heap.size w).alloc (Nat.le_refl _) (.cells #[.int .i64 0, .slice none 0 0] 24)
  have hT0 := hT.below hT.1 B0
  have hz0 := Obj1.new w 24 #[.int .i64 0, .slice none 0 0]
  obtain ⟨X, hX⟩ : ∃ X, w.alloc (.cells #[.int .i64 0, .slice none 0 0] 24) = X := ⟨_, rfl⟩
  rw [hX] at B0 hT0 hz0 ⊢
  clear hX
  refine (unwrap_any A c B b X hT0 (h.below (B0.mono hB)) HC.out (by omega) (Nat.le_trans hB B0.size)).mono ?_
  rintro e w1 ⟨⟨A1, c1, he, ho⟩, hb1⟩
  rw [HU.out] at he
  have he : e = .returned (.tuple #[.slice A1 0 c1, .int .i64 3]) := he
  subst he
  have HB1 := Lib.hid (B0.trans (hb1.mono B0.size))
  have hz1 := hz0.below hb1 hz0.lt
  have HZ1 := Lib.hid hz1
  have hzb := hz1.blk
  have hz80 := hzb.cell 0
  have hz81 := hzb.cell 1
  have hzf := hzb.free
  have hzl := hzb.lt
  clear ho hb1 hz0 hz1 hzb B0
  go_wp2
  refine bodyPost_ret (v := .tuple #[.agg #[.int .i64 0, .slice none 0 0], .int .i64 3]) (results_row_tmp Tryd.results24 _ _ w.heap.size 24 #[.int .i64 0, .slice none 0 0] (0, 0) _ _ rfl rfl (blk_set (blk_set HZ1.out _) _) Tryd.underlying24 rfl (by kernel_rfl)) rfl ?_
  exact DecP.of_none ((HB1.out.setCell (p := ⟨w.heap.size, 0, none⟩) (Nat.le_refl _) _).setCell (p := ⟨w.heap.size, 1, none⟩) (Nat.le_refl _) _)

/-- **Decode: the plan of any bytes.** -/
theorem pdec_any (A : Option Addr) (c B : Nat) (b : List UInt8) (w : World) (hT : Tab w) (h : Sl w B A (bv b)) (hc : b.length ≤ c) (hl : b.length ≤ 1000000) (hB : B ≤ w.heap.size) :
    Calls Tryd.prog 24 #[.slice A b.length c] w (DecP ((unw b).bind decPlan) w) := by
  cases hu : unw b with
  | none => exact pdec_none A c B b w hT h hc hl hB hu
  | some a => exact pdec_some A c B b a w hT h hc hl hB hu
end Go.Proofs.YtohahhijbneheaaDoor
