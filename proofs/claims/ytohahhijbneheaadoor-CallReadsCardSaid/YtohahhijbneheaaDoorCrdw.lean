/- CallReads: the walk. -/
import Derived.Test.YtohahhijbneheaaDoorCqK
import Derived.Test.YtohahhijbneheaaDoorCqDr
import Derived.Test.YtohahhijbneheaaDoorAnDr
namespace Go.Proofs.YtohahhijbneheaaDoor
open Go.RowKit
set_option linter.unusedVariables false
attribute [local go_sem] Oper.semAt_some

theorem pbytes_le4 (s : PS) : (pbytes 4096 s).1.length ≤ 4096 := pbytes_le 4096 s
theorem small_cq (b : List UInt8) : (((unw b).bind decCq).getD zCq).d.length ≤ 4096 := by
  cases unw b with
  | none => exact Nat.zero_le _
  | some a =>
    show ((decCq a).getD zCq).d.length ≤ 4096
    unfold decCq
    split
    · exact pbytes_le4 _
    · exact Nat.zero_le _
theorem small_an (b : List UInt8) : (((unw b).bind decAn).getD zAn).d.length ≤ 4096 ∧ (((unw b).bind decAn).getD zAn).ns.length ≤ 64 := by
  cases unw b with
  | none => exact ⟨Nat.zero_le _, Nat.zero_le _⟩
  | some a =>
    show ((decAn a).getD zAn).d.length ≤ 4096 ∧ ((decAn a).getD zAn).ns.length ≤ 64
    unfold decAn
    split
    · exact ⟨pbytes_le4 _, plist_len oneS 64 _⟩
    · exact ⟨Nat.zero_le _, Nat.zero_le _⟩
/-- A call, an answer, in a block. -/
structure CqAt (W : World) (b : Nat) (y1 : Int) (y2 y3 : ByteArray) (y4 y5 : Int) (A : Option Addr) (n c : Nat) (d : List UInt8) : Prop where
  o : W.heap[b]? = some (.cells #[.int .i64 y1, .string y2, .string y3, .int .i64 y4, .int .i64 y5, .slice A n c] 46 (0, 0))
  d : Sl W W.heap.size A (bv d)
theorem CqAt.below {W W' : World} {b : Nat} {y1 : Int} {y2 y3 : ByteArray} {y4 y5 : Int} {A : Option Addr} {n c : Nat} {d : List UInt8} (h : CqAt W b y1 y2 y3 y4 y5 A n c d) (hb : Below W.heap.size W W') : CqAt W' b y1 y2 y3 y4 y5 A n c d :=
  ⟨(hb.block b (Array.getElem?_eq_some_iff.1 h.o).1).trans h.o, (h.d.below hb).more hb.size⟩
theorem CqAt.new {W : World} {y1 : Int} {y2 y3 : ByteArray} {y4 y5 : Int} {A : Option Addr} {n c : Nat} {d : List UInt8} (h : Sl W W.heap.size A (bv d)) : CqAt (W.alloc (.cells #[.int .i64 y1, .string y2, .string y3, .int .i64 y4, .int .i64 y5, .slice A n c] 46)) W.heap.size y1 y2 y3 y4 y5 A n c d :=
  ⟨heap_alloc_new W _, (h.alloc (Nat.le_refl _) _).more (by simp)⟩
structure AnAt (W : World) (b : Nat) (y1 y2 y3 y4 : Int) (A1 : Option Addr) (n1 c1 : Nat) (A2 : Option Addr) (n2 c2 : Nat) (d : List UInt8) (ns : List ByteArray) : Prop where
  o : W.heap[b]? = some (.cells #[.int .i64 y1, .int .i64 y2, .int .i64 y3, .int .i64 y4, .slice A1 n1 c1, .slice A2 n2 c2] 50 (0, 0))
  d : Sl W W.heap.size A1 (bv d)
  n : Sl W W.heap.size A2 (ns.map Value.string)
theorem AnAt.below {W W' : World} {b : Nat} {y1 y2 y3 y4 : Int} {A1 : Option Addr} {n1 c1 : Nat} {A2 : Option Addr} {n2 c2 : Nat} {d : List UInt8} {ns : List ByteArray} (h : AnAt W b y1 y2 y3 y4 A1 n1 c1 A2 n2 c2 d ns) (hb : Below W.heap.size W W') : AnAt W' b y1 y2 y3 y4 A1 n1 c1 A2 n2 c2 d ns :=
  ⟨(hb.block b (Array.getElem?_eq_some_iff.1 h.o).1).trans h.o, (h.d.below hb).more hb.size, (h.n.below hb).more hb.size⟩
theorem AnAt.new {W : World} {y1 y2 y3 y4 : Int} {A1 : Option Addr} {n1 c1 : Nat} {A2 : Option Addr} {n2 c2 : Nat} {d : List UInt8} {ns : List ByteArray} (h : Sl W W.heap.size A1 (bv d)) (h2 : Sl W W.heap.size A2 (ns.map Value.string)) :
    AnAt (W.alloc (.cells #[.int .i64 y1, .int .i64 y2, .int .i64 y3, .int .i64 y4, .slice A1 n1 c1, .slice A2 n2 c2] 50)) W.heap.size y1 y2 y3 y4 A1 n1 c1 A2 n2 c2 d ns :=
  ⟨heap_alloc_new W _, (h.alloc (Nat.le_refl _) _).more (by simp), (h2.alloc (Nat.le_refl _) _).more (by simp)⟩

set_option maxRecDepth 100000 in
set_option maxHeartbeats 8000000 in
theorem crd_walk (Ab : Option Addr) (cb : Nat) (b : List UInt8) (m : Int) (w : World) (hT : Tab w) (hm : w.cell? ⟨1, 0, none⟩ = some (.int .i64 m)) (hs : Sl w w.heap.size Ab (bv b)) (hn : Ab = none → cb = 0) (hbc : b.length ≤ cb) :
    Calls Tryd.prog 6 #[.slice Ab b.length cb] w fun en w' => en = .returned (.bool true) ∧ Below w.heap.size w w' := by
  have HT := Lib.hid hT
  have HS := Lib.hid hs
  have HNN := Lib.hid hn
  have HBC := Lib.hid hbc
  have HSPK := Lib.hid (speaks05 m w hT hm)
  have HGRT := Lib.hid (fun W : World => great_call zCq zAn b none none none Ab 0 0 0 cb W.heap.size W (.inl rfl) (Nat.le_refl _))
  have hsc := small_cq b
  have hsa := small_an b
  obtain ⟨oc, hoc⟩ : ∃ o, (unw b).bind decCq = o := ⟨_, rfl⟩
  obtain ⟨oa, hoa⟩ : ∃ o, (unw b).bind decAn = o := ⟨_, rfl⟩
  rw [hoc] at hsc
  rw [hoa] at hsa
  have HOC := Lib.hid hoc
  have HOA := Lib.hid hoa
  obtain ⟨kc, hkc⟩ : ∃ kk : Int, (if oc.isSome then 0 else 3) = kk := ⟨_, rfl⟩
  obtain ⟨ka, hka⟩ : ∃ kk : Int, (if oa.isSome then 0 else 3) = kk := ⟨_, rfl⟩
  have HKC := Lib.hid hkc
  have HKA := Lib.hid hka
  obtain ⟨Y, hY⟩ : ∃ Y, oc.getD zCq = Y := ⟨_, rfl⟩
  obtain ⟨Z, hZ⟩ : ∃ Z, oa.getD zAn = Z := ⟨_, rfl⟩
  rw [hY] at hsc
  rw [hZ] at hsa
  have HY := Lib.hid hY
  have HZ := Lib.hid hZ
  obtain ⟨y1, y2, y3, y4, y5, y6⟩ := Y
  obtain ⟨z1, z2, z3, z4, z5, z6⟩ := Z
  have HSC : Hid (y6.length ≤ maxLen) := Lib.hid (by unfold maxLen; dsimp only at hsc; omega)
  have HSA : Hid (z5.length ≤ maxLen) := Lib.hid (by unfold maxLen; have := hsa.1; dsimp only at this; omega)
  have HSN : Hid (z6.length ≤ maxLen) := Lib.hid (by unfold maxLen; have := hsa.2; dsimp only at this; omega)
  obtain ⟨ny, hny⟩ : ∃ n, y6.length = n := ⟨_, rfl⟩
  obtain ⟨nz, hnz⟩ : ∃ n, z5.length = n := ⟨_, rfl⟩
  obtain ⟨nn, hnn⟩ : ∃ n, z6.length = n := ⟨_, rfl⟩
  have HNY := Lib.hid hny
  have HNZ := Lib.hid hnz
  have HNX := Lib.hid hnn
  obtain ⟨q, hQ⟩ : ∃ n, b.length = n := ⟨_, rfl⟩
  have HQ := Lib.hid hQ
  rw [hQ]
  clear hT hm hs hn hbc hsc hsa hoc hoa hkc hka hY hZ hny hnz hnn
  rw [hQ] at HGRT
  clear hQ
  go_enter Tryd.func6, Tryd.ntmps6
  go_wp2_with fail
  refine HSPK.out.mono ?_
  rintro en W1 ⟨rfl, hb1⟩
  have HB1 := Lib.hid hb1
  clear hb1
  go_wp2_with fail
  refine (HGRT.out W1).mono ?_
  rintro en W2 ⟨⟨gb, rfl, hgr⟩, hb2⟩
  have HB2 := Lib.hid (HB1.out.trans (hb2.mono HB1.out.size))
  have HGR := Lib.hid hgr
  clear hgr hb2
  cases gb with
  | true =>
    go_wp2_with fail
    go_ret
    exact ⟨rfl, HB2.out⟩
  | false =>
    have hq12 : q ≤ 12000 := by have := (HGR.out rfl).b; rw [HQ.out] at this; exact this
    have LL : Hid (0 + b.length ≤ 70368744177664) := by show _ ≤ _; rw [HQ.out]; omega
    have HBL : Hid (b.length ≤ 1000000) := by show _ ≤ _; rw [HQ.out]; omega
    have HSL : Hid (Sl (W2.alloc (.cells #[] 5)) w.heap.size Ab (bv b)) := Lib.hid (HS.out.below (HB2.out.alloc HB2.out.size _))
    clear HGR HGRT HSPK
    go_wp2_with (at_builtin; refine wpList_append_bytes rfl _ _ rfl W2.heap.size _ 0 [] rfl (World.ownsRow_made W2 #[] 0 (Nat.le_refl _) (Nat.zero_le _) rfl) Ab cb w.heap.size b (by rw [HQ.out]; rfl) HNN.out HSL.out LL.out (by simp) ?_; intro v3 W3 ho3 hb3)
    have hb3 : Below W2.heap.size W2 W3 := ((Below.refl _ _).alloc (Nat.le_refl _) _).trans hb3
    obtain ⟨A3, c3, rfl⟩ := own_form ho3
    rw [Nat.zero_add, List.nil_append] at ho3
    rw [Nat.zero_add]
    have HB3 := Lib.hid (HB2.out.trans (hb3.mono HB2.out.size))
    refine (cqdec_any A3 c3 W3.heap.size b W3 (HT.out.below HT.out.1 HB3.out) (Sl.of_own ho3) (own_capC ho3) HBL.out (Nat.le_refl _)).mono ?_
    rw [HOC.out]
    rintro en W4 ⟨A4, c4, he, hb4, ho4⟩
    rw [HY.out, HKC.out] at he
    rw [HY.out] at ho4
    have he : en = .returned (.tuple #[.agg #[.int .i64 y1, .string y2, .string y3, .int .i64 y4, .int .i64 y5, .slice A4 y6.length c4], .int .i64 kc]) := he
    rw [HNY.out] at he
    subst he
    have HPC := Lib.hid (CqAt.new (y1 := y1) (y2 := y2) (y3 := y3) (y4 := y4) (y5 := y5) (n := ny) (c := c4) (Sl.of_own ho4))
    have hbw4 : Below W3.heap.size W3 (W4.alloc (.cells #[.int .i64 y1, .string y2, .string y3, .int .i64 y4, .int .i64 y5, .slice A4 ny c4] 46)) := hb4.alloc hb4.size _
    have HB4 := Lib.hid (HB3.out.trans (hbw4.mono HB3.out.size))
    clear ho3 hb3 hb4 ho4 hbw4 HSL
    go_wp2_with fail
    obtain ⟨X4, hX4⟩ : ∃ X, W4.alloc (.cells #[.int .i64 y1, .string y2, .string y3, .int .i64 y4, .int .i64 y5, .slice A4 ny c4] 46) = X := ⟨_, rfl⟩
    obtain ⟨bc, hbc⟩ : ∃ b, W4.heap.size = b := ⟨_, rfl⟩
    rw [hX4] at HPC HB4 ⊢
    rw [hbc] at HPC ⊢
    clear hX4 hbc
    have HRD : Hid (Calls Tryd.prog 31 #[.slice Ab q cb] X4 (DecC oc X4)) := Lib.hid (by
      have h := rcqdec_any Ab cb w.heap.size b X4 (HS.out.below HB4.out) HBC.out HBL.out HB4.out.size
      rwa [HOC.out, HQ.out] at h)
    refine HRD.out.mono ?_
    rintro en W5 ⟨A5, c5, he, hb5, ho5⟩
    rw [HY.out, HKC.out] at he
    rw [HY.out] at ho5
    have he : en = .returned (.tuple #[.agg #[.int .i64 y1, .string y2, .string y3, .int .i64 y4, .int .i64 y5, .slice A5 y6.length c5], .int .i64 kc]) := he
    rw [HNY.out] at he
    subst he
    have HPD := Lib.hid (CqAt.new (y1 := y1) (y2 := y2) (y3 := y3) (y4 := y4) (y5 := y5) (n := ny) (c := c5) (Sl.of_own ho5))
    have hbw5 : Below X4.heap.size X4 (W5.alloc (.cells #[.int .i64 y1, .string y2, .string y3, .int .i64 y4, .int .i64 y5, .slice A5 ny c5] 46)) := hb5.alloc hb5.size _
    have HPC5 := Lib.hid (HPC.out.below hbw5)
    have HB5 := Lib.hid (HB4.out.trans (hbw5.mono HB4.out.size))
    obtain ⟨X5, hX5⟩ : ∃ X, W5.alloc (.cells #[.int .i64 y1, .string y2, .string y3, .int .i64 y4, .int .i64 y5, .slice A5 ny c5] 46) = X := ⟨_, rfl⟩
    obtain ⟨bd, hbd⟩ : ∃ b, W5.heap.size = b := ⟨_, rfl⟩
    have HX5 := Lib.hid hX5
    have HBD := Lib.hid hbd
    rw [hX5] at HPD HPC5 HB5
    rw [hbd] at HPD
    have HSL5 : Hid (Sl (X5.alloc (.cells #[] 5)) w.heap.size Ab (bv b)) := Lib.hid (HS.out.below (HB5.out.alloc HB5.out.size _))
    clear hb5 ho5 hbw5 hX5 hbd HRD HPC
    go_upto_region 7 with fail
    rw [HX5.out, HBD.out]
    go_wp2_with (at_builtin; refine wpList_append_bytes rfl _ _ rfl X5.heap.size _ 0 [] rfl (World.ownsRow_made X5 #[] 0 (Nat.le_refl _) (Nat.zero_le _) rfl) Ab cb w.heap.size b (by rw [HQ.out]; rfl) HNN.out HSL5.out LL.out (by simp) ?_; intro v6 W6 ho6 hb6)
    have hb6 : Below X5.heap.size X5 W6 := ((Below.refl _ _).alloc (Nat.le_refl _) _).trans hb6
    obtain ⟨A6, c6, rfl⟩ := own_form ho6
    rw [Nat.zero_add, List.nil_append] at ho6
    rw [Nat.zero_add]
    have HPC6 := Lib.hid (HPC5.out.below hb6)
    have HPD6 := Lib.hid (HPD.out.below hb6)
    have HB6 := Lib.hid (HB5.out.trans (hb6.mono HB5.out.size))
    refine (andec_any A6 c6 W6.heap.size b W6 (HT.out.below HT.out.1 HB6.out) (Sl.of_own ho6) (own_capC ho6) HBL.out (Nat.le_refl _)).mono ?_
    rw [HOA.out]
    rintro en W7 ⟨A7, c7, B7, e7, he, hb7, ho7, hn7⟩
    rw [HZ.out, HKA.out] at he
    rw [HZ.out] at ho7 hn7
    have he : en = .returned (.tuple #[.agg #[.int .i64 z1, .int .i64 z2, .int .i64 z3, .int .i64 z4, .slice A7 z5.length c7, .slice B7 z6.length e7], .int .i64 ka]) := he
    rw [HNZ.out, HNX.out] at he
    subst he
    have HPA := Lib.hid (AnAt.new (y1 := z1) (y2 := z2) (y3 := z3) (y4 := z4) (n1 := nz) (c1 := c7) (n2 := nn) (c2 := e7) (Sl.of_own ho7) (Sl.of_own hn7))
    have hbw7 : Below W6.heap.size W6 (W7.alloc (.cells #[.int .i64 z1, .int .i64 z2, .int .i64 z3, .int .i64 z4, .slice A7 nz c7, .slice B7 nn e7] 50)) := hb7.alloc hb7.size _
    have HPC7 := Lib.hid (HPC6.out.below hbw7)
    have HPD7 := Lib.hid (HPD6.out.below hbw7)
    have HB7 := Lib.hid (HB6.out.trans (hbw7.mono HB6.out.size))
    clear ho6 hb6 hb7 ho7 hn7 hbw7 HSL5 HPC6 HPD6 HPC5 HPD
    go_wp2_with fail
    obtain ⟨X7, hX7⟩ : ∃ X, W7.alloc (.cells #[.int .i64 z1, .int .i64 z2, .int .i64 z3, .int .i64 z4, .slice A7 nz c7, .slice B7 nn e7] 50) = X := ⟨_, rfl⟩
    obtain ⟨ba, hba⟩ : ∃ b, W7.heap.size = b := ⟨_, rfl⟩
    rw [hX7] at HPA HPC7 HPD7 HB7 ⊢
    rw [hba] at HPA ⊢
    clear hX7 hba
    have HRA : Hid (Calls Tryd.prog 33 #[.slice Ab q cb] X7 (DecA oa X7)) := Lib.hid (by
      have h := randec_any Ab cb w.heap.size b X7 (HS.out.below HB7.out) HBC.out HBL.out HB7.out.size
      rwa [HOA.out, HQ.out] at h)
    refine HRA.out.mono ?_
    rintro en W8 ⟨A8, c8, B8, e8, he, hb8, ho8, hn8⟩
    rw [HZ.out, HKA.out] at he
    rw [HZ.out] at ho8 hn8
    have he : en = .returned (.tuple #[.agg #[.int .i64 z1, .int .i64 z2, .int .i64 z3, .int .i64 z4, .slice A8 z5.length c8, .slice B8 z6.length e8], .int .i64 ka]) := he
    rw [HNZ.out, HNX.out] at he
    subst he
    have HPB := Lib.hid (AnAt.new (y1 := z1) (y2 := z2) (y3 := z3) (y4 := z4) (n1 := nz) (c1 := c8) (n2 := nn) (c2 := e8) (Sl.of_own ho8) (Sl.of_own hn8))
    have hbw8 : Below X7.heap.size X7 (W8.alloc (.cells #[.int .i64 z1, .int .i64 z2, .int .i64 z3, .int .i64 z4, .slice A8 nz c8, .slice B8 nn e8] 50)) := hb8.alloc hb8.size _
    have HPC8 := Lib.hid (HPC7.out.below hbw8)
    have HPD8 := Lib.hid (HPD7.out.below hbw8)
    have HPA8 := Lib.hid (HPA.out.below hbw8)
    have HB8 := Lib.hid (HB7.out.trans (hbw8.mono HB7.out.size))
    have hcb := (Blk.of_heap HPC7.out.o).belowAll hb8
    have hdb := (Blk.of_heap HPD7.out.o).belowAll hb8
    have hqc := hcb.cell
    have hqd := hdb.cell
    have hlc := hcb.lt
    have hld := hdb.lt
    have HSQ : Hid (Calls Tryd.prog 29 #[.agg #[.int .i64 y1, .string y2, .string y3, .int .i64 y4, .int .i64 y5, .slice A4 ny c4], .agg #[.int .i64 y1, .string y2, .string y3, .int .i64 y4, .int .i64 y5, .slice A5 ny c5]] (W8.alloc (.cells #[.int .i64 z1, .int .i64 z2, .int .i64 z3, .int .i64 z4, .slice A8 nz c8, .slice B8 nn e8] 50)) fun e w' => e = .returned (.bool true) ∧ Below (W8.alloc (.cells #[.int .i64 z1, .int .i64 z2, .int .i64 z3, .int .i64 z4, .slice A8 nz c8, .slice B8 nn e8] 50)).heap.size (W8.alloc (.cells #[.int .i64 z1, .int .i64 z2, .int .i64 z3, .int .i64 z4, .slice A8 nz c8, .slice B8 nn e8] 50)) w') := Lib.hid (by
      have h := sameq_any ⟨y1, y2, y3, y4, y5, y6⟩ ⟨y1, y2, y3, y4, y5, y6⟩ A4 A5 c4 c5 _ _ HPC8.out.d HPD8.out.d HSC.out HSC.out (Nat.le_refl _)
      rw [(Cq.eqb_iff _ _).2 rfl, show (Cq.val ⟨y1, y2, y3, y4, y5, y6⟩ A4 c4) = .agg #[.int .i64 y1, .string y2, .string y3, .int .i64 y4, .int .i64 y5, .slice A4 ny c4] from by rw [← HNY.out], show (Cq.val ⟨y1, y2, y3, y4, y5, y6⟩ A5 c5) = .agg #[.int .i64 y1, .string y2, .string y3, .int .i64 y4, .int .i64 y5, .slice A5 ny c5] from by rw [← HNY.out]] at h
      exact h)
    clear hb8 ho8 hn8 hbw8 HRA HPC7 HPD7 HPA hcb hdb
    go_wp2_with fail
    refine HSQ.out.mono ?_
    rintro en W9 ⟨rfl, hb9⟩
    have HPA9 := Lib.hid (HPA8.out.below hb9)
    have HPB9 := Lib.hid (HPB.out.below hb9)
    have HB9 := Lib.hid (HB8.out.trans (hb9.mono HB8.out.size))
    have hab := Blk.of_heap HPA9.out.o
    have hbb := Blk.of_heap HPB9.out.o
    have hqa := hab.cell
    have hqb := hbb.cell
    have hla := hab.lt
    have hlb := hbb.lt
    have HSN9 : Hid (Calls Tryd.prog 34 #[.agg #[.int .i64 z1, .int .i64 z2, .int .i64 z3, .int .i64 z4, .slice A7 nz c7, .slice B7 nn e7], .agg #[.int .i64 z1, .int .i64 z2, .int .i64 z3, .int .i64 z4, .slice A8 nz c8, .slice B8 nn e8]] W9 fun e w' => e = .returned (.bool true) ∧ Below W9.heap.size W9 w') := Lib.hid (by
      have h := samean_any ⟨z1, z2, z3, z4, z5, z6⟩ ⟨z1, z2, z3, z4, z5, z6⟩ A7 A8 B7 B8 c7 c8 e7 e8 W9.heap.size W9 HPA9.out.d HPB9.out.d HPA9.out.n HPB9.out.n HSA.out HSA.out HSN.out HSN.out (Nat.le_refl _)
      rw [(An.eqb_iff _ _).2 rfl, show (An.val ⟨z1, z2, z3, z4, z5, z6⟩ A7 c7 B7 e7) = .agg #[.int .i64 z1, .int .i64 z2, .int .i64 z3, .int .i64 z4, .slice A7 nz c7, .slice B7 nn e7] from by rw [← HNZ.out, ← HNX.out], show (An.val ⟨z1, z2, z3, z4, z5, z6⟩ A8 c8 B8 e8) = .agg #[.int .i64 z1, .int .i64 z2, .int .i64 z3, .int .i64 z4, .slice A8 nz c8, .slice B8 nn e8] from by rw [← HNZ.out, ← HNX.out]] at h
      exact h)
    clear hb9 hab hbb hqc hqd hlc hld HSQ
    go_wp2_with fail
    refine HSN9.out.mono ?_
    rintro en WA ⟨rfl, hbA⟩
    go_wp2
    go_ret
    exact ⟨rfl, HB9.out.trans (hbA.mono HB9.out.size)⟩
end Go.Proofs.YtohahhijbneheaaDoor
