/- tidelineref11.Decode. tidelineref11.Decode: the walk. -/
import Derived.Test.YtohahhijbneheaaDoorPdec
import Derived.Test.YtohahhijbneheaaDoorRr
import Derived.Test.YtohahhijbneheaaDoorPrA
namespace Go.Proofs.YtohahhijbneheaaDoor
open Go.RowKit
set_option linter.unusedVariables false
attribute [local go_sem] Oper.semAt_some

/-- A chain as the document reads it. -/
def roneC (s : PS) : List Int × PS := pmany oneU (pcount 7 s).1 (pcount 7 s).2
theorem rone_agree (s : PS) : (roneC s).2 = (oneC s).2 ∧ ((oneC s).2 ≠ none → roneC s = oneC s) := by
  have h : oneC s = if (roneC s).2 = none then ([], none) else roneC s := rfl
  by_cases hn : (roneC s).2 = none
  · rw [if_pos hn] at h
    rw [h]
    exact ⟨hn, fun x => absurd rfl x⟩
  · rw [if_neg hn] at h
    rw [h]
    exact ⟨rfl, fun _ => rfl⟩
theorem rmany_agree : ∀ (k : Nat) (s : PS), (pmany roneC k s).2 = (pmany oneC k s).2 ∧ ((pmany oneC k s).2 ≠ none → pmany roneC k s = pmany oneC k s)
  | 0, s => ⟨rfl, fun _ => rfl⟩
  | k + 1, none => ⟨rfl, fun _ => rfl⟩
  | k + 1, some l => by
    obtain ⟨h1, h2⟩ := rone_agree (some l)
    obtain ⟨h3, h4⟩ := rmany_agree k (oneC (some l)).2
    have e1 : pmany roneC (k + 1) (some l) = ((roneC (some l)).1 :: (pmany roneC k (oneC (some l)).2).1, (pmany roneC k (oneC (some l)).2).2) := by
      show ((roneC (some l)).1 :: (pmany roneC k (roneC (some l)).2).1, (pmany roneC k (roneC (some l)).2).2) = _
      rw [h1]
    have e2 : pmany oneC (k + 1) (some l) = ((oneC (some l)).1 :: (pmany oneC k (oneC (some l)).2).1, (pmany oneC k (oneC (some l)).2).2) := rfl
    rw [e1, e2]
    refine ⟨h3, fun hne => ?_⟩
    have hne' : (pmany oneC k (oneC (some l)).2).2 ≠ none := hne
    have hs : (oneC (some l)).2 ≠ none := by
      intro e
      rw [e, pmany_none] at hne'
      exact hne' rfl
    rw [h2 hs, h4 hne']
/-- The chains as the document reads them. -/
def rchains (s : PS) : List (List Int) × PS := pmany roneC (pcount 7 s).1 (pcount 7 s).2
theorem rchains_agree (s : PS) : ((rchains s).2 = some [] → plist 7 oneC s = rchains s) ∧ ((rchains s).2 ≠ some [] → (plist 7 oneC s).2 ≠ some []) := by
  obtain ⟨h1, h2⟩ := rmany_agree (pcount 7 s).1 (pcount 7 s).2
  have h : plist 7 oneC s = if (pmany oneC (pcount 7 s).1 (pcount 7 s).2).2 = none then ([], none) else pmany oneC (pcount 7 s).1 (pcount 7 s).2 := rfl
  have hr : rchains s = pmany roneC (pcount 7 s).1 (pcount 7 s).2 := rfl
  refine ⟨fun e => ?_, fun e => ?_⟩
  · rw [hr, h1] at e
    have hne : (pmany oneC (pcount 7 s).1 (pcount 7 s).2).2 ≠ none := by rw [e]; simp
    rw [h, if_neg hne, hr, h2 hne]
  · rw [hr, h1] at e
    rw [h]
    split
    · simp
    · exact e
theorem oneU_ps (l : List UInt8) : psLen (oneU (some l)).2 ≤ psLen (some l) := oneU_len _
theorem RR.off {M : Nat → Prop} {W W' : World} {g : Nat} {s : PS} (h : RR W g s) (hf : Fr M W W') (h1 : Off M W 5) (h2 : Off M W 105) : RR W' g s := by
  obtain ⟨A, c, l, a, q, k1, k2, k3⟩ := h
  refine ⟨A, c, l, a, q, ⟨h2.cells hf k1.blk, k1.le, k1.ll⟩, ?_, k3⟩
  rcases k2 with e | ⟨b, o, cs, fr, e, hb, r⟩
  · exact .inl e
  · exact .inr ⟨b, o, cs, fr, e, h1.cells hf hb, r⟩
theorem RR.rbx {w : World} {g : Nat} {s : PS} (h : RR w g s) : ∃ xs, w.heap[g]? = some (.cells xs 105 (0, 0)) := by
  obtain ⟨A, c, l, a, q, h1, -⟩ := h
  exact ⟨_, h1.blk⟩
theorem RR.is_gone {w : World} {g : Nat} (h : RR w g none) : w.cell? ⟨g, 2, none⟩ = some (.bool true) := by
  obtain ⟨A, c, l, a, q, h1, -, h3⟩ := h
  cases q
  · cases h3
  · exact (Blk.of_heap h1.blk).cell 2
theorem RR.is_left {w : World} {g : Nat} {l : List UInt8} (h : RR w g (some l)) : w.cell? ⟨g, 2, none⟩ = some (.bool false) := by
  obtain ⟨A, c, l, a, q, h1, -, h3⟩ := h
  cases q
  · exact (Blk.of_heap h1.blk).cell 2
  · cases h3

/-- The document's Decode under way. -/
structure RDS (w0 : World) (gz g gm : Nat) (x1 : Int) (v : Value) (xs : List Ch) (s : PS) (W : World) : Prop where
  rd : RR W g s
  z : Obj1 W gz 24 #[.int .i64 0, .slice none 0 0]
  m : Obj1 W gm 24 #[.int .i64 x1, v]
  rows : RowsAt W gz v xs
  bel : Below gz w0 W
theorem RDS.below {w0 : World} {gz g gm : Nat} {x1 : Int} {v : Value} {xs : List Ch} {s : PS} {W W' : World} (h : RDS w0 gz g gm x1 v xs s W) (hb : Below W.heap.size W W') (hz : gz ≤ W.heap.size) : RDS w0 gz g gm x1 v xs s W' :=
  ⟨h.rd.below hb, h.z.below hb h.z.lt, h.m.below hb h.m.lt, h.rows.below hb, h.bel.trans (hb.mono hz)⟩
theorem RDS.read {w0 : World} {gz g gm : Nat} {x1 : Int} {v : Value} {xs : List Ch} {s s' : PS} {W W' : World} (h : RDS w0 gz g gm x1 v xs s W) (hf : Fr (fun k => k = g) W W') (hr : RR W' g s') (hz : gz ≤ W.heap.size) (hg : gz ≤ g) : RDS w0 gz g gm x1 v xs s' W' := by
  obtain ⟨cs, hb⟩ := h.rd.rbx
  exact ⟨hr, (Off.one hb (by decide)).cells hf h.z, (Off.one hb (by decide)).cells hf h.m, h.rows.off hf (Off.one hb (by decide)) (Off.one hb (by decide)), h.bel.trans (hf.below hz (fun k e => by rw [e]; exact hg))⟩
theorem RDS.drewN {w0 : World} {gz g gm : Nat} {x1 : Int} {v : Value} {xs : List Ch} {s : PS} {W : World} (h : RDS w0 gz g gm x1 v xs s W) (n : Nat) : RDS w0 gz g gm x1 v xs s (W.drewN n) :=
  ⟨h.rd.below (bdrewN_refl _ _ n), h.z, h.m, ⟨h.rows.row, h.rows.dat⟩, bdrewN h.bel n⟩
/-- Another row of ints, of blocks behind all of these, grows. -/
theorem RDS.grow {w0 : World} {gz g gm base n : Nat} {x1 : Int} {v u : Value} {xs : List Ch} {s : PS} {us : List Value} {W W' : World} (h : RDS w0 gz g gm x1 v xs s W) (hu : W.ownsRow base 3 1 u n us) (hx : ∀ x ∈ xs, ∀ k, x.val.ownBlock = some k → k < base) (hf : Fr (fun k => u.ownBlock = some k) W W') (hz : gz ≤ W.heap.size) (hb : gz ≤ base) :
    RDS w0 gz g gm x1 v xs s W' := by
  refine ⟨h.rd.off hf (Off.own hu (by decide)) (Off.own hu (by decide)), (Off.own hu (by decide)).cells hf h.z, (Off.own hu (by decide)).cells hf h.m, ⟨(Off.own hu (by decide)).row hf h.rows.row, fun x hxx => hf.owns (h.rows.dat x hxx) (fun k hk e => ?_)⟩, h.bel.trans (hf.below hz (fun k e => Nat.le_trans hb (lst_ge hu e)))⟩
  have h1 := hx x hxx k hk
  have h2 := lst_ge hu e
  omega
/-- A chain is put behind the others. -/
theorem RDS.next {w0 : World} {gz g gm base gg cap c : Nat} {x1 : Int} {v : Value} {xs : List Ch} {s : PS} {W w2 : World} {A : Option Addr} {ys : List Int} {o : Obj} (h : RDS w0 gz g gm x1 v xs s W) (hy : W.ownsRow base 3 1 (.slice A ys.length c) ys.length (iv ys)) (hb : gz ≤ base) (hz : gz ≤ W.heap.size) (hzm : gz ≠ gm) (hgm : gz ≤ gm)
    (hown2 : w2.ownsRow gz 25 1 (.slice (some ⟨gg, 0, none⟩) (xs.length + 1) cap) (xs.length + 1) (xs.map Ch.val ++ [.slice A ys.length c])) (hgrow : (W.alloc o).grownBy w2 v.ownBlock) :
    RDS w0 gz g gm x1 (.slice (some ⟨gg, 0, none⟩) (xs.length + 1) cap) (xs ++ [⟨A, c, ys⟩]) s (w2.setCell ⟨gm, 1, none⟩ (.slice (some ⟨gg, 0, none⟩) (xs.length + 1) cap)) := by
  have f1 : Fr (fun k => v.ownBlock = some k) W w2 := ((Fr.refl _ W).alloc o).grown hgrow (fun k hk _ => hk)
  have o1 : ∀ {t : TypeId}, t ≠ 25 → Off (fun k => v.ownBlock = some k) W t := fun ht => Off.own h.rows.row ht
  have hm2 : Obj1 w2 gm 24 _ := (o1 (by decide)).cells f1 h.m
  have hz2 : Obj1 w2 gz 24 _ := (o1 (by decide)).cells f1 h.z
  have f2 := fr_set w2 gm 1 (.slice (some ⟨gg, 0, none⟩) (xs.length + 1) cap)
  have o2 : ∀ {t : TypeId}, t ≠ 24 → Off (fun k => k = gm) w2 t := fun ht => Off.one hm2 ht
  have hs2 := f1.size
  refine ⟨(h.rd.off f1 (o1 (by decide)) (o1 (by decide))).off f2 (o2 (by decide)) (o2 (by decide)), hz2.far (p := ⟨gm, 1, none⟩) hzm _, cell_set (i := 1) hm2 _, ⟨?_, ?_⟩, ?_⟩
  · rw [List.map_append, List.length_append]
    exact (o2 (by decide)).row f2 hown2
  · intro x hx
    rcases List.mem_append.1 hx with hx | hx
    · exact (o2 (by decide)).row f2 ((o1 (by decide)).row f1 (h.rows.dat x hx))
    · rw [List.mem_singleton.1 hx]
      exact (o2 (by decide)).row f2 ((o1 (by decide)).row f1 (lst_low hy hb))
  · exact (h.bel.trans (f1.below hz (fun k e => lst_ge h.rows.row e))).setCell (p := ⟨gm, 1, none⟩) hgm _
end Go.Proofs.YtohahhijbneheaaDoor
namespace Go.Proofs.YtohahhijbneheaaDoor
open Go.RowKit
set_option linter.unusedVariables false
attribute [local go_sem] Oper.semAt_some

theorem iv_app (a b : List Int) : iv (a ++ b) = iv a ++ iv b := by simp [iv]
set_option maxRecDepth 100000 in
set_option maxHeartbeats 8000000 in
theorem rpdec_some (A : Option Addr) (c B : Nat) (b a : List UInt8) (w : World) (h : Sl w B A (bv b)) (hc : b.length ≤ c) (hl : b.length ≤ 1000000) (hB : B ≤ w.heap.size) (hu : unw b = some a) :
    Calls Tryd.prog 25 #[.slice A b.length c] w (DecP (decPlan a) w) := by
  have HU := Lib.hid hu
  have HC := Lib.hid hc
  have hal := unw_len hu
  obtain ⟨x1, s1, px1⟩ := isNum 4 (some a)
  have hx1 : x1 < 4294967296 := px1.lt
  have hl1 : psLen s1 ≤ 1000000 := Nat.le_trans px1.len (Nat.le_trans hal hl)
  obtain ⟨n, s2, px2⟩ := isCount 7 s1
  have hn7 : n ≤ 7 := px2.le
  obtain ⟨R, hR⟩ : ∃ R, rchains s1 = R := ⟨_, rfl⟩
  have hag := rchains_agree s1
  rw [hR] at hag
  obtain ⟨D, hD⟩ : ∃ D, decPlan a = D := ⟨_, rfl⟩
  rw [hD]
  have HD : Hid (D = if R.2 = some [] ∧ rightP (x1 : Int) R.1 = true then some ((x1 : Int), R.1) else none) := Lib.hid (by
    rw [← hD]
    have e : readPlan (some a) = ((x1 : Int), plist 7 oneC s1) := by unfold readPlan; rw [show pnum 4 (some a) = (x1, s1) from px1]
    unfold decPlan
    rw [e]
    by_cases h2 : R.2 = some []
    · rw [hag.1 h2]
    · rw [if_neg (fun h => hag.2 h2 h.1), if_neg (fun h => h2 h.1)])
  have PX1 := Lib.hid px1
  have PX2 := Lib.hid px2
  have HR : Hid (pmany roneC n s2 = R) := Lib.hid (by rw [← hR]; unfold rchains; rw [show pcount 7 s1 = (n, s2) from px2])
  clear hu hc px1 px2 hR hD hag
  go_enter Tryd.func25, Tryd.ntmps25
  go_wp2_with fail
  have B0 := (Below.refl w.heap.size w).alloc (Nat.le_refl _) (.cells #[.int .i64 0, .slice none 0 0] 24)
  have hz0 := Obj1.new w 24 #[.int .i64 0, .slice none 0 0]
  obtain ⟨X, hX⟩ : ∃ X, w.alloc (.cells #[.int .i64 0, .slice none 0 0] 24) = X := ⟨_, rfl⟩
  obtain ⟨gz, hgz⟩ : ∃ gz, w.heap.size = gz := ⟨_, rfl⟩
  rw [hX] at B0 hz0 ⊢
  have hs0 := B0.size
  have hB' : B ≤ X.heap.size := Nat.le_trans hB hs0
  have hsl := h.below (B0.mono hB)
  rw [hgz] at hz0 B0 hs0 ⊢
  have HGZ := Lib.hid hgz
  clear hX hgz
  refine (runwrap_any A c B b X hsl HC.out (by omega) hB').mono ?_
  rintro e w1 ⟨⟨A1, c1, he, ho⟩, hb1⟩
  rw [HU.out] at he ho
  have he : e = .returned (.tuple #[.slice A1 a.length c1, .int .i64 0]) := he
  subst he
  have B1 := B0.trans (hb1.mono hs0)
  have hz1 := hz0.below hb1 hz0.lt
  have HO := Lib.hid ho
  clear ho hz0 hb1 hsl
  go_wp2_with fail
  have hbx := (Below.refl w1.heap.size w1).alloc (Nat.le_refl _) (.cells #[.slice A1 a.length c1, .int .i64 0, .bool false] 105)
  have hr2 : RR (w1.alloc (.cells #[.slice A1 a.length c1, .int .i64 0, .bool false] 105)) w1.heap.size (some a) :=
    ⟨A1, c1, a, 0, false, ⟨heap_alloc_new w1 _, Nat.zero_le _, by omega⟩, (RB.of_own HO.out).below hbx, by simp⟩
  have hgw : gz ≤ w1.heap.size := bsize B1 HGZ.out
  have B2 := B1.trans (hbx.mono hgw)
  have hz2 := hz1.below hbx hz1.lt
  have hgzl := hz1.lt
  obtain ⟨w2, hw2⟩ : ∃ X, w1.alloc (.cells #[.slice A1 a.length c1, .int .i64 0, .bool false] 105) = X := ⟨_, rfl⟩
  obtain ⟨g, hg⟩ : ∃ g, w1.heap.size = g := ⟨_, rfl⟩
  rw [hw2] at B2 hz2 hr2 ⊢
  rw [hg] at hgw hgzl hr2 ⊢
  clear hw2 hg hbx hz1 B1 B0 HO hs0
  refine (rrnum_is hr2 PX1.out (by decide)).mono ?_
  rintro e w3 ⟨rfl, hr3, hf3⟩
  obtain ⟨cr, hcr⟩ := hr2.rbx
  have hz3 : Obj1 w3 gz 24 _ := (Off.one hcr (by decide)).cells hf3 hz2
  have B3 := B2.trans (hf3.below (bsize B2 HGZ.out) (fun k e => by rw [e]; exact hgw))
  have HR3 := Lib.hid hr3
  have hs3 := bsize B3 HGZ.out
  have hgz3 := hz3.lt
  have HZ3 := Lib.hid hz3
  have HB3 := Lib.hid B3
  clear hr3 hf3 hcr hz2 hr2 hz3 B2 B3
  go_wp2_with fail
  try rw [nat_conv x1 (by omega)]
  have hm4 := Obj1.new w3 24 #[.int .i64 (x1 : Int), .slice none 0 0]
  have hba : Below w3.heap.size w3 (w3.alloc (.cells #[.int .i64 (x1 : Int), .slice none 0 0] 24)) := (Below.refl _ _).alloc (Nat.le_refl _) _
  obtain ⟨W4, hW4⟩ : ∃ X, w3.alloc (.cells #[.int .i64 (x1 : Int), .slice none 0 0] 24) = X := ⟨_, rfl⟩
  obtain ⟨gm, hgm⟩ : ∃ gm, w3.heap.size = gm := ⟨_, rfl⟩
  rw [hW4] at hba hm4 ⊢
  have hS4 : RDS w gz g gm (x1 : Int) (.slice none 0 0) [] s1 W4 :=
    ⟨HR3.out.below hba, HZ3.out.below hba hgz3, by rw [← hgm]; exact hm4, ⟨World.ownsRow_nil _ _ _ _, fun x hx => absurd hx (by simp)⟩, HB3.out.trans (hba.mono hs3)⟩
  rw [hgm] at hm4 hs3 hgz3 ⊢
  clear hba hW4 hgm hm4 HR3 HZ3 HB3
  have hne : gz ≠ gm := by omega
  refine (rrcount_is hS4.rd PX2.out (by decide)).mono ?_
  rintro e w5 ⟨rfl, hr5, hf5⟩
  have HS5 := Lib.hid (hS4.read hf5 hr5 (bsize hS4.bel HGZ.out) hgw)
  clear hr5 hf5 hS4
  go_wp2_with fail
  go_loopw [9] (fun sk wr => ∃ (k : Nat) (v : Value) (xs : List Ch) (s : PS), k ≤ n ∧ sk = .int .i64 (k : Int) ∧ Hid (xs.length = k) ∧ Hid (RDS w gz g gm (x1 : Int) v xs s wr) ∧ Hid (pmany roneC k s2 = (xs.map (·.l), s))) (fun sk _ => n - (intOf sk).toNat)
  case atStart => exact ⟨0, _, [], s2, Nat.zero_le _, rfl, Lib.hid rfl, HS5, Lib.hid rfl⟩
  case round =>
    obtain ⟨k, v, xs, s, hk, rfl, HXL, HS, HPM⟩ := hrel
    clear HS5
    obtain ⟨Av, cv, rfl⟩ := own_form HS.out.rows.row
    by_cases hgo : k < n ∧ s ≠ none
    · obtain ⟨hlt, hsn⟩ := hgo
      obtain ⟨ls, rfl⟩ : ∃ ls, s = some ls := by cases s with | none => exact absurd rfl hsn | some l => exact ⟨l, rfl⟩
      have hi1 : (k : Int) < (n : Int) := by omega
      have hwr := HS.out.rd.is_left
      obtain ⟨m, t1, px3⟩ := isCount 7 (some ls)
      have hm7 : m ≤ 7 := px3.le
      have PX3 := Lib.hid px3
      clear px3 hsn
      go_wp2_with fail
      refine (rrcount_is HS.out.rd PX3.out (by decide)).mono ?_
      rintro e wA ⟨rfl, hrA, hfA⟩
      have hSA := HS.out.read hfA hrA (bsize HS.out.bel HGZ.out) hgw
      have hsA := bsize hSA.bel HGZ.out
      have HXB : Hid (∀ x ∈ xs, ∀ k, x.val.ownBlock = some k → k < wA.heap.size) := Lib.hid (fun x hx k hk => (own_lt (hSA.rows.dat x hx) hk).1)
      have hbA : Below wA.heap.size wA (wA.alloc (.cells #[] 3)) := (Below.refl _ _).alloc (Nat.le_refl _) _
      have HSI := Lib.hid (hSA.below hbA hsA)
      have HOI : Hid ((wA.alloc (.cells #[] 3)).ownsRow wA.heap.size 3 1 (.slice (some ⟨wA.heap.size, 0, none⟩) 0 0) 0 (iv [])) := Lib.hid (World.ownsRow_made wA #[] 0 (Nat.le_refl _) (Nat.zero_le _) rfl)
      have HSZI : Hid (wA.heap.size ≤ (wA.alloc (.cells #[] 3)).heap.size) := Lib.hid hbA.size
      clear hrA hfA hSA hbA hwr
      go_wp2_with fail
      go_loopw [11, 12] (fun sl sj wr2 => ∃ (j : Nat) (A3 : Option Addr) (c3 : Nat) (ys : List Int) (t : PS), j ≤ m ∧ sj = .int .i64 (j : Int) ∧ sl = .slice A3 j c3 ∧ Hid (ys.length = j) ∧ Hid (wr2.ownsRow wA.heap.size 3 1 (.slice A3 j c3) j (iv ys)) ∧ Hid (RDS w gz g gm (x1 : Int) (.slice Av xs.length cv) xs t wr2) ∧ Hid (pmany oneU j t1 = (ys, t)) ∧ Hid (wA.heap.size ≤ wr2.heap.size)) (fun _ sj _ => m - (intOf sj).toNat)
      case atStart => exact ⟨0, _, _, [], t1, Nat.zero_le _, rfl, rfl, Lib.hid rfl, HOI, HSI, Lib.hid rfl, HSZI⟩
      case round =>
        obtain ⟨j, A3, c3, ys, t, hj, rfl, rfl, HYL, HOY, HSJ, HPJ, HSZ⟩ := hrel
        clear HOI HSI HSZI
        by_cases hgj : j < m ∧ t ≠ none
        · obtain ⟨hltj, htn⟩ := hgj
          obtain ⟨lt, rfl⟩ : ∃ ls, t = some ls := by cases t with | none => exact absurd rfl htn | some l => exact ⟨l, rfl⟩
          have hi2 : (j : Int) < (m : Int) := by omega
          have hwj := HSJ.out.rd.is_left
          obtain ⟨z, t2, px4⟩ := isNum 1 (some lt)
          have hz8 : z < 256 := px4.lt
          have PX4 := Lib.hid px4
          clear px4 htn
          go_wp2_with fail
          refine (rrnum_is HSJ.out.rd PX4.out (by decide)).mono ?_
          rintro e wB ⟨rfl, hrB, hfB⟩
          have hsr := bsize HSJ.out.bel HGZ.out
          have HSB := Lib.hid (HSJ.out.read hfB hrB hsr hgw)
          obtain ⟨cq, hcq⟩ := HSJ.out.rd.rbx
          have HOB := Lib.hid ((Off.one hcq (by decide)).row hfB HOY.out)
          have HSZB : Hid (wA.heap.size ≤ wB.heap.size) := Lib.hid (Nat.le_trans HSZ.out hfB.size)
          have H63 : Hid (j + 1 ≤ maxLen) := by show _ ≤ _; unfold maxLen; omega
          have HBY : Hid ((j + 1) * 8 ≤ 140737488355328) := by show _ ≤ _; omega
          have hzc := nat_conv z (by omega)
          clear hrB hfB hcq hwj hsr
          go_wp2_with (at_builtin; obtain ⟨i0, hi, hz0, hz1, hz2⟩ := info_parts info_int; refine wpList_append_own _ rfl _ _ 25 rfl wA.heap.size 3 i0 (.int .i64 0) 1 8 Tryd.underlying25 hi hz0 hz1 hz2 rfl (by decide) (.slice A3 j c3) j (iv ys) rfl (HOB.out.alloc _) ⟨wB.heap.size, 0, none⟩ 1 1 [.int .i64 (z : Int)] rfl rfl (World.news_of_block (cs := #[.int .i64 (z : Int)]) (t := 3) (fr := (0, 0)) (heap_alloc_new wB _)) (by simp [Value.oneCell']) H63.out HBY.out (by have := HSZB.out; simp; omega) ?_; intro v' w2 hown5 hgrow5 hnil5; have HG5 := Lib.hid hgrow5; have HO5 := Lib.hid hown5; clear hi hz0 hz1 hz2 i0 hgrow5 hown5 hnil5)
          have hf1 : Fr (fun k => (Value.slice A3 j c3).ownBlock = some k) wB w2 := ((Fr.refl _ wB).alloc _).grown HG5.out (fun k hk _ => hk)
          have HSC := Lib.hid (HSB.out.grow HOB.out HXB.out hf1 (bsize HSB.out.bel HGZ.out) hsA)
          obtain ⟨A6, c6, rfl⟩ := own_form HO5.out
          have HO6 : Hid (w2.ownsRow wA.heap.size 3 1 (.slice A6 (j + 1) c6) (j + 1) (iv (ys ++ [(z : Int)]))) := Lib.hid (by
            have h := HO5.out
            rw [iv_app]
            exact h)
          have HPJ2 : Hid (pmany oneU (j + 1) t1 = (ys ++ [(z : Int)], t2)) := Lib.hid (by
            rw [pmany_snoc oneU _ _ _ _ HPJ.out]
            have e : oneU (some lt) = ((z : Int), t2) := by unfold oneU; rw [show pnum 1 (some lt) = (z, t2) from PX4.out]
            rw [e])
          have HSZ2 : Hid (wA.heap.size ≤ w2.heap.size) := Lib.hid (Nat.le_trans HSZB.out hf1.size)
          clear hf1
          go_roundw
          case rel => exact ⟨j + 1, _, _, _, t2, by omega, by go_num, rfl, Lib.hid (by rw [List.length_append, HYL.out]; rfl), HO6, HSC, HPJ2, HSZ2⟩
          case measure => simp [intOf]; omega
        · have HRC : Hid (roneC (some ls) = (ys, t)) := Lib.hid (by
            unfold roneC
            rw [show pcount 7 (some ls) = (m, t1) from PX3.out]
            by_cases hjm : j < m
            · have htn : t = none := by cases t with | none => rfl | some l => exact absurd ⟨hjm, by simp⟩ hgj
              subst htn
              exact pmany_gone oneU _ _ _ m HPJ.out hj
            · obtain rfl : j = m := by omega
              exact HPJ.out)
          have hex : j = m ∨ (j < m ∧ t = none) := by
            by_cases hjm : j < m
            · exact .inr ⟨hjm, by cases t with | none => rfl | some l => exact absurd ⟨hjm, by simp⟩ hgj⟩
            · exact .inl (by omega)
          have hmb := HSJ.out.m.blk
          have hm1 := hmb.cell 1
          have hml := hmb.lt
          have hn7k : xs.length ≤ 7 := by have := HXL.out; omega
          have H63 : Hid (xs.length + 1 ≤ maxLen) := by show _ ≤ _; unfold maxLen; omega
          have HBY : Hid ((xs.length + 1) * 24 ≤ 140737488355328) := by show _ ≤ _; omega
          have hszw := bsize HSJ.out.bel HGZ.out
          have HSZW := Lib.hid hszw
          have HROW := Lib.hid HSJ.out.rows.row
          clear hmb hgj hn7k
          rcases hex with hjm | ⟨hjm, htn⟩
          · subst hjm
            have hend : ¬ ((j : Int) < (j : Int)) := by omega
            go_wp2_with (at_builtin; obtain ⟨i0, hi, hz0, hz1, hz2⟩ := info_parts info_ints; refine wpList_append_own _ rfl _ _ 22 rfl gz 25 i0 (.slice none 0 0) 1 24 Tryd.underlying22 hi hz0 hz1 hz2 rfl (by decide) (.slice Av xs.length cv) xs.length (xs.map Ch.val) rfl (HROW.out.alloc _) ⟨wr.heap.size, 0, none⟩ 1 1 [.slice A3 j c3] rfl rfl (cell_one_new wr _ _) (by simp [Value.oneCell']) H63.out HBY.out (by have := HSZW.out; simp; omega) ?_; intro v' w2 hown5 hgrow5 hnil5; obtain ⟨g6, c6, rfl⟩ := ownsRow_succ hown5; have hm2 := (HSJ.out.m.alloc (.cells #[.slice A3 j c3] 25)).grown hgrow5 (Obj1.ne (HSJ.out.m.alloc (.cells #[.slice A3 j c3] 25)) (HROW.out.alloc (.cells #[.slice A3 j c3] 25)) (by decide)); have hm2b := hm2.blk; have hq1 := hm2b.cell 1; have hq2 := hm2b.free 1; have hq3 := hm2b.lt; have HG5 := Lib.hid hgrow5; have HO5 := Lib.hid hown5; clear hi hz0 hz1 hz2 i0 hgrow5 hown5 hnil5 hm2 hm2b)
            have HOY2 : Hid (wr.ownsRow wA.heap.size 3 1 (.slice A3 ys.length c3) ys.length (iv ys)) := Lib.hid (by rw [HYL.out]; exact HOY.out)
            have HO6 : Hid (w2.ownsRow gz 25 1 (.slice (some ⟨g6, 0, none⟩) (xs.length + 1) c6) (xs.length + 1) (xs.map Ch.val ++ [.slice A3 ys.length c3])) := Lib.hid (by rw [HYL.out]; exact HO5.out)
            have HNX := Lib.hid (HSJ.out.next HOY2.out hsA HSZW.out hne hs3 HO6.out HG5.out)
            have HPM2 : Hid (pmany roneC (k + 1) s2 = ((xs ++ [Ch.mk A3 c3 ys]).map (·.l), t)) := Lib.hid (by
              rw [pmany_snoc roneC _ _ _ _ HPM.out, HRC.out, List.map_append]
              rfl)
            go_roundw
            case rel => exact ⟨k + 1, _, _, t, by omega, by go_num, Lib.hid (by rw [List.length_append, HXL.out]; rfl), HNX, HPM2⟩
            case measure => simp [intOf]; omega
          · subst htn
            have hi2 : (j : Int) < (m : Int) := by omega
            have hwj := HSJ.out.rd.is_gone
            go_wp2_with (at_builtin; obtain ⟨i0, hi, hz0, hz1, hz2⟩ := info_parts info_ints; refine wpList_append_own _ rfl _ _ 22 rfl gz 25 i0 (.slice none 0 0) 1 24 Tryd.underlying22 hi hz0 hz1 hz2 rfl (by decide) (.slice Av xs.length cv) xs.length (xs.map Ch.val) rfl (HROW.out.alloc _) ⟨wr.heap.size, 0, none⟩ 1 1 [.slice A3 j c3] rfl rfl (cell_one_new wr _ _) (by simp [Value.oneCell']) H63.out HBY.out (by have := HSZW.out; simp; omega) ?_; intro v' w2 hown5 hgrow5 hnil5; obtain ⟨g6, c6, rfl⟩ := ownsRow_succ hown5; have hm2 := (HSJ.out.m.alloc (.cells #[.slice A3 j c3] 25)).grown hgrow5 (Obj1.ne (HSJ.out.m.alloc (.cells #[.slice A3 j c3] 25)) (HROW.out.alloc (.cells #[.slice A3 j c3] 25)) (by decide)); have hm2b := hm2.blk; have hq1 := hm2b.cell 1; have hq2 := hm2b.free 1; have hq3 := hm2b.lt; have HG5 := Lib.hid hgrow5; have HO5 := Lib.hid hown5; clear hi hz0 hz1 hz2 i0 hgrow5 hown5 hnil5 hm2 hm2b)
            have HOY2 : Hid (wr.ownsRow wA.heap.size 3 1 (.slice A3 ys.length c3) ys.length (iv ys)) := Lib.hid (by rw [HYL.out]; exact HOY.out)
            have HO6 : Hid (w2.ownsRow gz 25 1 (.slice (some ⟨g6, 0, none⟩) (xs.length + 1) c6) (xs.length + 1) (xs.map Ch.val ++ [.slice A3 ys.length c3])) := Lib.hid (by rw [HYL.out]; exact HO5.out)
            have HNX := Lib.hid (HSJ.out.next HOY2.out hsA HSZW.out hne hs3 HO6.out HG5.out)
            have HPM2 : Hid (pmany roneC (k + 1) s2 = ((xs ++ [Ch.mk A3 c3 ys]).map (·.l), none)) := Lib.hid (by
              rw [pmany_snoc roneC _ _ _ _ HPM.out, HRC.out, List.map_append]
              rfl)
            go_roundw
            case rel => exact ⟨k + 1, _, _, none, by omega, by go_num, Lib.hid (by rw [List.length_append, HXL.out]; rfl), HNX, HPM2⟩
            case measure => simp [intOf]; omega
    · have HFIN : Hid (R = (xs.map (·.l), s)) := Lib.hid (by
        rw [← HR.out]
        by_cases hkn : k < n
        · have hsn : s = none := by cases s with | none => rfl | some l => exact absurd ⟨hkn, by simp⟩ hgo
          subst hsn
          exact pmany_gone roneC _ _ _ n HPM.out hk
        · obtain rfl : k = n := by omega
          exact HPM.out)
      have hex : k = n ∨ (k < n ∧ s = none) := by
        by_cases hkn : k < n
        · exact .inr ⟨hkn, by cases s with | none => rfl | some l => exact absurd ⟨hkn, by simp⟩ hgo⟩
        · exact .inl (by omega)
      clear hgo
      obtain ⟨q5, hq5⟩ : ∃ q, xs.length = q := ⟨_, rfl⟩
      have HQ5 := Lib.hid hq5
      rw [hq5] at HS
      clear hq5
      have htest : (k = n ∧ ¬ ((k : Int) < (k : Int))) ∨ ((k : Int) < (n : Int) ∧ wr.cell? ⟨g, 2, none⟩ = some (.bool true)) := by
        rcases hex with h1 | ⟨h1, h2⟩
        · exact .inl ⟨h1, by omega⟩
        · subst h2; exact .inr ⟨by omega, HS.out.rd.is_gone⟩
      clear hex
      rcases htest with ⟨rfl, hend⟩ | ⟨hi1, hwr⟩
      all_goals
        go_wp2_with fail
        refine (rrend_any HS.out.rd).mono ?_
        rintro e w7 ⟨hee, nE, hw7⟩
        have HS7 : Hid (RDS w gz g gm (x1 : Int) (.slice Av q5 cv) xs s w7) := Lib.hid (by rw [hw7]; exact HS.out.drewN nE)
        clear hw7
        by_cases hR2 : s = some []
        · rw [if_pos hR2] at hee
          subst hee
          have hmb := HS7.out.m.blk
          have hm0 := hmb.cell 0
          have hm1 := hmb.cell 1
          have HR2 := Lib.hid hR2
          have hms : RowsAt w7 gz (.slice Av xs.length cv) xs := by rw [HQ5.out]; exact HS7.out.rows
          have HRT := Lib.hid (rright_any (x1 : Int) Av cv xs w7.heap.size w7 hms.mem.sl hms.mem.ok (Nat.le_refl _))
          rw [HQ5.out] at HRT
          obtain ⟨rt, hrt⟩ : ∃ b, rightP (x1 : Int) (xs.map (·.l)) = b := ⟨_, rfl⟩
          rw [hrt] at HRT
          have HRTE := Lib.hid hrt
          have hgml := HS7.out.m.lt
          clear hmb hR2 hrt hms
          go_wp2_with fail
          refine HRT.out.mono ?_
          rintro e w8 ⟨rfl, hb8⟩
          have HS8 := Lib.hid (HS7.out.below hb8 (bsize HS7.out.bel HGZ.out))
          have hzb := HS8.out.z.blk
          have hz80 := hzb.cell 0
          have hz81 := hzb.cell 1
          have hzf := hzb.free
          have hzl := hzb.lt
          have hmb := HS8.out.m.blk
          have hm0' := hmb.cell 0
          have hm1' := hmb.cell 1
          have hml := hmb.lt
          clear hzb hb8 hmb hm0 hm1 hgml
          cases rt with
          | false =>
            go_wp2
            refine bodyPost_ret (v := .tuple #[.agg #[.int .i64 0, .slice none 0 0], .int .i64 3]) (results_row_tmp Tryd.results25 _ _ gz 24 #[.int .i64 0, .slice none 0 0] (0, 0) _ _ rfl rfl (blk_set (blk_set HS8.out.z _) _) Tryd.underlying24 rfl (by kernel_rfl)) rfl ?_
            have hDn : D = none := by rw [HD.out, if_neg (by rw [HFIN.out]; rintro ⟨-, h⟩; exact absurd (h.symm.trans HRTE.out) (by simp))]
            rw [hDn]
            refine DecP.of_none ?_
            rw [HGZ.out]
            exact (HS8.out.bel.setCell (p := ⟨gz, 0, none⟩) (Nat.le_refl _) _).setCell (p := ⟨gz, 1, none⟩) (Nat.le_refl _) _
          | true =>
            go_wp2
            refine bodyPost_ret (v := .tuple #[.agg #[.int .i64 (x1 : Int), .slice Av q5 cv], .int .i64 0]) (results_row_tmp Tryd.results25 _ _ gz 24 #[.int .i64 (x1 : Int), .slice Av q5 cv] (0, 0) _ _ rfl rfl (blk_set (blk_set HS8.out.z _) _) Tryd.underlying24 rfl (by kernel_rfl)) rfl ?_
            have hDs : D = some ((x1 : Int), xs.map (·.l)) := by rw [HD.out, HFIN.out, if_pos ⟨HR2.out, HRTE.out⟩]
            rw [hDs]
            have hB9 : Below gz w ((w8.setCell ⟨gz, 0, none⟩ (.int .i64 (x1 : Int))).setCell ⟨gz, 1, none⟩ (.slice Av q5 cv)) := (HS8.out.bel.setCell (p := ⟨gz, 0, none⟩) (Nat.le_refl _) _).setCell (p := ⟨gz, 1, none⟩) (Nat.le_refl _) _
            have hf9 : Fr (fun k => k = gz) w8 ((w8.setCell ⟨gz, 0, none⟩ (.int .i64 (x1 : Int))).setCell ⟨gz, 1, none⟩ (.slice Av q5 cv)) := (fr_set w8 gz 0 _).trans (fr_set _ gz 1 _) (fun _ _ e => e)
            have hra9 := HS8.out.rows.off hf9 (Off.one HS8.out.z (by decide)) (Off.one HS8.out.z (by decide))
            refine ⟨⟨Av, cv, xs, by rw [HQ5.out]; rfl, rfl, ?_, ?_⟩, by rw [HGZ.out]; exact hB9⟩
            · rw [← HQ5.out] at hra9 ⊢
              exact hra9.mem
            · rw [← HQ5.out] at hra9
              exact hra9.lo (by rw [HGZ.out]; exact Nat.le_refl _)
        · rw [if_neg hR2] at hee
          subst hee
          have HR2 := Lib.hid hR2
          have hzb := HS7.out.z.blk
          have hz80 := hzb.cell 0
          have hz81 := hzb.cell 1
          have hzf := hzb.free
          have hzl := hzb.lt
          clear hzb hR2
          go_wp2
          refine bodyPost_ret (v := .tuple #[.agg #[.int .i64 0, .slice none 0 0], .int .i64 3]) (results_row_tmp Tryd.results25 _ _ gz 24 #[.int .i64 0, .slice none 0 0] (0, 0) _ _ rfl rfl (blk_set (blk_set HS7.out.z _) _) Tryd.underlying24 rfl (by kernel_rfl)) rfl ?_
          have hDn : D = none := by rw [HD.out, HFIN.out, if_neg (fun h => HR2.out h.1)]
          rw [hDn]
          refine DecP.of_none ?_
          rw [HGZ.out]
          exact (HS7.out.bel.setCell (p := ⟨gz, 0, none⟩) (Nat.le_refl _) _).setCell (p := ⟨gz, 1, none⟩) (Nat.le_refl _) _

set_option maxRecDepth 100000 in
set_option maxHeartbeats 2000000 in
theorem rpdec_none (A : Option Addr) (c B : Nat) (b : List UInt8) (w : World) (h : Sl w B A (bv b)) (hc : b.length ≤ c) (hl : b.length ≤ 1000000) (hB : B ≤ w.heap.size) (hu : unw b = none) :
    Calls Tryd.prog 25 #[.slice A b.length c] w (DecP none w) := by
  have HU := Lib.hid hu
  have HC := Lib.hid hc
  clear hu hc
  go_enter Tryd.func25, Tryd.ntmps25
  go_wp2_with fail
  have B0 := (Below.refl w.heap.size w).alloc (Nat.le_refl _) (.cells #[.int .i64 0, .slice none 0 0] 24)
  have hz0 := Obj1.new w 24 #[.int .i64 0, .slice none 0 0]
  obtain ⟨X, hX⟩ : ∃ X, w.alloc (.cells #[.int .i64 0, .slice none 0 0] 24) = X := ⟨_, rfl⟩
  rw [hX] at B0 hz0 ⊢
  clear hX
  refine (runwrap_any A c B b X (h.below (B0.mono hB)) HC.out (by omega) (Nat.le_trans hB B0.size)).mono ?_
  rintro e w1 ⟨⟨A1, c1, he, ho⟩, hb1⟩
  rw [HU.out] at he
  have he : e = .returned (.tuple #[.slice A1 0 c1, .int .i64 3]) := he
  subst he
  have HB1 := Lib.hid (B0.trans (hb1.mono B0.size))
  have hz1 := hz0.below hb1 hz0.lt
  have HZ1 := Lib.hid hz1
  have hzb := hz1.blk
  have hz80 := hzb.cell 0
  have hz81 := hzb.cell 1
  have hzf := hzb.free
  have hzl := hzb.lt
  clear ho hb1 hz0 hz1 hzb B0
  go_wp2
  refine bodyPost_ret (v := .tuple #[.agg #[.int .i64 0, .slice none 0 0], .int .i64 3]) (results_row_tmp Tryd.results25 _ _ w.heap.size 24 #[.int .i64 0, .slice none 0 0] (0, 0) _ _ rfl rfl (blk_set (blk_set HZ1.out _) _) Tryd.underlying24 rfl (by kernel_rfl)) rfl ?_
  exact DecP.of_none ((HB1.out.setCell (p := ⟨w.heap.size, 0, none⟩) (Nat.le_refl _) _).setCell (p := ⟨w.heap.size, 1, none⟩) (Nat.le_refl _) _)

/-- **Decode: the plan of any bytes.** -/
theorem rpdec_any (A : Option Addr) (c B : Nat) (b : List UInt8) (w : World) (h : Sl w B A (bv b)) (hc : b.length ≤ c) (hl : b.length ≤ 1000000) (hB : B ≤ w.heap.size) :
    Calls Tryd.prog 25 #[.slice A b.length c] w (DecP ((unw b).bind decPlan) w) := by
  cases hu : unw b with
  | none => exact rpdec_none A c B b w h hc hl hB hu
  | some a => exact rpdec_some A c B b a w h hc hl hB hu
end Go.Proofs.YtohahhijbneheaaDoor
