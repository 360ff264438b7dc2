/- The document's Reader: Bytes. -/
import Derived.Test.YtohahhijbneheaaDoorRr
import Derived.Test.YtohahhijbneheaaDoorStepB
import Derived.Deep.CutRange
import Derived.Deep.DeepCutAuto
namespace Go.Proofs.YtohahhijbneheaaDoor
open Go.RowKit
set_option linter.unusedVariables false

set_option maxRecDepth 100000 in
set_option maxHeartbeats 4000000 in
theorem rrbytes_ok {w : World} {g n m : Nat} {d : List UInt8} {s : PS} (h0 : RR w g s) (hc0 : IsCount m s n (some d)) (hm : m ≤ 1000000) (hn : n ≤ d.length) :
    Calls Tryd.prog 73 #[.pointer (some ⟨g, 0, none⟩), .int .i64 (m : Int)] w fun e w' => NewBytes w.heap.size (d.take n) e w' ∧ RR w' g (some (d.drop n)) ∧ Fr (fun k => k = g) w w' := by
  have H := Lib.hid h0
  have HC := Lib.hid hc0
  have HN := Lib.hid hn
  clear h0 hc0 hn
  go_enter Tryd.func73, Tryd.ntmps73
  go_wp2_with fail
  refine (rrcount_is H.out HC.out hm).mono ?_
  rintro e w1 ⟨rfl, ⟨A, c, l, a, q', h1, h2, h4⟩, hf⟩
  have hq : q' = false := by cases q'; rfl; cases h4
  subst hq
  have hdr : d = l.drop a := by simpa using h4
  have hn' : n ≤ l.length - a := by have := congrArg List.length hdr; rw [List.length_drop] at this; have := HN.out; omega
  have HD := Lib.hid hdr
  clear hdr h4 H HC HN
  have H1 := Lib.hid h1
  have H2 := Lib.hid h2
  have hc := (Blk.of_heap h1.blk).cell
  have hfz := (Blk.of_heap h1.blk).free
  have hle := h1.le
  have hll := h1.ll
  have d3 : decide ((l.length : Int) - (a : Int) < (n : Int)) = false := by rw [decide_eq_false_iff_not]; omega
  have d4 : IntKind.i64.wrap ((l.length : Int) - (a : Int)) = (l.length : Int) - (a : Int) := by rw [IntKind.wrap_i64]; omega
  clear h1 h2
  go_wp2_with fail
  go_quiet (fail)
  clear d3 d4
  go_upto_region 5 with fail
  obtain ⟨X, hX⟩ : ∃ X, w1.drewN nq = X := ⟨_, rfl⟩
  have hXb : Below w1.heap.size w1 X := by rw [← hX]; exact bdrewN_refl _ _ nq
  have hb2 := H2.out.below hXb
  have HR1 : Hid (RRd X g A c l a false) := ⟨by rw [← hX]; exact H1.out.blk, H1.out.le, H1.out.ll⟩
  have hc := (Blk.of_heap HR1.out.blk).cell
  have hfX : Fr (fun k => k = g) w X := by rw [← hX]; exact hf.drewN nq
  rw [hX]
  clear hX hc hfz hf
  have hc := (Blk.of_heap HR1.out.blk).cell
  have hfz := (Blk.of_heap HR1.out.blk).free
  have LL : Hid (0 + ((l.drop a).take n).length ≤ 70368744177664) := by show _ ≤ _; rw [List.length_take, List.length_drop]; omega
  have LN : Hid (n = ((l.drop a).take n).length) := by show _ = _; rw [List.length_take, List.length_drop]; omega
  have hY : Below X.heap.size X (X.drew.alloc (.cells #[] 5)) := ((Below.refl _ _).drew).alloc (Nat.le_refl _) _
  have hgX : g < X.heap.size := (Array.getElem?_eq_some_iff.1 HR1.out.blk).1
  have q1 : IntKind.i64.wrap ((a : Int) + (n : Int)) = (a : Int) + (n : Int) := by rw [IntKind.wrap_i64]; omega
  have q2 : (a : Int) ≤ (a : Int) + (n : Int) := by omega
  go_cut [6] from 32 to 48 (fun s6 wx => ∃ A1 c1, s6 = .slice A1 n c1 ∧ Hid (wx.ownsRow X.heap.size 5 1 (.slice A1 n c1) n (bv ((l.drop a).take n))) ∧ Hid (Below X.heap.size X wx))
  case first =>
    rcases hb2 with ⟨rfl, rfl, rfl⟩ | ⟨b, o, cs, fr, rfl, hbb, hlc, hk⟩
    · have ha0 : a = 0 := by simpa using hle
      have hn0 : n = 0 := by simpa using hn'
      subst ha0 hn0
      clear LN LL q1
      have q1 : IntKind.i64.wrap 0 = 0 := by decide
      go_region_law
        (first
          | (refine step_append_b rfl _ _ (by rfl) X.heap.size _ 0 [] (by rfl) (World.ownsRow_made X.drew #[] 0 (Nat.le_refl _) (Nat.zero_le _) rfl) _ _ _ X.heap.size [] (by rfl) ?_ ?_ ?_ (by simp) hY.size ?_
             · simp
             · intro _; simp
             · exact .inl rfl
             intro v1 W1 ho1 hb1)
          | fail)
      all_goals
        have hXW : Below X.heap.size X W1 := hY.trans hb1
        obtain ⟨A1, c1, rfl⟩ := own_form ho1
        go_wp2
        go_meet
        exact ⟨A1, c1, rfl, ho1, hXW⟩
    · have q3 : (a : Int) + (n : Int) ≤ (c : Int) := by omega
      have hb0 : b < X.heap.size := (Array.getElem?_eq_some_iff.1 hbb).1
      have HSL : Hid (∀ A, (A = some ⟨b, o, none⟩ ∧ c = a) ∨ A = some ⟨b, o + a, none⟩ → Sl X X.heap.size A (bv ((l.drop a).take n))) := by
        rintro A (⟨rfl, h⟩ | rfl)
        · have hn0 : n = 0 := by omega
          subst hn0
          exact .inl (by simp [bv])
        · refine .inr ⟨b, o + a, rfl, hb0, fun k u hu => ?_⟩
          rw [bv_take, bv_drop, List.getElem?_take] at hu
          split at hu
          · rw [List.getElem?_drop] at hu
            have := hk _ _ hu
            unfold World.cell?
            simp only [hbb]
            rw [← Nat.add_assoc] at this
            exact this
          · cases hu
      clear hk hbb
      by_cases hca : c = a
      · have hn0 : n = 0 := by omega
        subst hca hn0
        clear q1 q2 q3 LL
        have q1 : IntKind.i64.wrap (c : Int) = (c : Int) := by rw [IntKind.wrap_i64]; omega
        have q2 : (0 : Int) ≤ (c : Int) := by omega
        go_region_law
          (first
            | (refine step_append_b rfl _ _ (by rfl) X.heap.size _ 0 [] (by rfl) (World.ownsRow_made X.drew #[] 0 (Nat.le_refl _) (Nat.zero_le _) rfl) _ _ _ X.heap.size [] (by rfl) ?_ ?_ ?_ (by simp) hY.size ?_
               · simp
               · intro _; simp
               · exact .inl rfl
               intro v1 W1 ho1 hb1)
            | fail)
        all_goals
          have hXW : Below X.heap.size X W1 := hY.trans hb1
          obtain ⟨A1, c1, rfl⟩ := own_form ho1
          have HO := Lib.hid ho1
          clear ho1 hc
          go_wp2
          go_meet
          exact ⟨A1, c1, rfl, by simpa using HO, hXW⟩
      · have hca2 : decide (c = a) = false := by simpa using hca
        go_region_law
          (first
            | (refine step_append_b rfl _ _ (by rfl) X.heap.size _ 0 [] (by rfl) (World.ownsRow_made X.drew #[] 0 (Nat.le_refl _) (Nat.zero_le _) rfl) _ _ _ X.heap.size ((l.drop a).take n) (by rfl) ?_ ?_ ?_ LL.out hY.size ?_
               · rw [← LN.out]; omega
               · intro e; first | cases e | (split at e <;> cases e)
               · refine Sl.below ?_ hY
                 refine HSL.out _ ?_
                 exact .inr (by simp)
               intro v1 W1 ho1 hb1)
            | fail)
        all_goals
          have hXW : Below X.heap.size X W1 := hY.trans hb1
          rw [Nat.zero_add, List.nil_append, ← LN.out] at ho1
          obtain ⟨A1, c1, rfl⟩ := own_form ho1
          have HO := Lib.hid ho1
          clear ho1 hc
          go_wp2
          go_meet
          exact ⟨A1, c1, by first | rfl | (simp; done) | (simp; omega), HO, hXW⟩
  case rest =>
    obtain ⟨A1, c1, rfl, HO, HXW⟩ := hcut
    have hXW := HXW.out
    have hRW : RRd wc g A c l a false := ⟨(hXW.block g hgX).trans HR1.out.blk, HR1.out.le, HR1.out.ll⟩
    have hbW := hb2.below hXW
    have hcW := (Blk.of_heap hRW.blk).cell
    have hfW := (Blk.of_heap hRW.blk).free
    have HRW := Lib.hid hRW
    have HBW := Lib.hid hbW
    clear hRW hbW hb2
    go_wp2
    go_ret
    have f2 : Fr (fun k => k = g) wc (wc.setCell ⟨g, 1, none⟩ (.int .i64 ((a : Int) + (n : Int)))) := Fr.setCell (M := fun k => k = g) (p := ⟨g, 1, none⟩) (Fr.refl _ _) (fun _ => rfl) _
    refine ⟨?_, ⟨A, c, l, a + n, false, ⟨?_, by omega, HRW.out.ll⟩, HBW.out.keep HRW.out.blk (by decide) f2, by rw [HD.out, List.drop_drop]; rfl⟩, (hfX.thenBelow hXW).trans f2 (fun _ _ e => e)⟩
    · rw [HD.out]
      have hs := hfX.size
      have ho := f2.owns HO.out (fun k hk e => owns_ne HO.out HRW.out.blk (by decide) (by rw [hk, e]))
      have hln : ((l.drop a).take n).length = n := LN.out.symm
      refine ⟨A1, c1, by rw [hln]; rfl, ?_⟩
      rw [hln]
      refine ⟨ho.1, ?_⟩
      rcases ho.2 with h0 | ⟨g', cap', cur, e1, e2, r⟩
      · exact .inl h0
      · exact .inr ⟨g', cap', cur, e1, Nat.le_trans hs e2, r⟩
    · rw [cell_set HRW.out.blk, Int.natCast_add]
      rfl
end Go.Proofs.YtohahhijbneheaaDoor
