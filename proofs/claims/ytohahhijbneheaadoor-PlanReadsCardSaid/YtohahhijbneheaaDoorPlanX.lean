/- plan.Next. -/
import Derived.Test.YtohahhijbneheaaDoorPlanA
import Derived.Test.YtohahhijbneheaaDoorPlanF
namespace Go.Proofs.YtohahhijbneheaaDoor
open Go.RowKit
set_option linter.unusedVariables false

/-- What a next plan comes to. -/
def nextP (e : Int) (cs : List (List Int)) (t : List Int) : Int × List (List Int) × Int :=
  if rightP e cs = false ∨ e = 2147483647 then (0, [], 1) else if ∃ c ∈ cs, stayP t c = [] then (0, [], 5) else (e + 1, cs.map (stayP t), 0)

/-- What Next's loop holds at k. -/
structure NextS (w : World) (e : Int) (bn : Nat) (cs : List (List Int)) (t : List Int) (k : Nat) (v : Value) (rs : List Ch) (W : World) : Prop where
  n : Obj1 W bn 24 #[.int .i64 (e + 1), v]
  row : W.ownsRow bn 25 1 v rs.length (rs.map Ch.val)
  own : ∀ r ∈ rs, W.ownsRow w.heap.size 3 1 r.val r.l.length (iv r.l)
  ls : rs.map (·.l) = (cs.take k).map (stayP t)
  z : Obj1 W (w.heap.size + 1 + 1) 24 #[.int .i64 0, .slice none 0 0]
  bel : Below w.heap.size w W
  bnw : w.heap.size ≤ bn
  ne : bn ≠ w.heap.size + 1 + 1

theorem owns_below {w w' : World} {base : Nat} {e : TypeId} {size n : Nat} {v : Value} {xs : List Value} (h : w.ownsRow base e size v n xs) (hb : Below w.heap.size w w') : w'.ownsRow base e size v n xs :=
  (Fr.of_below (M := fun _ => False) hb).owns h (fun _ _ x => x)
theorem NextS.step {w W W' w2 : World} {e : Int} {bn k g c : Nat} {cs : List (List Int)} {t l : List Int} {v v' : Value} {rs : List Ch} {o : Obj} (h : NextS w e bn cs t k v rs W) (hk : k < cs.length) (hl : cs[k] = l)
    (hb : Below W.heap.size W W') (hg : W'.ownsRow w.heap.size 3 1 (.slice (some ⟨g, 0, none⟩) (stayP t l).length c) (stayP t l).length (iv (stayP t l)))
    (hgrow : (W'.alloc o).grownBy w2 v.ownBlock) (hown : w2.ownsRow bn 25 1 v' (rs.length + 1) (rs.map Ch.val ++ [.slice (some ⟨g, 0, none⟩) (stayP t l).length c])) :
    NextS w e bn cs t (k + 1) v' (rs ++ [⟨some ⟨g, 0, none⟩, c, stayP t l⟩]) (w2.setCell ⟨bn, 1, none⟩ v') := by
  have n1 := h.n.below hb h.n.lt
  have z1 := h.z.below hb h.z.lt
  have r1 := owns_below h.row hb
  have n2 : Obj1 w2 bn 24 #[.int .i64 (e + 1), v] := (n1.alloc o).grown hgrow (n1.ne (e := 25) r1 (by decide))
  have z2 : Obj1 w2 (w.heap.size + 1 + 1) 24 #[.int .i64 0, .slice none 0 0] := (z1.alloc o).grown hgrow (z1.ne (e := 25) r1 (by decide))
  have keep : ∀ {n : Nat} {u : Value} {xs : List Value}, W'.ownsRow w.heap.size 3 1 u n xs → (w2.setCell ⟨bn, 1, none⟩ v').ownsRow w.heap.size 3 1 u n xs := by
    intro n u xs hu
    have f1 : Fr (fun j => v.ownBlock = some j) W' w2 := ((Fr.refl _ W').alloc o).grown hgrow (fun j hj _ => hj)
    have h2 := f1.owns hu (fun j hj hm => owns_apart hu r1 (by decide) j hj hm)
    exact (fr_set w2 bn 1 v').owns h2 (info_apart h2 n2 (by decide))
  refine ⟨blk_set n2 v', ?_, ?_, ?_, z2.far (p := ⟨bn, 1, none⟩) (fun e' => h.ne e'.symm) _, ?_, h.bnw, h.ne⟩
  · have h2 := (fr_set w2 bn 1 v').owns hown (info_apart hown n2 (by decide))
    simpa [Ch.val] using h2
  · intro r hr
    rcases List.mem_append.1 hr with hr | hr
    · exact keep (owns_below (h.own r hr) hb)
    · rw [List.mem_singleton.1 hr]
      exact keep hg
  · rw [List.map_append, h.ls, List.take_succ_eq_append_getElem hk, List.map_append, hl]
    rfl
  · exact ((h.bel.trans (hb.mono h.bel.size)).trans (((Below.refl _ W').alloc (Nat.le_trans h.bel.size hb.size) o).grown hgrow (by have := h.bel.size; have := hb.size; simp; omega) (fun q hq => Nat.le_trans h.bnw (own_lt h.row hq).2))).setCell (p := ⟨bn, 1, none⟩) h.bnw _
theorem NextS.bn2 {w W W' w2 : World} {e : Int} {bn k : Nat} {cs : List (List Int)} {t : List Int} {v : Value} {rs : List Ch} {o : Obj} (h : NextS w e bn cs t k v rs W) (hb : Below W.heap.size W W')
    (hgrow : (W'.alloc o).grownBy w2 v.ownBlock) : w2.cell? ⟨bn, 1, none⟩ = some v ∧ w2.frozen? ⟨bn, 1, none⟩ = false := by
  have n1 := h.n.below hb h.n.lt
  have n2 := ((n1.alloc o).grown hgrow (n1.ne (e := 25) (owns_below h.row hb) (by decide))).blk
  exact ⟨n2.cell 1, n2.free 1⟩
/-- The loop's end: the plan, handed back. -/
theorem NextS.done {w W : World} {e : Int} {bn k : Nat} {cs : List (List Int)} {t : List Int} {v : Value} {rs : List Ch} (h : NextS w e bn cs t k v rs W) (hk : cs.length ≤ k) (hn : ∀ c ∈ cs.take k, stayP t c ≠ []) (hr : rightP e cs = true) (he : e ≠ 2147483647) (u0 u1 : Value) :
    NewPlan w.heap.size (nextP e cs t).1 (nextP e cs t).2.1 (nextP e cs t).2.2 (.returned (.tuple #[.agg #[.int .i64 (e + 1), v], .int .i64 0])) ((W.setCell ⟨w.heap.size + 1 + 1, 0, none⟩ u0).setCell ⟨w.heap.size + 1 + 1, 1, none⟩ u1) := by
  rw [List.take_of_length_le hk] at hn
  have hx : nextP e cs t = (e + 1, cs.map (stayP t), 0) := by
    unfold nextP
    rw [if_neg (by rw [hr]; simpa using he), if_neg (by rintro ⟨c, hc, h0⟩; exact hn c hc h0)]
  rw [hx]
  obtain ⟨A, c, rfl⟩ := own_form h.row
  have hl := h.ls
  rw [List.take_of_length_le hk] at hl
  have keep : ∀ {b : Nat} {t : TypeId} {n : Nat} {u : Value} {xs : List Value}, t ≠ 24 → W.ownsRow b t 1 u n xs → ((W.setCell ⟨w.heap.size + 1 + 1, 0, none⟩ u0).setCell ⟨w.heap.size + 1 + 1, 1, none⟩ u1).ownsRow b t 1 u n xs := by
    intro b t n u xs ht hu
    have h2 := (fr_set W (w.heap.size + 1 + 1) 0 u0).owns hu (info_apart hu h.z ht)
    exact (fr_set _ (w.heap.size + 1 + 1) 1 u1).owns h2 (info_apart h2 (blk_set h.z u0) ht)
  exact ⟨A, c, rs, rfl, hl, ⟨Sl.of_own (keep (by decide) h.row), fun r hr => ok_of_own (keep (by decide) (h.own r hr))⟩, ⟨(Lo.of_own h.row).mono h.bnw, fun r hr => Lo.of_own (h.own r hr)⟩⟩
theorem next_bare {e : Int} {cs : List (List Int)} {t : List Int} {k : Nat} (hk : k < cs.length) (h0 : stayP t cs[k] = []) (hr : rightP e cs = true) (he : e ≠ 2147483647) : nextP e cs t = (0, [], 5) := by
  unfold nextP
  rw [if_neg (by rw [hr]; simpa using he), if_pos ⟨_, List.getElem_mem hk, h0⟩]
theorem next_start {w W1 : World} {e : Int} {cs : List (List Int)} {t : List Int} {o o2 : Obj}
    (hb : Below (((w.alloc o).alloc o2).alloc (.cells #[.int .i64 0, .slice none 0 0] 24)).heap.size (((w.alloc o).alloc o2).alloc (.cells #[.int .i64 0, .slice none 0 0] 24)) W1) :
    NextS w e W1.heap.size cs t 0 (.slice none 0 0) [] (W1.alloc (.cells #[.int .i64 (e + 1), .slice none 0 0] 24)) := by
  have o3 := Obj1.new ((w.alloc o).alloc o2) 24 #[.int .i64 0, .slice none 0 0]
  rw [World.size_alloc, World.size_alloc] at o3
  have hs := hb.size
  simp only [World.size_alloc] at hs
  exact ⟨Obj1.new W1 _ _, World.ownsRow_nil _ _ _ _, by simp, by simp, (o3.below hb (by simp only [World.size_alloc]; omega)).alloc _, ((((((Below.refl _ _).alloc (Nat.le_refl _) _).alloc (by simp only [World.size_alloc]; omega) _).alloc (by simp only [World.size_alloc]; omega) _).trans (hb.mono (by simp only [World.size_alloc]; omega))).alloc (by omega) _), by omega, by omega⟩

set_option maxRecDepth 100000 in
set_option maxHeartbeats 4000000 in
theorem next_ok (e : Int) (A : Option Addr) (c : Nat) (rs : List Ch) (B : Nat) (TA : Option Addr) (tc : Nat) (t : List Int) (w : World) (hm : Mem w B A rs) (hB : B ≤ w.heap.size) (ht : Sl w B TA (iv t)) (htl : t.length ≤ maxLen)
    (hr : rightP e (rs.map (·.l)) = true) (he : e ≠ 2147483647) :
    Calls Tryd.prog 13 #[.agg #[.int .i64 e, .slice A rs.length c], .slice TA t.length tc] w fun en w' =>
      NewPlan w.heap.size (nextP e (rs.map (·.l)) t).1 (nextP e (rs.map (·.l)) t).2.1 (nextP e (rs.map (·.l)) t).2.2 en w' ∧ Below w.heap.size w w' := by
  have HM := Lib.hid hm
  have HT := Lib.hid ht
  have HR := Lib.hid hr
  have hright := fun (W : World) (hb : Below B w W) (h : B ≤ W.heap.size) => right_any e A c rs B W (hm.below hb).sl (hm.below hb).ok h
  have HRT := Lib.hid hright
  clear hm ht hr hright
  obtain ⟨n, hN⟩ : ∃ n, rs.length = n := ⟨_, rfl⟩
  have HN := Lib.hid hN
  obtain ⟨tn, hTN⟩ : ∃ n, t.length = n := ⟨_, rfl⟩
  have HTN := Lib.hid hTN
  obtain ⟨ls, hls⟩ : ∃ ls, rs.map (·.l) = ls := ⟨_, rfl⟩
  have HLS := Lib.hid hls
  rw [hls] at HRT HR ⊢
  rw [HR.out, hN] at HRT
  rw [hN, hTN]
  rw [hTN] at htl
  clear hN hTN hls
  go_enter Tryd.func13, Tryd.ntmps13
  go_wp2_with fail
  refine (HRT.out _ ((((Below.refl _ _).alloc hB _).alloc (by simp only [World.size_alloc]; omega) _).alloc (by simp only [World.size_alloc]; omega) _) (by simp only [World.size_alloc]; omega)).mono ?_
  rintro en W1 ⟨rfl, hb1⟩
  have hbP := ((Blk.new w #[.int .i64 e, .slice A n c] 24).alloc (.cells #[.slice TA tn tc] 25)).alloc (.cells #[.int .i64 0, .slice none 0 0] 24)
  replace hbP := hbP.belowAll hb1
  have hp0 := hbP.cell 0
  have hp1 := hbP.cell 1
  have hbT := (Obj1.new (w.alloc (.cells #[.int .i64 e, .slice A n c] 24)) 25 #[.slice TA tn tc])
  rw [World.size_alloc] at hbT
  replace hbT := (hbT.alloc (.cells #[.int .i64 0, .slice none 0 0] 24)).below hb1 (by simp only [World.size_alloc]; omega)
  have hlt1 : w.heap.size < W1.heap.size := hbP.lt
  have hsz : w.heap.size + 1 + 1 < W1.heap.size := by have := hb1.size; simp at this; omega
  obtain ⟨e0, e1, -⟩ := (of_decide_eq_true HR.out : RightP e ls)
  have he2 : e + 1 ≤ 2147483647 := by omega
  have heb : (e == 2147483647) = false := by rw [beq_eq_false_iff_ne]; exact he
  have HBT := Lib.hid hbT
  have HST := Lib.hid (next_start (e := e) (cs := ls) (t := t) hb1)
  have HE := Lib.hid he
  clear hbP hbT hb1
  have hNE : ¬ (e = 2147483647) := HE.out
  go_wp2_with fail
  go_loopw [28] (fun s wr => ∃ (k : Nat) (v : Value) (us : List Ch), k ≤ n ∧ s = .int .i64 (k : Int) ∧ Hid (NextS w e W1.heap.size ls t k v us wr) ∧ Hid (∀ x ∈ ls.take k, stayP t x ≠ []) ∧ Hid (Below W1.heap.size W1 wr)) (fun s _ => n - (intOf s).toNat)
  case atStart => exact ⟨0, _, _, Nat.zero_le _, rfl, HST, Lib.hid (by simp), Lib.hid ((Below.refl _ _).alloc (Nat.le_refl _) _)⟩
  case round =>
    obtain ⟨k, v, us, hk, rfl, hS, hE, hBW⟩ := hrel
    obtain ⟨A0, c0, rfl⟩ := own_form hS.out.row
    by_cases hlt : k < n
    · have hi1 : (k : Int) < (n : Int) := by omega
      have hkr : k < rs.length := by rw [HN.out]; exact hlt
      have hkl : k < ls.length := by rw [← HLS.out, List.length_map, HN.out]; exact hlt
      obtain ⟨b1, o1, rfl, hb1, hc1⟩ := (HM.out.sl.below (hS.out.bel.mono hB)).at (k := k) (by simpa using hkr)
      rw [List.getElem_map] at hc1
      obtain ⟨hrow, -, -⟩ := HM.out.ok _ (List.getElem_mem hkr)
      have hrl : ls[k] = rs[k].l := by simp only [← HLS.out, List.getElem_map]
      obtain ⟨⟨A2, c2, l⟩, hr⟩ : ∃ r, rs[k] = r := ⟨_, rfl⟩
      rw [hr] at hc1 hrow hrl
      replace hc1 : wr.cell? ⟨b1, o1 + k, none⟩ = some (.slice A2 l.length c2) := hc1
      replace hrow : Sl w B A2 (iv l) := hrow
      replace hrl : ls[k] = l := hrl
      have hrp : RightP e ls := of_decide_eq_true HR.out
      have hl7 : l.length ≤ 7 := chain_len hrp (by rw [← hrl]; exact List.getElem_mem hkl)
      have hlne : l ≠ [] := hrp.2.2.2.2.1 _ (by rw [← hrl]; exact List.getElem_mem hkl)
      have hn7 : n ≤ 7 := by have h1 := hrp.2.2.2.1; rw [← HLS.out, List.length_map, HN.out] at h1; exact h1
      have HN7 := Lib.hid hn7
      have ht4 : ¬ ((7 : Int) < (n : Int)) := by omega
      obtain ⟨ab, ao, rfl⟩ : ∃ b o, A2 = some ⟨b, o, none⟩ := by
        rcases hrow with h | ⟨b, o, e, _⟩
        · exact absurd (by simpa [iv] using h) hlne
        · exact ⟨b, o, e⟩
      have HCL := Lib.hid (clone_ints ⟨ab, ao, none⟩ c2 B l wr (hrow.below (hS.out.bel.mono hB)) (by omega) (Nat.le_trans hB hS.out.bel.size))
      have HRL := Lib.hid hrl
      have HL7 := Lib.hid hl7
      have HLNE := Lib.hid hlne
      clear hr hrow hrl hrp hl7 hlne hn7
      go_wp2_with fail
      refine HCL.out.mono ?_
      rintro en2 W2 ⟨⟨A3, c3, rfl, hown3⟩, hb3⟩
      obtain ⟨g, rfl, hg3, hc3⟩ : ∃ g, A3 = some ⟨g, 0, none⟩ ∧ wr.heap.size ≤ g ∧ l.length ≤ c3 := by
        rcases hown3.2 with ⟨_, h0⟩ | ⟨g, cap, cur, e', hbg, _, hn, _⟩
        · exact absurd (List.eq_nil_of_length_eq_zero h0) HLNE.out
        · injection e' with e1 e2 e3
          exact ⟨g, e1, hbg, by rw [e3]; exact hn⟩
      have hbox2 : Obj1 W2 (w.heap.size + 1) 25 #[.slice TA tn tc] := (HBT.out.below hBW.out (by omega)).below hb3 (by have := hBW.out.size; omega)
      have hBW2 : Below B w W2 := (hS.out.bel.trans (hb3.mono hS.out.bel.size)).mono hB
      have hst2 := HT.out.below hBW2
      have hdf := dfunc_ints w.heap.size g c3 l 42 #[.pointer (some ⟨w.heap.size + 1, 0, none⟩)] (fun x => !decide (x ∈ t)) W2 (row_low hown3 hS.out.bel.size) (by have := HL7.out; omega) hc3 (fun _ _ => by kernel_rfl)
        (fun x W hW => by
          have hgb : B ≤ g := by have := hS.out.bel.size; omega
          have hw1 : w.heap.size + 1 < wr.heap.size := by have := hBW.out.size; omega
          have hbb : Below B W2 W := (Below.refl B W2).grown hW (by have := hb3.size; have := hS.out.bel.size; omega) (fun q e => by cases e; exact hgb)
          have hcell := (hbox2.grown hW (fun e => by injection e with e; omega)).blk.cell 0
          rw [← HTN.out] at hcell
          exact goes_any (w.heap.size + 1) TA tc t x B W hcell (hst2.below hbb) (by rw [HTN.out]; exact htl))
      rw [keep_stay] at hdf
      have HDF := Lib.hid hdf
      clear hdf hst2 hBW2 hbox2
      go_wp2_with fail
      refine HDF.out.mono ?_
      rintro en4 W3 ⟨rfl, hown4, hgrow4⟩
      have hb4 : Below wr.heap.size wr W3 := hb3.trans ((Below.refl _ W2).grown hgrow4 hb3.size (fun q e => by cases e; exact hg3))
      obtain ⟨m, hm⟩ : ∃ m, (stayP t l).length = m := ⟨_, rfl⟩
      have HOWN4 := Lib.hid hown4
      have HB4 := Lib.hid hb4
      have HM0 := Lib.hid hm
      rw [hm]
      clear hown4 hgrow4 hb3 hown3 hb4 hm
      by_cases hz : m = 0
      · subst hz
        have hzz := hS.out.z.below HB4.out hS.out.z.lt
        have hzb := hzz.blk
        have hz0 := hzb.cell 0
        have hz1 := hzb.cell 1
        have hzf := hzb.free
        have hzl := hzb.lt
        have HZZ := Lib.hid hzz
        clear hzz hzb
        go_wp2_with fail
        refine bodyPost_ret (v := .tuple #[.agg #[.int .i64 0, .slice none 0 0], .int .i64 5]) (results_row_tmp Tryd.results13 _ _ (w.heap.size + 1 + 1) 24 #[.int .i64 0, .slice none 0 0] (0, 0) _ _ rfl rfl (blk_set (blk_set HZZ.out _) _) Tryd.underlying24 rfl (by kernel_rfl)) rfl ?_
        rw [next_bare hkl (by rw [HRL.out]; exact List.eq_nil_of_length_eq_zero HM0.out) HR.out HE.out]
        exact ⟨NewPlan.nil _ 5 _, ((hS.out.bel.trans (HB4.out.mono hS.out.bel.size)).setCell (p := ⟨w.heap.size + 1 + 1, 0, none⟩) (by show _ ≤ w.heap.size + 1 + 1; omega) _).setCell (p := ⟨w.heap.size + 1 + 1, 1, none⟩) (by show _ ≤ w.heap.size + 1 + 1; omega) _⟩
      · have hzi : ¬ ((m : Int) = 0) := by omega
        have hbn := (hS.out.n.below HB4.out hS.out.n.lt).blk
        have hbn1 := hbn.cell 1
        have hbnf := hbn.free 1
        have hbnl := hbn.lt
        have HROW := Lib.hid (owns_below hS.out.row HB4.out)
        have hul : us.length = k := by
          have h1 := congrArg List.length hS.out.ls
          rw [List.length_map, List.length_map, List.length_take, Nat.min_eq_left (Nat.le_of_lt hkl)] at h1
          exact h1
        have H63 : Hid (us.length + 1 ≤ maxLen) := by have := HN7.out; show _ ≤ _; unfold maxLen; omega
        have HBY : Hid ((us.length + 1) * 24 ≤ 140737488355328) := by have := HN7.out; show _ ≤ _; omega
        have HSZ : Hid (W1.heap.size ≤ (W3.alloc (.cells #[.slice (some ⟨g, 0, none⟩) m c3] 25)).heap.size) := by have := hBW.out.size; have := HB4.out.size; show _ ≤ _; simp; omega
        clear hul hbn
        go_wp2_with (at_builtin; (obtain ⟨i0, hi, hz0, hz1, hz2⟩ := info_parts info_ints; refine wpList_append_own _ rfl _ _ 22 rfl W1.heap.size 25 i0 (.slice none 0 0) 1 24 Tryd.underlying22 hi hz0 hz1 hz2 rfl (by decide) (.slice A0 us.length c0) us.length (us.map Ch.val) rfl (HROW.out.alloc _) ⟨W3.heap.size, 0, none⟩ 1 1 [.slice (some ⟨g, 0, none⟩) m c3] rfl rfl (cell_one_new W3 _ _) (by simp [Value.oneCell']) H63.out HBY.out HSZ.out ?_; intro v' w2 hown5 hgrow5 hnil5; obtain ⟨A5, c5, rfl⟩ := own_form hown5; have HQ := hS.out.bn2 HB4.out hgrow5; have hq1 := HQ.1; have hq2 := HQ.2; have HG5 := Lib.hid hgrow5; have HO5 := Lib.hid hown5; clear hi hz0 hz1 hz2 i0 hgrow5 hown5 hnil5 HQ))
        have hn7 := HN7.out
        rw [← HM0.out] at HO5
        have HNX := Lib.hid (hS.out.step hkl HRL.out HB4.out HOWN4.out HG5.out HO5.out)
        go_roundw
        case rel => exact ⟨k + 1, _, _, by omega, by go_num, HNX, Lib.hid (by
          show ∀ _, _
          rw [List.take_succ_eq_append_getElem hkl]
          intro x hx
          rcases List.mem_append.1 hx with hx | hx
          · exact hE.out x hx
          · rw [List.mem_singleton.1 hx, HRL.out]
            intro e'
            rw [e'] at HM0
            exact hz HM0.out.symm), Lib.hid (by
          have hs := hBW.out.size
          exact ((hBW.out.trans (HB4.out.mono hs)).trans (((Below.refl _ W3).alloc (Nat.le_trans hs HB4.out.size) _).grown HG5.out (by have := HB4.out.size; simp; omega) (fun q hq => (own_lt hS.out.row hq).2))).setCell (p := ⟨W1.heap.size, 1, none⟩) (Nat.le_refl _) _)⟩
        case measure => simp [intOf]; omega
    · obtain rfl : k = n := by omega
      have hend : ¬ ((k : Int) < (k : Int)) := by omega
      have hzb := hS.out.z.blk
      have hz0 := hzb.cell 0
      have hz1 := hzb.cell 1
      have hzf := hzb.free
      have hzl := hzb.lt
      have hnb := hS.out.n.blk
      have hn0 := hnb.cell 0
      have hn1 := hnb.cell 1
      clear hzb hnb
      go_wp2_with fail
      refine bodyPost_ret (v := .tuple #[.agg #[.int .i64 (e + 1), .slice A0 us.length c0], .int .i64 0]) (results_row_tmp Tryd.results13 _ _ (w.heap.size + 1 + 1) 24 #[.int .i64 (e + 1), .slice A0 us.length c0] (0, 0) _ _ rfl rfl (blk_set (blk_set hS.out.z _) _) Tryd.underlying24 rfl (by kernel_rfl)) rfl ?_
      exact ⟨hS.out.done (by rw [← HLS.out, List.length_map, HN.out]; exact Nat.le_refl _) hE.out HR.out HE.out _ _, (hS.out.bel.setCell (p := ⟨w.heap.size + 1 + 1, 0, none⟩) (by show _ ≤ w.heap.size + 1 + 1; omega) _).setCell (p := ⟨w.heap.size + 1 + 1, 1, none⟩) (by show _ ≤ w.heap.size + 1 + 1; omega) _⟩
end Go.Proofs.YtohahhijbneheaaDoor
