/- slices.Clone at numbers; plan.Place. -/
import Derived.Test.YtohahhijbneheaaDoorPlanR
import Derived.Test.YtohahhijbneheaaDoorInts
import Derived.Deep.RegionLaw
namespace Go.Proofs.YtohahhijbneheaaDoor
open Go.RowKit
set_option linter.unusedVariables false

theorem iv_one (l : List Int) : ∀ u ∈ iv l, u.oneCell' = true := by
  intro u hu
  simp only [iv, List.mem_map] at hu
  obtain ⟨x, -, rfl⟩ := hu
  rfl
theorem iv_len (l : List Int) : (iv l).length = l.length := by simp [iv]
/-- A slice in new memory that holds these numbers. -/
def NewInts (base : Nat) (l : List Int) (e : Ending) (w' : World) : Prop :=
  ∃ A c, e = .returned (.slice A l.length c) ∧ w'.ownsRow base 3 1 (.slice A l.length c) l.length (iv l)
theorem Sl.newsI {w : World} {B : Nat} {ad : Addr} {l : List Int} (h : Sl w B (some ad) (iv l)) : ∀ j u, (iv l)[j]? = some u → w.cell? (ad.add j) = some u := by
  rcases h with h | ⟨b, o, e, -, hr⟩
  · intro j u hu; rw [h] at hu; simp at hu
  · injection e with e
    subst e
    intro j u hu
    have hadd : (⟨b, o, none⟩ : Addr).add j = ⟨b, o + j, none⟩ := by unfold Addr.add; split <;> simp_all
    rw [hadd]
    exact hr j u hu
theorem newInts_of {base : Nat} {l : List Int} {v : Value} {w : World} (h : w.ownsRow base 3 1 v (0 + l.length) ([] ++ iv l)) : NewInts base l (.returned v) w := by
  rw [Nat.zero_add, List.nil_append] at h
  obtain ⟨A, c, rfl⟩ := own_form h
  exact ⟨A, c, rfl, h⟩

set_option maxHeartbeats 1000000 in
theorem clone_ints (ad : Addr) (c B : Nat) (l : List Int) (w : World) (h : Sl w B (some ad) (iv l)) (hl : l.length ≤ 70368744177664 / 8) (hB : B ≤ w.heap.size) :
    Calls Tryd.prog 45 #[.slice (some ad) l.length c] w fun e w' => NewInts w.heap.size l e w' ∧ Below w.heap.size w w' := by
  have hm : l.length ≤ maxLen := by unfold maxLen; omega
  have hby : (0 + l.length) * 8 ≤ 140737488355328 := by omega
  have hm0 : 0 + l.length ≤ maxLen := by omega
  have HL := Lib.hid hl
  have HM := Lib.hid hm
  have HM0 := Lib.hid hm0
  have HBY := Lib.hid hby
  clear hl hm hby hm0
  have heq := fun (W : World) (n c : Nat) => Lib.run_eql_slice_nil (P := Tryd.prog) W 25 3 (some ad) n c 0 0 Tryd.underlying25
  go_enter Tryd.func45, Tryd.ntmps45
  go_wp2_with (at_builtin; obtain ⟨i0, hi, hz0, hz1, hz2⟩ := info_parts info_int; refine wpList_append_own _ rfl _ _ 25 rfl w.heap.size 3 i0 (.int .i64 0) 1 8 Tryd.underlying25 hi hz0 hz1 hz2 rfl (by decide) _ _ _ rfl (World.ownsRow_made w #[] 0 (Nat.le_refl _) (Nat.zero_le _) rfl) ad l.length c (iv l) rfl (by rw [iv_len, Nat.mul_one]) (h.alloc hB _).newsI (iv_one l) HM0.out HBY.out (by simp) ?_; intro v' w1 hown hgrow _; clear hi hz0 hz1 hz2 i0)
  go_ret
  refine ⟨newInts_of hown, ?_⟩
  exact ((Below.refl _ _).alloc (Nat.le_refl _) _).grown hgrow (by simp) (by intro k hk; simp [Value.ownBlock, Act.eval] at hk; omega)

theorem row_low {w : World} {b b' : Nat} {e : TypeId} {size n : Nat} {v : Value} {xs : List Value} (h : w.ownsRow b e size v n xs) (hb : b' ≤ b) : w.ownsRow b' e size v n xs := by
  refine ⟨h.1, ?_⟩
  rcases h.2 with h | ⟨g, cap, cur, h1, h2, h3⟩
  · exact .inl h
  · exact .inr ⟨g, cap, cur, h1, Nat.le_trans hb h2, h3⟩
/-- The units of an address. -/
def placeP (e : Int) (cs : List (List Int)) (at_ : Int) : List Int := if at_ < 0 ∨ rightP e cs = false then [] else cs.getD (at_.toNat % cs.length) []

set_option maxRecDepth 100000 in
set_option maxHeartbeats 4000000 in
theorem place_any (e : Int) (A : Option Addr) (c : Nat) (rs : List Ch) (B : Nat) (z : Int) (w : World) (hs : Sl w B A (rs.map Ch.val)) (hr : ∀ r ∈ rs, r.Ok w B) (hB : B ≤ w.heap.size) :
    Calls Tryd.prog 19 #[.agg #[.int .i64 e, .slice A rs.length c], .int .i64 z] w fun en w' => NewInts w.heap.size (placeP e (rs.map (·.l)) z) en w' ∧ Below w.heap.size w w' := by
  have HS := Lib.hid hs
  have HR := Lib.hid hr
  have hright := fun (W : World) (hb : Below B w W) (h : B ≤ W.heap.size) => right_any e A c rs B W (hs.below hb) (fun r hm => ⟨(hr r hm).1.below hb, (hr r hm).2⟩) h
  have HRT := Lib.hid hright
  clear hs hr hright
  by_cases t1 : z < 0
  · have hp : placeP e (rs.map (·.l)) z = [] := if_pos (.inl t1)
    rw [hp]
    go_enter Tryd.func19, Tryd.ntmps19
    go_wp2_with fail
    go_ret
    exact ⟨⟨none, 0, rfl, World.ownsRow_nil _ _ _ _⟩, (Below.refl _ _).alloc (Nat.le_refl _) _⟩
  obtain ⟨ls, hls⟩ : ∃ ls, rs.map (·.l) = ls := ⟨_, rfl⟩
  have HLS := Lib.hid hls
  rw [hls] at HRT ⊢
  clear hls
  by_cases t2 : rightP e ls = true
  · rw [t2] at HRT
    have hrp : RightP e ls := of_decide_eq_true t2
    have hcount : 1 ≤ rs.length ∧ rs.length ≤ 7 := by
      have h1 := hrp.2.2.1
      have h2 := hrp.2.2.2.1
      rw [← HLS.out, List.length_map] at h1 h2
      exact ⟨h1, h2⟩
    obtain ⟨q, rfl⟩ : ∃ q : Nat, z = (q : Int) := ⟨z.toNat, by omega⟩
    have hqr : q % rs.length < rs.length := Nat.mod_lt _ (by omega)
    have hp : placeP e ls q = rs[q % rs.length].l := by
      unfold placeP
      rw [if_neg (by rw [t2]; rintro (h | h); omega; cases h), ← HLS.out, List.length_map, Int.toNat_natCast]
      simp [List.getD_eq_getElem?_getD, hqr]
    rw [hp]
    obtain ⟨r, hr⟩ : ∃ r, rs[q % rs.length] = r := ⟨_, rfl⟩
    rw [hr]
    have HP := Lib.hid hr
    have hrok : r.Ok w B := by rw [← hr]; exact HR.out _ (List.getElem_mem hqr)
    have hl7 : r.l.length ≤ 7 := by
      have hm : r.l ∈ ls := by rw [← HLS.out, ← hr]; exact List.mem_map.2 ⟨_, List.getElem_mem hqr, rfl⟩
      exact chain_len hrp hm
    have hrne : r.l ≠ [] := hrp.2.2.2.2.1 _ (by rw [← HLS.out, ← hr]; exact List.mem_map.2 ⟨_, List.getElem_mem hqr, rfl⟩)
    obtain ⟨RA, rc, rl⟩ := r
    obtain ⟨hro, -, -⟩ := hrok
    replace hro : Sl w B RA (iv rl) := hro
    replace hl7 : rl.length ≤ 7 := hl7
    replace hrne : rl ≠ [] := hrne
    obtain ⟨ab, ao, rfl⟩ : ∃ b o, RA = some ⟨b, o, none⟩ := by
      rcases hro with h | ⟨b, o, e, _⟩
      · exact absurd (by simpa [iv] using h) hrne
      · exact ⟨b, o, e⟩
    obtain ⟨b1, o1, rfl, hb1r, hcr⟩ := HS.out.at (k := q % rs.length) (by simpa using hqr)
    rw [List.getElem_map, hr] at hcr
    replace hcr : w.cell? ⟨b1, o1 + q % rs.length, none⟩ = some (.slice (some ⟨ab, ao, none⟩) rl.length rc) := hcr
    have HRO := Lib.hid hro
    have HL7 := Lib.hid hl7
    obtain ⟨n, hN⟩ : ∃ n, rs.length = n := ⟨_, rfl⟩
    rw [hN] at hqr hcr hcount HRT ⊢
    have hqm : ((q : Int)) % ((n : Nat) : Int) = ((q % n : Nat) : Int) := rfl
    have hqm2 : ((q : Int)).tmod ((n : Nat) : Int) = ((q % n : Nat) : Int) := rfl
    clear hr hrp hp hro hl7 hrne HP hN
    go_enter Tryd.func19, Tryd.ntmps19
    go_wp2_with fail
    refine (HRT.out _ ((Below.refl _ _).alloc hB _) (by simp; omega)).mono ?_
    rintro en W1 ⟨rfl, hb1⟩
    have hbx := (Blk.new w _ _).belowAll hb1
    have hc1 := hbx.cell 1
    have hbw : Below w.heap.size w W1 := ((Below.refl _ _).alloc (Nat.le_refl _) _).trans (hb1.mono (by simp))
    have hcr1 := (hbw.cell (p := ⟨b1, o1 + q % n, none⟩) (by show b1 < w.heap.size; omega)).trans hcr
    have hi0 : ((q % n : Nat) : Int) < ((n : Nat) : Int) := by omega
    have hnz : ¬ (n = 0) := by omega
    have hge : 0 ≤ ((q % n : Nat) : Int) := by omega
    obtain ⟨qq, hqq⟩ : ∃ x, q % n = x := ⟨_, rfl⟩
    rw [hqq] at hqm hqm2 hcr1 hi0 hge
    clear hqq
    have HCL := Lib.hid (fun nf => clone_ints ⟨ab, ao, none⟩ rc B rl (W1.drewN nf) ((HRO.out.below (hbw.mono hB)).drewN nf) (by have := HL7.out; omega) (Nat.le_trans hB hbw.size))
    clear hcr hbx hb1
    go_wp2_with fail
    go_region_law
      (go_simp; go_at_call 45; refine (HCL.out _).mono ?_; rintro e2 W2 ⟨⟨A2, c2, rfl, hown⟩, hb2⟩)
    all_goals
      go_wp2
      go_ret
      exact ⟨⟨A2, c2, rfl, row_low hown (by simpa using hbw.size)⟩, (hbw.trans (bdrewN_refl _ W1 _)).trans (hb2.mono (by simpa using hbw.size))⟩
  · have t3 : rightP e ls = false := by simpa using t2
    rw [t3] at HRT
    have hp : placeP e ls z = [] := if_pos (.inr t3)
    rw [hp]
    go_enter Tryd.func19, Tryd.ntmps19
    go_wp2_with fail
    refine (HRT.out _ ((Below.refl _ _).alloc hB _) (by simp; omega)).mono ?_
    rintro en W1 ⟨rfl, hb1⟩
    go_wp2_with fail
    go_ret
    exact ⟨⟨none, 0, rfl, World.ownsRow_nil _ _ _ _⟩, ((Below.refl _ _).alloc (Nat.le_refl _) _).trans (hb1.mono (by simp))⟩
end Go.Proofs.YtohahhijbneheaaDoor
