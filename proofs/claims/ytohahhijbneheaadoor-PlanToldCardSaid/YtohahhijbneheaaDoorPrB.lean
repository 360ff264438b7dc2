/- tidelineref11.Place. -/
import Derived.Test.YtohahhijbneheaaDoorPrA
import Derived.Test.YtohahhijbneheaaDoorPlanC
namespace Go.Proofs.YtohahhijbneheaaDoor
open Go.RowKit
set_option linter.unusedVariables false

/-- A slice that reads as these numbers. -/
def ReadsInts (l : List Int) (en : Ending) (w' : World) : Prop := ∃ A c, en = .returned (.slice A l.length c) ∧ Sl w' w'.heap.size A (iv l)

set_option maxRecDepth 100000 in
set_option maxHeartbeats 4000000 in
theorem rplace_any (e : Int) (A : Option Addr) (c : Nat) (rs : List Ch) (B : Nat) (z : Int) (w : World) (hs : Sl w B A (rs.map Ch.val)) (hr : ∀ r ∈ rs, r.Ok w B) (hB : B ≤ w.heap.size) :
    Calls Tryd.prog 20 #[.agg #[.int .i64 e, .slice A rs.length c], .int .i64 z] w fun en w' => ReadsInts (placeP e (rs.map (·.l)) z) en w' ∧ Below w.heap.size w w' := by
  have HS := Lib.hid hs
  have HR := Lib.hid hr
  have hright := fun (W : World) (hb : Below B w W) (h : B ≤ W.heap.size) => rright_any e A c rs B W (hs.below hb) (fun r hm => ⟨(hr r hm).1.below hb, (hr r hm).2⟩) h
  have HRT := Lib.hid hright
  clear hs hr hright
  obtain ⟨ls, hls⟩ : ∃ ls, rs.map (·.l) = ls := ⟨_, rfl⟩
  have HLS := Lib.hid hls
  rw [hls] at HRT ⊢
  clear hls
  by_cases t2 : rightP e ls = true
  · rw [t2] at HRT
    by_cases t1 : z < 0
    · have hp : placeP e ls z = [] := if_pos (.inl t1)
      rw [hp]
      go_enter Tryd.func20, Tryd.ntmps20
      go_wp2_with fail
      refine (HRT.out _ ((Below.refl _ _).alloc hB _) (by simp; omega)).mono ?_
      rintro en W1 ⟨rfl, hb1⟩
      go_wp2_with fail
      go_ret
      have hbw : Below w.heap.size w W1 := ((Below.refl _ _).alloc (Nat.le_refl _) _).trans (hb1.mono (by simp))
      exact ⟨⟨_, _, rfl, .inl rfl⟩, hbw.alloc hbw.size _⟩
    have hrp : RightP e ls := of_decide_eq_true t2
    have hcount : 1 ≤ rs.length ∧ rs.length ≤ 7 := by
      have h1 := hrp.2.2.1
      have h2 := hrp.2.2.2.1
      rw [← HLS.out, List.length_map] at h1 h2
      exact ⟨h1, h2⟩
    obtain ⟨q, rfl⟩ : ∃ q : Nat, z = (q : Int) := ⟨z.toNat, by omega⟩
    have hqr : q % rs.length < rs.length := Nat.mod_lt _ (by omega)
    have hp : placeP e ls q = rs[q % rs.length].l := by
      unfold placeP
      rw [if_neg (by rw [t2]; rintro (h | h); omega; cases h), ← HLS.out, List.length_map, Int.toNat_natCast]
      simp [List.getD_eq_getElem?_getD, hqr]
    rw [hp]
    obtain ⟨r, hr⟩ : ∃ r, rs[q % rs.length] = r := ⟨_, rfl⟩
    rw [hr]
    have hrok : r.Ok w B := by rw [← hr]; exact HR.out _ (List.getElem_mem hqr)
    obtain ⟨RA, rc, rl⟩ := r
    obtain ⟨hro, -, -⟩ := hrok
    replace hro : Sl w B RA (iv rl) := hro
    obtain ⟨b1, o1, rfl, hb1r, hcr⟩ := HS.out.at (k := q % rs.length) (by simpa using hqr)
    rw [List.getElem_map, hr] at hcr
    replace hcr : w.cell? ⟨b1, o1 + q % rs.length, none⟩ = some (.slice RA rl.length rc) := hcr
    have HRO := Lib.hid hro
    obtain ⟨n, hN⟩ : ∃ n, rs.length = n := ⟨_, rfl⟩
    rw [hN] at hqr hcr hcount HRT ⊢
    have hqm : ((q : Int)) % ((n : Nat) : Int) = ((q % n : Nat) : Int) := rfl
    have hqm2 : ((q : Int)).tmod ((n : Nat) : Int) = ((q % n : Nat) : Int) := rfl
    clear hr hrp hp hro hN
    go_enter Tryd.func20, Tryd.ntmps20
    go_wp2_with fail
    refine (HRT.out _ ((Below.refl _ _).alloc hB _) (by simp; omega)).mono ?_
    rintro en W1 ⟨rfl, hb1⟩
    have hbx := (Blk.new w _ _).belowAll hb1
    have hc1 := hbx.cell 1
    have hbw : Below w.heap.size w W1 := ((Below.refl _ _).alloc (Nat.le_refl _) _).trans (hb1.mono (by simp))
    have hcr1 := (hbw.cell (p := ⟨b1, o1 + q % n, none⟩) (by show b1 < w.heap.size; omega)).trans hcr
    have hi0 : ((q % n : Nat) : Int) < ((n : Nat) : Int) := by omega
    have hnz : ¬ (n = 0) := by omega
    have hge : 0 ≤ ((q % n : Nat) : Int) := by omega
    obtain ⟨qq, hqq⟩ : ∃ x, q % n = x := ⟨_, rfl⟩
    rw [hqq] at hqm hqm2 hcr1 hi0 hge
    clear hqq hcr hbx hb1
    go_wp2_with fail
    go_quiet (fail)
    go_wp2
    go_ret
    exact ⟨⟨_, _, rfl, ((HRO.out.below (hbw.mono hB)).more (Nat.le_trans hB hbw.size))⟩, hbw.trans (bdrewN_refl _ W1 _)⟩
  · have t3 : rightP e ls = false := by simpa using t2
    rw [t3] at HRT
    have hp : placeP e ls z = [] := if_pos (.inr t3)
    rw [hp]
    go_enter Tryd.func20, Tryd.ntmps20
    go_wp2_with fail
    refine (HRT.out _ ((Below.refl _ _).alloc hB _) (by simp; omega)).mono ?_
    rintro en W1 ⟨rfl, hb1⟩
    go_wp2_with fail
    go_ret
    have hbw : Below w.heap.size w W1 := ((Below.refl _ _).alloc (Nat.le_refl _) _).trans (hb1.mono (by simp))
    exact ⟨⟨_, _, rfl, .inl rfl⟩, hbw.alloc hbw.size _⟩
end Go.Proofs.YtohahhijbneheaaDoor
