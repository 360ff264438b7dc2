/- tidelineref08: Crash. -/
import Derived.Test.YtbmodlhnkbohhaaRdevD
import Derived.Test.YtbmodlhnkbohhaaRel
namespace Go.Proofs.Ytbmodlhnkbohhaa
open Go.RowKit
set_option linter.unusedVariables false

theorem rset_close {w : World} {n0 g R k x : Nat} {rs : List Rp} (H : RDev w n0 g R rs) (hk : k < rs.length) :
    RDev (((w.setCell ⟨R, k * 3, none⟩ (.int .i64 (x : Int))).setCell ⟨R, k * 3 + 1, none⟩ (.slice none 0 0)).setCell ⟨R, k * 3 + 2, none⟩ (.bool false)) n0 g R (rs.set k ⟨x, none, 0, [], false⟩) ∧
      RFr g R w (((w.setCell ⟨R, k * 3, none⟩ (.int .i64 (x : Int))).setCell ⟨R, k * 3 + 1, none⟩ (.slice none 0 0)).setCell ⟨R, k * 3 + 2, none⟩ (.bool false)) := by
  have f : Fr (fun k => k = R) w (((w.setCell ⟨R, k * 3, none⟩ (.int .i64 (x : Int))).setCell ⟨R, k * 3 + 1, none⟩ (.slice none 0 0)).setCell ⟨R, k * 3 + 2, none⟩ (.bool false)) :=
    Fr.setCell (M := fun k => k = R) (p := ⟨R, k * 3 + 2, none⟩) (Fr.setCell (M := fun k => k = R) (p := ⟨R, k * 3 + 1, none⟩) (Fr.setCell (M := fun k => k = R) (p := ⟨R, k * 3, none⟩) (Fr.refl _ w) (fun _ => rfl) _) (fun _ => rfl) _) (fun _ => rfl) _
  refine ⟨⟨H.ge, H.geR, H.ne, ?_, ?_, ?_, by rw [List.length_set]; exact H.rm⟩, f.mono (fun _ _ e => .inr e)⟩
  · rw [List.length_set]
    exact f.cells H.blk (fun e => H.ne e)
  · rw [blk_set (blk_set (blk_set H.row _) _) _, rcells_set]
    simp
  · intro p hp
    rcases List.mem_or_eq_of_mem_set hp with hp | rfl
    · exact f.owns (H.pgs p hp) (fun i hi e => owns_ne (H.pgs p hp) H.row (by decide) (by rw [hi, e]))
    · exact World.ownsRow_nil _ _ _ _

set_option maxRecDepth 100000 in
set_option maxHeartbeats 4000000 in
theorem rcrash_loop {w : World} {n0 g R lasts : Nat} {rs : List Rp} {ps : List Pg} (h : RDev w n0 g R rs) (hF : F2 lasts ps rs) (hla : lasts ≤ ps.length) (hw : ∀ j (hj : j < ps.length), lasts ≤ j → ps[j].is = 1)
    (A : Option Addr) (c B : Nat) (pk : List UInt8) (hpk : ∀ W, RFr g R w W → Sl W B A (bv pk)) (hl : pk.length ≤ 70368744177664) :
    Calls Try.prog 22 #[.pointer (some ⟨g, 0, none⟩), .slice A pk.length c] w fun e w' => e = .returned (.tuple #[]) ∧ ∃ rs', RDev w' n0 g R rs' ∧ rs'.length = rs.length ∧ F2 ps.length (stage pk lasts (ps.length - lasts) ps) rs' ∧ RFr g R w w' := by
  obtain ⟨n, hn⟩ : ∃ n, rs.length = n := ⟨_, rfl⟩
  have hrm := h.rm
  rw [hn] at hrm
  have H := Lib.hid h
  have HF := Lib.hid hF
  have HN := Lib.hid hn
  have HS : Hid (RDev w n0 g R rs ∧ rs.length = n ∧ F2 lasts (stage pk lasts (min 0 ps.length - lasts) ps) rs) := ⟨h, hn, by rw [Nat.zero_min, Nat.zero_sub, stage_zero]; exact hF⟩
  have HFr : Hid (RFr g R w w) := Fr.refl _ _
  have HPL : Hid (ps.length ≤ n) := by show _ ≤ _; rw [← hn]; exact hF.len
  clear h hF hn
  go_enter Try.func22, Try.ntmps22
  go_wp2_with fail
  go_loopw [4, 5] (fun s4 s wr => ∃ i : Nat, i ≤ n ∧ s = .int .i64 (i : Int) ∧ s4 = .int .i64 ((min i ps.length - lasts : Nat) : Int) ∧ ∃ rs', Hid (RDev wr n0 g R rs' ∧ rs'.length = n ∧ F2 lasts (stage pk lasts (min i ps.length - lasts) ps) rs') ∧ Hid (RFr g R w wr)) (fun _ s _ => n - (intOf s).toNat)
  case atStart => exact ⟨0, Nat.zero_le _, rfl, by simp, rs, HS, HFr⟩
  case round =>
    obtain ⟨i, hi, rfl, rfl, rs', hd, hf⟩ := hrel
    clear HS HFr
    have hc : wr.cell? ⟨g, 0, none⟩ = some (.slice (some ⟨R, 0, none⟩) n n) := by rw [(Blk.of_heap hd.out.1.blk).cell 0, hd.out.2.1]; rfl
    by_cases hlt : i < n
    · have hii : (i : Int) < (n : Int) := by omega
      have hir : i < rs'.length := by have := hd.out.2.1; omega
      have hcells := rcells_at rs' i rs'[i] (List.getElem?_eq_getElem hir)
      have hc1 := hd.out.1.cellAt hcells.1
      have hc3 := hd.out.1.cellAt hcells.2.2
      clear hcells
      have hkey : lasts ≤ i → i < ps.length → rs'[i].st = 1 ∧ rs'[i].la = false := by
        intro h1 h2
        have hm : min i ps.length - lasts = i - lasts := by omega
        have h3 := hd.out.2.2
        rw [hm] at h3
        have hsl : i < (stage pk lasts (i - lasts) ps).length := by rw [stage_len]; exact h2
        have hg : (stage pk lasts (i - lasts) ps)[i] = ps[i] := by
          have := stage_get pk lasts (i - lasts) ps (by omega)
          simpa [show lasts + (i - lasts) = i by omega] using this
        exact ⟨by rw [h3.at i hsl hir, hg, hw i h2 h1], by rw [h3.laAt i hsl hir]; simp; omega⟩
      have HKEY := Lib.hid hkey
      clear hkey
      by_cases hst : rs'[i].st = 0
      · have e1 : ((rs'[i].st : Int) == 0) = true := by simp [hst]
        have hmin : min (i + 1) ps.length - lasts = min i ps.length - lasts := by
          rcases Nat.lt_or_ge i ps.length with h2 | h2
          · rcases Nat.lt_or_ge i lasts with h1 | h1
            · omega
            · have := (HKEY.out h1 h2).1; omega
          · omega
        have HMIN := Lib.hid hmin
        clear hmin hst
        go_wp2_with fail
        go_roundw
        case rel => exact ⟨i + 1, by omega, by simp, by rw [HMIN.out], rs', Lib.hid (by rw [HMIN.out]; exact hd.out), hf⟩
        case measure => simp [intOf]; omega
      · have e1 : ((rs'[i].st : Int) == 0) = false := by rw [beq_eq_false_iff_ne]; omega
        cases hla2 : rs'[i].la
        · rw [hla2] at hc3
          have hiL : i < ps.length := by
            rcases Nat.lt_or_ge i ps.length with h2 | h2
            · exact h2
            · exact absurd (hd.out.2.2.beyond i (by rw [stage_len]; exact h2) hir) hst
          have hge : lasts ≤ i := by
            rcases Nat.lt_or_ge i lasts with h1 | h1
            · have h3 := hd.out.2.2.laAt i (by rw [stage_len]; exact hiL) hir
              rw [hla2, ← hd.out.2.2.at i (by rw [stage_len]; exact hiL) hir] at h3
              simp [h1] at h3
              exact absurd h3 hst
            · exact h1
          have hm : min i ps.length - lasts = i - lasts := by omega
          have hm2 : min (i + 1) ps.length - lasts = i - lasts + 1 := by omega
          rw [hm] at hd ⊢
          have hfr0 := (Blk.of_heap hd.out.1.row).free
          have hc2 := hd.out.1.cellAt (rcells_at rs' i rs'[i] (List.getElem?_eq_getElem hir)).2.1
          have HM2 := Lib.hid hm2
          obtain ⟨q, hq⟩ : ∃ q, i - lasts = q := ⟨_, rfl⟩
          rw [hq] at hd HM2 ⊢
          have hqi : lasts + q = i := by omega
          have hqb : q ≤ 200 := by omega
          clear hm hm2
          by_cases hp : pk = []
          · subst hp
            have hcl := rset_close (x := 0) hd.out.1 hir
            have hF2 := hd.out.2.2.set i (⟨0, none, 0, []⟩ : Pg) ⟨0, none, 0, [], false⟩ (by rw [stage_len]; exact hiL) hge rfl (fun e => by cases e) rfl
            have hsn := stage_next [] lasts q 0 ps (by omega) (by simp [pickAt]) (by decide)
            clear hst hla2 hq
            go_wp2_with fail
            go_roundw
            case rel => exact ⟨i + 1, by omega, by simp, by rw [HM2.out]; simp, _, Lib.hid ⟨hcl.1, by rw [List.length_set]; exact hd.out.2.1, by rw [HM2.out, hsn, hqi]; exact hF2⟩, Lib.hid (hf.out.trans hcl.2 (fun _ _ e => e))⟩
            case measure => simp [intOf]; omega
          · have hpl : 0 < pk.length := List.length_pos_iff.2 hp
            have hm : q % pk.length < pk.length := Nat.mod_lt _ hpl
            obtain ⟨b2, o2, rfl, hb2, hcp⟩ := (hpk wr hf.out).byte hm
            have hx : pickAt pk q = pk[q % pk.length].toNat % 3 := by
              unfold pickAt
              rw [if_neg hp]
              simp [List.getD, hm]
            have hpi : (0 : Int) < ((pk.length : Nat) : Int) := by omega
            have hcase : pk[q % pk.length].toNat % 3 = 0 ∨ pk[q % pk.length].toNat % 3 = 1 ∨ pk[q % pk.length].toNat % 3 = 2 := by omega
            rcases hcase with h3 | h3 | h3
            · have hpk3 : pickAt pk q = 0 := by rw [hx, h3]
              have b3 : (wrap64 (pk[q % pk.length].toNat : Int)).tmod 3 = 0 := by
                have hlt := pk[q % pk.length].toNat_lt
                rw [show wrap64 (pk[q % pk.length].toNat : Int) = (pk[q % pk.length].toNat : Int) by unfold wrap64; omega, Int.tmod_eq_emod_of_nonneg (by omega)]
                omega
              have hcl := rset_close (x := 0) hd.out.1 hir
              have hF2 := hd.out.2.2.set i (⟨0, none, 0, []⟩ : Pg) ⟨0, none, 0, [], false⟩ (by rw [stage_len]; exact hiL) hge rfl (fun e => by cases e) rfl
              have hsn := stage_next pk lasts q 0 ps (by omega) hpk3 (by decide)
              clear hst hla2 hq hx h3 hpk3
              go_wp2_with fail
              go_roundw
              case rel => exact ⟨i + 1, by omega, by simp, by rw [HM2.out]; simp, _, Lib.hid ⟨hcl.1, by rw [List.length_set]; exact hd.out.2.1, by rw [HM2.out, hsn, hqi]; exact hF2⟩, Lib.hid (hf.out.trans hcl.2 (fun _ _ e => e))⟩
              case measure => simp [intOf]; omega
            · have hpk3 : pickAt pk q = 1 := by rw [hx, h3]
              have b3 : (wrap64 (pk[q % pk.length].toNat : Int)).tmod 3 = 1 := by
                have hlt := pk[q % pk.length].toNat_lt
                rw [show wrap64 (pk[q % pk.length].toNat : Int) = (pk[q % pk.length].toNat : Int) by unfold wrap64; omega, Int.tmod_eq_emod_of_nonneg (by omega)]
                omega
              have hsn := stage_same pk lasts q ps (by omega) hpk3
              clear hst hla2 hq hx h3 hpk3
              go_wp2_with fail
              go_roundw
              case rel => exact ⟨i + 1, by omega, by simp, by rw [HM2.out]; simp, _, Lib.hid ⟨hd.out.1, hd.out.2.1, by rw [HM2.out, hsn]; exact hd.out.2.2⟩, hf⟩
              case measure => simp [intOf]; omega
            · have hpk3 : pickAt pk q = 2 := by rw [hx, h3]
              have b3 : (wrap64 (pk[q % pk.length].toNat : Int)).tmod 3 = 2 := by
                have hlt := pk[q % pk.length].toNat_lt
                rw [show wrap64 (pk[q % pk.length].toNat : Int) = (pk[q % pk.length].toNat : Int) by unfold wrap64; omega, Int.tmod_eq_emod_of_nonneg (by omega)]
                omega
              have hcl := rset_close (x := 2) hd.out.1 hir
              have hF2 := hd.out.2.2.set i (⟨2, none, 0, []⟩ : Pg) ⟨2, none, 0, [], false⟩ (by rw [stage_len]; exact hiL) hge rfl (fun e => by cases e) rfl
              have hsn := stage_next pk lasts q 2 ps (by omega) hpk3 (by decide)
              clear hst hla2 hq hx h3 hpk3
              go_wp2_with fail
              go_roundw
              case rel => exact ⟨i + 1, by omega, by simp, by rw [HM2.out]; simp, _, Lib.hid ⟨hcl.1, by rw [List.length_set]; exact hd.out.2.1, by rw [HM2.out, hsn, hqi]; exact hF2⟩, Lib.hid (hf.out.trans hcl.2 (fun _ _ e => e))⟩
              case measure => simp [intOf]; omega
        · rw [hla2] at hc3
          have hmin : min (i + 1) ps.length - lasts = min i ps.length - lasts := by
            rcases Nat.lt_or_ge i ps.length with h2 | h2
            · rcases Nat.lt_or_ge i lasts with h1 | h1
              · omega
              · have := (HKEY.out h1 h2).2; rw [hla2] at this; cases this
            · omega
          have HMIN := Lib.hid hmin
          clear hmin hst hla2
          go_wp2_with fail
          go_roundw
          case rel => exact ⟨i + 1, by omega, by simp, by rw [HMIN.out], rs', Lib.hid (by rw [HMIN.out]; exact hd.out), hf⟩
          case measure => simp [intOf]; omega
    · have hin : i = n := by omega
      subst hin
      go_wp2_with fail
      refine (rsync_any hd.out.1).mono ?_
      rintro e w2 ⟨rfl, hd2, hf2⟩
      go_wp2_with fail
      go_end0
      refine ⟨rfl, _, hd2, by rw [List.length_map, hd.out.2.1]; exact HN.out.symm, ?_, hf.out.trans hf2 (fun _ _ e => e)⟩
      have h3 := hd.out.2.2.sync
      rw [Nat.min_eq_right HPL.out, stage_len] at h3
      exact h3
end Go.Proofs.Ytbmodlhnkbohhaa
