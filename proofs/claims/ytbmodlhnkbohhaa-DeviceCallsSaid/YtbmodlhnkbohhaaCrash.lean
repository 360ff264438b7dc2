/- (*device.Device).Crash. -/
import Derived.Test.YtbmodlhnkbohhaaCrashP
import Derived.StillTailTactics
namespace Go.Proofs.Ytbmodlhnkbohhaa
open Go.RowKit
set_option linter.unusedVariables false

theorem crash_close {w wr : World} {n0 g room lasts R c0 N j : Nat} {S C : List Pg} (D : Dev wr n0 g (.slice (some ⟨R, 0, none⟩) N c0) room S lasts) (hS : S.length = N) (hj : j ≤ N) (hC : C = S.take j)
    (hf : Fr (Dev.M g (.slice (some ⟨R, 0, none⟩) N c0)) w wr) :
    Dev ((wr.setCell ⟨g, 1, none⟩ (.slice (some ⟨R, 0, none⟩) j c0)).setCell ⟨g, 2, none⟩ (.int .i64 (j : Int))) n0 g (.slice (some ⟨R, 0, none⟩) C.length c0) room C C.length ∧
      Fr (Dev.M g (.slice (some ⟨R, 0, none⟩) N c0)) w ((wr.setCell ⟨g, 1, none⟩ (.slice (some ⟨R, 0, none⟩) j c0)).setCell ⟨g, 2, none⟩ (.int .i64 (j : Int))) := by
  subst hS
  have hl : C.length = j := by rw [hC, List.length_take]; omega
  have f1 := fr_set wr g 1 (.slice (some ⟨R, 0, none⟩) j c0)
  have b1 := blk_set (i := 1) D.blk (.slice (some ⟨R, 0, none⟩) j c0)
  have f2 := fr_set (wr.setCell ⟨g, 1, none⟩ (.slice (some ⟨R, 0, none⟩) j c0)) g 2 (.int .i64 (j : Int))
  have b2 := blk_set (i := 2) b1 (.int .i64 (j : Int))
  have f12 := f1.trans f2 (fun _ _ e => e)
  have hrow := owns_cut D.row hj
  refine ⟨⟨D.ge, ?_, ?_, ?_, ?_, Nat.le_refl _, D.rm⟩, hf.trans f12 (fun i _ e => .inl e)⟩
  · rw [hl]; exact b2
  · rw [hl, hC, pcells_take]
    exact f12.owns hrow (info_apart hrow D.blk (by decide))
  · intro p hp
    rw [hC] at hp
    have hp' := D.pgs p (List.mem_of_mem_take hp)
    exact f12.owns hp' (info_apart hp' D.blk (by decide))
  · have := D.le; rw [hl]; omega

theorem stage_close {w wr : World} {n0 g room lasts R c0 N i x : Nat} {S : List Pg} (D : Dev wr n0 g (.slice (some ⟨R, 0, none⟩) N c0) room S lasts) (hS : S.length = N)
    (hf : Fr (Dev.M g (.slice (some ⟨R, 0, none⟩) N c0)) w wr) :
    Dev ((wr.setCell ⟨R, i * 2, none⟩ (.int .i64 (x : Int))).setCell ⟨R, i * 2 + 1, none⟩ (.slice none 0 0)) n0 g (.slice (some ⟨R, 0, none⟩) N c0) room (S.set i ⟨x, none, 0, []⟩) lasts ∧
      Fr (Dev.M g (.slice (some ⟨R, 0, none⟩) N c0)) w ((wr.setCell ⟨R, i * 2, none⟩ (.int .i64 (x : Int))).setCell ⟨R, i * 2 + 1, none⟩ (.slice none 0 0)) := by
  subst hS
  have f12 := (fr_set wr R (i * 2) (.int .i64 (x : Int))).trans (fr_set _ R (i * 2 + 1) (.slice none 0 0)) (fun _ _ e => e)
  have hne : ¬ g = R := fun e => owns_ne D.row D.blk (by decide) (by rw [e]; rfl)
  refine ⟨⟨D.ge, f12.cells D.blk hne, ?_, ?_, by rw [List.length_set]; exact D.le, by rw [List.length_set]; exact D.la, D.rm⟩, hf.trans f12 (fun i _ e => .inr (by rw [e]; rfl))⟩
  · rw [List.length_set, pcells_set]
    exact owns_set (owns_set D.row _) _
  · intro p hp
    rcases List.mem_or_eq_of_mem_set hp with hp | rfl
    · have := D.pgs p hp
      refine f12.owns this (fun k hk e => ?_)
      subst e
      exact owns_apart this D.row (by decide) k hk rfl
    · exact World.ownsRow_nil _ _ _ _

set_option maxRecDepth 100000 in
set_option maxHeartbeats 4000000 in
theorem crash_some {w : World} {n0 g room lasts R c0 : Nat} {ps : List Pg} (h : Dev w n0 g (.slice (some ⟨R, 0, none⟩) ps.length c0) room ps lasts) (A : Option Addr) (c B : Nat) (picks : List UInt8)
    (hpk : ∀ W, Fr (Dev.M g (.slice (some ⟨R, 0, none⟩) ps.length c0)) w W → Sl W B A (bv picks)) (hl : picks.length ≤ 70368744177664) :
    Calls Try.prog 14 #[.pointer (some ⟨g, 0, none⟩), .slice A picks.length c] w fun e w' => e = .returned (.tuple #[]) ∧
      Dev w' n0 g (.slice (some ⟨R, 0, none⟩) (crashPs picks lasts ps).length c0) room (crashPs picks lasts ps) (crashPs picks lasts ps).length ∧ Fr (Dev.M g (.slice (some ⟨R, 0, none⟩) ps.length c0)) w w' := by
  have H := Lib.hid h
  have hc := h.bk.cell
  have hla := h.la
  have hrm := h.rm
  have hle := h.le
  have HL := Lib.hid hl
  have HP := Lib.hid hpk
  clear h hl hpk
  go_enter Try.func14, Try.ntmps14
  go_wp2_with fail
  go_quiet (fail)
  generalize (if c0 = lasts then (some ⟨R, 0, none⟩ : Option Addr) else some ⟨R, lasts * 2, none⟩) = Ax
  go_wp2_with fail
  have HS : Hid (Dev (w.drewN nq) n0 g (.slice (some ⟨R, 0, none⟩) ps.length c0) room (stage picks lasts 0 ps) lasts) := by rw [stage_zero]; exact H.out.below (bdrewN_refl _ _ nq)
  clear hc
  go_loopw [4, 5, 17] (fun s4 s5 s17 wr => ∃ k, k ≤ ps.length - lasts ∧ s17 = .int .i64 (k : Nat) ∧ Hid (Dev wr n0 g (.slice (some ⟨R, 0, none⟩) ps.length c0) room (stage picks lasts k ps) lasts) ∧ Hid (Fr (Dev.M g (.slice (some ⟨R, 0, none⟩) ps.length c0)) w wr))
    (fun _ _ s17 _ => ps.length - lasts - (intOf s17).toNat)
  case atStart => exact ⟨0, Nat.zero_le _, rfl, HS, (Fr.refl _ _).drewN nq⟩
  case round =>
    obtain ⟨k, hk, rfl, hd, hf⟩ := hrel
    clear HS
    by_cases hlt : k < ps.length - lasts
    · have hkl : lasts + k < ps.length := by omega
      have hSl : Hid ((stage picks lasts k ps).length = ps.length) := stage_len _ _ _ _
      have hrow : Hid (wr.ownsRow n0 77 2 (.slice (some ⟨R, 0, none⟩) ps.length c0) ps.length (pcells (stage picks lasts k ps))) := by
        have := hd.out.row; rw [hSl.out] at this; exact this
      have hget := pcells_get (stage picks lasts k ps) (lasts + k) (by rw [stage_len]; exact hkl)
      have hc1 := owns_cell hrow.out hget.1
      have hc2 := owns_cell hrow.out hget.2
      obtain ⟨hc1, hf1⟩ := hc1
      obtain ⟨hc2, hf2⟩ := hc2
      clear hget
      have hc := hd.out.bk.cell
      by_cases hp : picks = []
      · subst hp
        go_wp2_with fail
        have e2 : (0 : Int) ≤ (lasts : Int) + (k : Int) := by omega
        have e3 : (lasts : Int) + (k : Int) < (ps.length : Int) := by omega
        have e4 : ((lasts : Int) + (k : Int)).toNat = lasts + k := by omega
        have e1 : IntKind.i64.wrap ((lasts : Int) + (k : Int)) = (lasts : Int) + (k : Int) := IntWalk.i64_in _ (by omega)
        go_still_tail 12, (by kernel_rfl)
        clear e1 e2 e3 e4
        go_wp2_with fail
        go_roundw
        case measure => simp [intOf]; omega
        case rel =>
          (repeat apply Exists.intro)
          refine ⟨?_, rfl⟩
          have hz := stage_close (i := lasts + k) (x := 0) hd.out hSl.out hf.out
          rw [← stage_next [] lasts k 0 ps hkl (by simp [pickAt]) (by decide)] at hz
          exact ⟨k + 1, by omega, by go_num, hz.1.below (Below.refl _ _).drew, hz.2.drew⟩
      · have hpos : 0 < picks.length := List.length_pos_iff.2 hp
        have hm : k % picks.length < picks.length := Nat.mod_lt _ hpos
        obtain ⟨bp, op, rfl, hbp, hcp⟩ := (HP.out wr hf.out).byte hm
        have hpos' : (0 : Int) < (picks.length : Int) := by omega
        have hx : pickAt picks k = picks[k % picks.length].toNat % 3 := by
          unfold pickAt
          rw [if_neg hp]
          simp [List.getD, hm]
        have hcase : picks[k % picks.length].toNat % 3 = 0 ∨ picks[k % picks.length].toNat % 3 = 1 ∨ picks[k % picks.length].toNat % 3 = 2 := by omega
        rcases hcase with h3 | h3 | h3
        · have HX : Hid (pickAt picks k = 0) := by show _ = _; rw [hx, h3]
          have b0 : ((picks[k % picks.length].toNat : Int) % 3 == 0) = true := by rw [beq_iff_eq]; omega
          clear hx h3 hp
          go_wp2_with fail
          have e2 : (0 : Int) ≤ (lasts : Int) + (k : Int) := by omega
          have e3 : (lasts : Int) + (k : Int) < (ps.length : Int) := by omega
          have e4 : ((lasts : Int) + (k : Int)).toNat = lasts + k := by omega
          have e1 : IntKind.i64.wrap ((lasts : Int) + (k : Int)) = (lasts : Int) + (k : Int) := IntWalk.i64_in _ (by omega)
          go_still_tail 12, (by kernel_rfl)
          clear e1 e2 e3 e4
          go_wp2_with fail
          go_roundw
          case measure => simp [intOf]; omega
          case rel =>
            have hz := stage_close (i := lasts + k) (x := 0) hd.out hSl.out hf.out
            rw [← stage_next picks lasts k 0 ps hkl HX.out (by decide)] at hz
            exact ⟨k + 1, by omega, by go_num, hz.1.below (Below.refl _ _).drew, hz.2.drew⟩
        · have HX : Hid (pickAt picks k = 1) := by show _ = _; rw [hx, h3]
          have b0 : ((picks[k % picks.length].toNat : Int) % 3 == 0) = false := by rw [beq_eq_false_iff_ne]; omega
          have b2 : ((picks[k % picks.length].toNat : Int) % 3 == 2) = false := by rw [beq_eq_false_iff_ne]; omega
          clear hx h3 hp
          go_wp2_with fail
          go_roundw
          case measure => simp [intOf]; omega
          case rel => exact ⟨k + 1, by omega, by go_num, by rw [stage_same picks lasts k ps hkl HX.out]; exact hd, hf⟩
        · have HX : Hid (pickAt picks k = 2) := by show _ = _; rw [hx, h3]
          have b0 : ((picks[k % picks.length].toNat : Int) % 3 == 0) = false := by rw [beq_eq_false_iff_ne]; omega
          have b2 : ((picks[k % picks.length].toNat : Int) % 3 == 2) = true := by rw [beq_iff_eq]; omega
          clear hx h3 hp
          go_wp2_with fail
          have e2 : (0 : Int) ≤ (lasts : Int) + (k : Int) := by omega
          have e3 : (lasts : Int) + (k : Int) < (ps.length : Int) := by omega
          have e4 : ((lasts : Int) + (k : Int)).toNat = lasts + k := by omega
          have e1 : IntKind.i64.wrap ((lasts : Int) + (k : Int)) = (lasts : Int) + (k : Int) := IntWalk.i64_in _ (by omega)
          go_still_tail 12, (by kernel_rfl)
          clear e1 e2 e3 e4
          go_wp2_with fail
          go_roundw
          case measure => simp [intOf]; omega
          case rel =>
            have hz := stage_close (i := lasts + k) (x := 2) hd.out hSl.out hf.out
            rw [← stage_next picks lasts k 2 ps hkl HX.out (by decide)] at hz
            exact ⟨k + 1, by omega, by go_num, hz.1.below (Below.refl _ _).drew, hz.2.drew⟩
    · have hk2 : k = ps.length - lasts := by omega
      subst hk2
      obtain ⟨S, hS⟩ : ∃ S, stage picks lasts (ps.length - lasts) ps = S := ⟨_, rfl⟩
      have hSl : Hid (S.length = ps.length) := by show _ = _; rw [← hS, stage_len]
      have hcr : Hid (crashPs picks lasts ps = S.take (trimPs ps.length S)) := by show _ = _; unfold crashPs; rw [hS]; dsimp only; rw [hSl.out]
      rw [hS] at hd
      clear hS
      have hc := hd.out.bk.cell
      go_wp2_with fail
      go_loop [6] (fun s6 => ∃ j : Nat, j ≤ ps.length ∧ s6 = .int .i64 (j : Nat) ∧ Hid (trimPs ps.length S = trimPs j S)) (fun s6 => (intOf s6).toNat)
      case atStart => exact ⟨_, Nat.le_refl _, rfl, rfl⟩
      case round =>
        obtain ⟨j, hj, rfl, ht⟩ := hrel
        have hrow : Hid (wr.ownsRow n0 77 2 (.slice (some ⟨R, 0, none⟩) ps.length c0) ps.length (pcells S)) := by
          have := hd.out.row; rw [hSl.out] at this; exact this
        have hcap : ps.length ≤ c0 := (owns_cap hrow.out).1
        have hfree := hd.out.bk.free
        cases j with
        | zero =>
          go_wp2_with fail
          refine (sync_blk (n := 0) (Blk.of_heap (blk_set (i := 1) hd.out.blk (.slice (some ⟨R, 0, none⟩) 0 c0)))).mono ?_
          rintro e w' ⟨rfl, rfl⟩
          go_wp2
          go_end0
          exact ⟨rfl, crash_close hd.out hSl.out (Nat.zero_le _) (by rw [hcr.out, ht.out]; rfl) hf.out⟩
        | succ j =>
          have hjS : j < S.length := by rw [hSl.out]; omega
          have hcell := (owns_cell hrow.out (pcells_get S j hjS).1).1
          by_cases h0 : S[j].is = 0
          · have hz : ((S[j].is : Int) == 0) = true := by simp [h0]
            have ht2 : Hid (trimPs ps.length S = trimPs j S) := by show _ = _; rw [ht.out, trimPs_step j S hjS, if_pos h0]
            clear ht h0
            go_wp2_with fail
            go_round
            case rel => exact ⟨j, by omega, by go_num, ht2⟩
            case measure => simp [intOf]
          · have hz : ((S[j].is : Int) == 0) = false := by simp [h0]
            have ht2 : Hid (trimPs ps.length S = j + 1) := by show _ = _; rw [ht.out, trimPs_step j S hjS, if_neg h0]
            clear ht h0
            go_wp2_with fail
            refine (sync_blk (n := j + 1) (Blk.of_heap (blk_set (i := 1) hd.out.blk (.slice (some ⟨R, 0, none⟩) (j + 1) c0)))).mono ?_
            rintro e w' ⟨rfl, rfl⟩
            go_wp2
            go_end0
            exact ⟨rfl, crash_close hd.out hSl.out hj (by rw [hcr.out, ht2.out]) hf.out⟩
end Go.Proofs.Ytbmodlhnkbohhaa
