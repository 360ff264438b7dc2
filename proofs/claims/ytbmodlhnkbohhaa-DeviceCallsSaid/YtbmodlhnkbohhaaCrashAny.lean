/- (*device.Device).Crash, of pages that have a row, or none. -/
import Derived.Test.YtbmodlhnkbohhaaCrash
namespace Go.Proofs.Ytbmodlhnkbohhaa
open Go.RowKit
set_option linter.unusedVariables false

set_option maxRecDepth 100000 in
set_option maxHeartbeats 4000000 in
theorem crash_nil {w : World} {n0 g room : Nat} (h : Dev w n0 g (.slice none 0 0) room [] 0) (A : Option Addr) (c : Nat) (picks : List UInt8) :
    Calls Try.prog 14 #[.pointer (some ⟨g, 0, none⟩), .slice A picks.length c] w fun e w' => e = .returned (.tuple #[]) ∧
      Dev w' n0 g (.slice none 0 0) room [] 0 ∧ Fr (Dev.M g (.slice none 0 0)) w w' := by
  have H := Lib.hid h
  have hc := h.bk.cell
  have hf := h.bk.free
  clear h
  go_enter Try.func14, Try.ntmps14
  go_wp2_with fail
  go_quiet (fail)
  go_wp2_with fail
  refine wp_loop_once ?_
  go_wp2_with fail
  refine wp_loop_once ?_
  go_wp2_with fail
  have b1 := blk_set (i := 1) (H.out.below (bdrewN_refl _ _ nq)).blk (.slice none 0 0)
  refine (sync_blk (n := 0) (Blk.of_heap b1)).mono ?_
  rintro e w' ⟨rfl, rfl⟩
  go_wp2
  go_end0
  have b2 := blk_set (i := 2) b1 (.int .i64 ((0 : Nat) : Int))
  exact ⟨rfl, ⟨H.out.ge, b2, World.ownsRow_nil _ _ _ _, by simp, Nat.zero_le _, Nat.le_refl _, H.out.rm⟩,
    (((Fr.refl _ w).drewN nq).trans ((fr_set _ g 1 _).trans (fr_set _ g 2 _) (fun _ _ e => e)) (fun i _ e => .inl e))⟩

/-- **Crash: what doesn't last is as it is picked.** -/
theorem crash_any {w : World} {n0 g room lasts : Nat} {v : Value} {ps : List Pg} (h : Dev w n0 g v room ps lasts) (A : Option Addr) (c B : Nat) (picks : List UInt8)
    (hpk : ∀ W, Fr (Dev.M g v) w W → Sl W B A (bv picks)) (hl : picks.length ≤ 70368744177664) :
    Calls Try.prog 14 #[.pointer (some ⟨g, 0, none⟩), .slice A picks.length c] w fun e w' => e = .returned (.tuple #[]) ∧
      ∃ v', Dev w' n0 g v' room (crashPs picks lasts ps) (crashPs picks lasts ps).length ∧ Fr (Dev.M g v) w w' ∧ v'.ownBlock = v.ownBlock := by
  rcases h.row.2 with ⟨rfl, h0⟩ | ⟨R, cap, cur, rfl, -⟩
  · have hps : ps = [] := List.eq_nil_of_length_eq_zero h0
    subst hps
    have hla : lasts = 0 := by have := h.la; simpa using this
    subst hla
    refine (crash_nil h A c picks).mono ?_
    rintro e w' ⟨he, hd, hf⟩
    exact ⟨he, _, hd, hf, rfl⟩
  · refine (crash_some h A c B picks hpk hl).mono ?_
    rintro e w' ⟨he, hd, hf⟩
    exact ⟨he, _, hd, hf, rfl⟩
end Go.Proofs.Ytbmodlhnkbohhaa
