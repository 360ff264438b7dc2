/- tidelineref07.Same. -/
import Derived.Test.YtpmanpckkpheeaaDoorLogM
import Derived.Test.YtpmanpckkpheeaaDoorSame
import Derived.Outline
namespace Go.Proofs.YtpmanpckkpheeaaDoor
open Go.RowKit
set_option linter.unusedVariables false

def Lg.eqb (x y : Lg) : Bool := decide (x.k = y.k ∧ (x.cl = y.cl ∧ x.bi = y.bi ∧ x.nu = y.nu) ∧ x.st = y.st ∧ x.ba = y.ba ∧ x.pl = y.pl)
theorem Lg.eqb_iff (x y : Lg) : x.eqb y = true ↔ x = y := by
  unfold Lg.eqb
  rw [decide_eq_true_iff]
  constructor
  · rintro ⟨h1, ⟨h2, h3, h4⟩, h5, h6, h7⟩
    cases x; cases y
    simp_all
  · rintro rfl
    simp

set_option maxRecDepth 100000 in
set_option maxHeartbeats 4000000 in
theorem lsame_any (x y : Lg) (A1 A2 : Option Addr) (c1 c2 B : Nat) (w : World) (h1 : Sl w B A1 (bv x.pl)) (h2 : Sl w B A2 (bv y.pl)) (k1 : x.pl.length ≤ maxLen) (k2 : y.pl.length ≤ maxLen) (hB : B ≤ w.heap.size) :
    Calls Tryd.prog 30 #[x.val A1 c1, y.val A2 c2] w fun e w' => e = .returned (.bool (x.eqb y)) ∧ Below w.heap.size w w' := by
  obtain ⟨r, hr⟩ : ∃ r, x.eqb y = r := ⟨_, rfl⟩
  rw [hr]
  have HR := Lib.hid hr
  clear hr
  obtain ⟨a1, a2, a3, a4, a5, a6, a7⟩ := x
  obtain ⟨b1, b2, b3, b4, b5, b6, b7⟩ := y
  have hsm : ∀ o1 o2 : Obj, Calls Tryd.prog 24 #[.slice A1 a7.length c1, .slice A2 b7.length c2] ((w.alloc o1).alloc o2) fun e w' => e = .returned (.bool (decide (a7 = b7))) ∧ ∃ n, w' = ((w.alloc o1).alloc o2).drewN n := fun o1 o2 =>
    same_any A1 A2 c1 c2 B a7 b7 ((w.alloc o1).alloc o2) ((h1.alloc hB o1).alloc (by simp; omega) o2) ((h2.alloc hB o1).alloc (by simp; omega) o2) k1 k2
  have HSM := Lib.hid hsm
  clear hsm h1 h2 k1 k2
  go_enter Tryd.func30, Tryd.ntmps30
  go_wp2_with fail
  rotate_left
  all_goals first
    | (go_ret
       refine ⟨ret_bool ?_, ((Below.refl _ _).alloc (Nat.le_refl _) _).alloc (by simp) _⟩
       rw [← HR.out]
       unfold Lg.eqb
       refine (decide_eq_false ?_).symm
       simp_all
       done)
    | (refine (HSM.out _ _).mono ?_
       rintro e w' ⟨rfl, n, rfl⟩
       go_wp2
       go_ret
       refine ⟨ret_bool ?_, bdrewN (((Below.refl _ _).alloc (Nat.le_refl _) _).alloc (by simp) _) n⟩
       rw [← HR.out]
       unfold Lg.eqb
       rw [decide_eq_decide]
       simp_all
       done)
end Go.Proofs.YtpmanpckkpheeaaDoor
