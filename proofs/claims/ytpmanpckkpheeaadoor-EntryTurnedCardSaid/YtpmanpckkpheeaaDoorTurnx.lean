/- One byte of an own row turned: words. -/
import Derived.Test.YtpmanpckkpheeaaDoorWr
import Derived.Laws.BitsAllLaws
namespace Go.Proofs.YtpmanpckkpheeaaDoor
open Go.RowKit
set_option linter.unusedVariables false

theorem bits_lowx (z : Int) : ∃ r : Nat, bits BinOp.and IntKind.i64 z 65535 = (r : Int) ∧ r < 65536 := by
  refine ⟨(BitVec.ofInt 64 z &&& BitVec.ofInt 64 65535).toNat, ?_, ?_⟩
  · show IntKind.i64.wrap ((BitVec.ofInt 64 z &&& BitVec.ofInt 64 65535).toNat : Int) = _
    have h : (BitVec.ofInt 64 z &&& BitVec.ofInt 64 65535).toNat < 65536 := by
      rw [BitVec.toNat_and, show (BitVec.ofInt 64 65535).toNat = 2 ^ 16 - 1 from rfl, Nat.and_two_pow_sub_one_eq_mod]
      omega
    rw [IntKind.wrap_i64]
    omega
  · rw [BitVec.toNat_and, show (BitVec.ofInt 64 65535).toNat = 2 ^ 16 - 1 from rfl, Nat.and_two_pow_sub_one_eq_mod]
    omega
theorem owns_setx {w : World} {base g n cap i : Nat} {e : TypeId} {xs : List Value} (h : w.ownsRow base e 1 (.slice (some ⟨g, 0, none⟩) n cap) n xs) (u : Value) :
    (w.setCell ⟨g, i, none⟩ u).ownsRow base e 1 (.slice (some ⟨g, 0, none⟩) n cap) n (xs.set i u) := by
  refine ⟨by rw [List.length_set]; exact h.1, ?_⟩
  rcases h.2 with ⟨h0, _⟩ | ⟨g', cap', cur, e1, hb, hh, hn, hc, hs, ht⟩
  · cases h0
  · injection e1 with e1 e2 e3
    injection e1 with e1
    injection e1 with e1
    subst e1; subst e3
    refine .inr ⟨g, cap, cur.setIfInBounds i u, rfl, hb, cell_set hh u, hn, hc, by simpa using hs, ?_⟩
    rw [← ht, Array.toList_setIfInBounds, List.take_set]
theorem owns_cellx {w : World} {base g n cap : Nat} {e : TypeId} {xs : List Value} (h : w.ownsRow base e 1 (.slice (some ⟨g, 0, none⟩) n cap) n xs) {i : Nat} {u : Value} (hu : xs[i]? = some u) :
    w.cell? ⟨g, i, none⟩ = some u ∧ w.frozen? ⟨g, i, none⟩ = false := by
  rcases h.2 with ⟨h0, _⟩ | ⟨g', cap', cur, e1, hb, hh, hn, hc, hs, ht⟩
  · cases h0
  · injection e1 with e1 e2 e3
    injection e1 with e1
    injection e1 with e1
    subst e1; subst e3
    refine ⟨?_, by simp [World.frozen?, hh]⟩
    rw [cell_of_row w g i cur e (0, 0) hh]
    rw [← ht, List.getElem?_take] at hu
    split at hu
    · simpa using hu
    · cases hu
theorem bv_setx (l : List UInt8) (i : Nat) (x : UInt8) : (bv l).set i (.int .u8 (x.toNat : Int)) = bv (l.set i x) := by simp [bv, List.map_set]
/-- One byte of an own row turned: the row's new bytes. -/
theorem turn_own {w : World} {base g cap j : Nat} {l : List UInt8} (h : w.ownsRow base 5 1 (.slice (some ⟨g, 0, none⟩) l.length cap) l.length (bv l)) (x : UInt8) :
    (w.setCell ⟨g, j, none⟩ (.int .u8 (x.toNat : Int))).ownsRow base 5 1 (.slice (some ⟨g, 0, none⟩) l.length cap) l.length (bv (l.set j x)) := by
  have := owns_setx (i := j) h (.int .u8 (x.toNat : Int))
  rwa [bv_setx] at this
theorem xor_u8 (y t : UInt8) : bits BinOp.xor IntKind.u8 ((y.toNat : Nat) : Int) ((t.toNat : Nat) : Int) = ((y ^^^ t).toNat : Int) := by rw [u8_xor_nat _ _ y.toNat_lt t.toNat_lt, ← UInt8.toNat_xor]
end Go.Proofs.YtpmanpckkpheeaaDoor
