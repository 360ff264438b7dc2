/- One byte of an own row turned: words. -/
import Derived.Test.YtohahhijbneheaaDoorInts
import Derived.Test.YtohahhijbneheaaDoorWr
import Derived.Laws.BitsAllLaws
namespace Go.Proofs.YtohahhijbneheaaDoor
open Go.RowKit
set_option linter.unusedVariables false

theorem bits_lowx (z : Int) : ∃ r : Nat, bits BinOp.and IntKind.i64 z 65535 = (r : Int) ∧ r < 65536 := by
  refine ⟨(BitVec.ofInt 64 z &&& BitVec.ofInt 64 65535).toNat, ?_, ?_⟩
  · show IntKind.i64.wrap ((BitVec.ofInt 64 z &&& BitVec.ofInt 64 65535).toNat : Int) = _
    have h : (BitVec.ofInt 64 z &&& BitVec.ofInt 64 65535).toNat < 65536 := by
      rw [BitVec.toNat_and, show (BitVec.ofInt 64 65535).toNat = 2 ^ 16 - 1 from rfl, Nat.and_two_pow_sub_one_eq_mod]
      omega
    rw [IntKind.wrap_i64]
    omega
  · rw [BitVec.toNat_and, show (BitVec.ofInt 64 65535).toNat = 2 ^ 16 - 1 from rfl, Nat.and_two_pow_sub_one_eq_mod]
    omega
theorem bv_setx (l : List UInt8) (i : Nat) (x : UInt8) : (bv l).set i (.int .u8 (x.toNat : Int)) = bv (l.set i x) := by simp [bv, List.map_set]
/-- One byte of an own row turned: the row's new bytes. -/
theorem turn_own {w : World} {base g cap j : Nat} {l : List UInt8} (h : w.ownsRow base 5 1 (.slice (some ⟨g, 0, none⟩) l.length cap) l.length (bv l)) (x : UInt8) :
    (w.setCell ⟨g, j, none⟩ (.int .u8 (x.toNat : Int))).ownsRow base 5 1 (.slice (some ⟨g, 0, none⟩) l.length cap) l.length (bv (l.set j x)) := by
  have := owns_setx (i := j) h (.int .u8 (x.toNat : Int))
  rwa [bv_setx] at this
theorem xor_u8 (y t : UInt8) : bits BinOp.xor IntKind.u8 ((y.toNat : Nat) : Int) ((t.toNat : Nat) : Int) = ((y ^^^ t).toNat : Int) := by rw [u8_xor_nat _ _ y.toNat_lt t.toNat_lt, ← UInt8.toNat_xor]
end Go.Proofs.YtohahhijbneheaaDoor
