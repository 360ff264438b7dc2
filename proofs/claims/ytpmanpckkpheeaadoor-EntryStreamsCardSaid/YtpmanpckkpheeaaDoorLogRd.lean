/- An entry out of bytes, plain; and back. -/
import Derived.Test.YtpmanpckkpheeaaDoorLogE
import Derived.Test.YtpmanpckkpheeaaDoorDst
namespace Go.Proofs.YtpmanpckkpheeaaDoor
open Go.RowKit
set_option linter.unusedVariables false

def readLog (s : PS) : Lg × PS :=
  let p1 := pnum 1 s
  let p2 := pnum 4 p1.2
  let p3 := pnum 4 p2.2
  let p4 := pnum 4 p3.2
  let p5 := pnum 1 p4.2
  let p6 := pnum 8 p5.2
  let p7 := pbytes 65536 p6.2
  (⟨(p1.1 : Int), (p2.1 : Int), (p3.1 : Int), (p4.1 : Int), (p5.1 : Int), i64of p6.1, p7.1⟩, p7.2)
theorem readLog_of {s s1 s2 s3 s4 s5 s6 s7 : PS} {x1 x2 x3 x4 x5 x6 : Nat} {x7 : List UInt8}
    (h1 : IsNum 1 s x1 s1) (h2 : IsNum 4 s1 x2 s2) (h3 : IsNum 4 s2 x3 s3) (h4 : IsNum 4 s3 x4 s4) (h5 : IsNum 1 s4 x5 s5) (h6 : IsNum 8 s5 x6 s6) (h7 : IsBytes 65536 s6 x7 s7) :
    readLog s = (⟨(x1 : Int), (x2 : Int), (x3 : Int), (x4 : Int), (x5 : Int), i64of x6, x7⟩, s7) := by
  unfold IsNum IsBytes at *
  unfold readLog
  simp only [h1, h2, h3, h4, h5, h6, h7]

theorem lg_i64 (z : Int) (h : -9223372036854775808 ≤ z ∧ z ≤ 9223372036854775807) : i64of (u64of z) = z := by
  unfold i64of u64of wrap64
  omega
theorem lg_b8 (z : Int) (h : 0 ≤ z ∧ z ≤ 255) : ((b8 z).toNat : Int) = z := by
  have := b8_nat z
  omega
theorem lg_u64 (z : Int) (h : 0 ≤ z ∧ z ≤ 2147483647) : ((u64of z : Nat) : Int) = z ∧ u64of z < 256 ^ 4 := by
  unfold u64of
  omega
theorem readLog_enc (x : Lg) (hr : x.right = true) : readLog (some (encLog x)) = (x, some []) := by
  have hr := of_decide_eq_true hr
  obtain ⟨hk, hc, hb, hn, hs1, hs2, hb1, hb2, hp⟩ := hr
  have e : encLog x = encLog x ++ [] := (List.append_nil _).symm
  rw [e]
  unfold encLog
  simp only [List.append_assoc, List.nil_append]
  have h := readLog_of (show IsNum 1 _ _ _ from pnum_one (b8 x.k) _) (show IsNum 4 _ _ _ from pnum_be 4 _ (lg_u64 x.cl hc).2 _) (show IsNum 4 _ _ _ from pnum_be 4 _ (lg_u64 x.bi hb).2 _) (show IsNum 4 _ _ _ from pnum_be 4 _ (lg_u64 x.nu hn).2 _)
    (show IsNum 1 _ _ _ from pnum_one (b8 x.st) _) (show IsNum 8 _ _ _ from pnum_be 8 _ (u64_lt x.ba) _) (show IsBytes 65536 _ _ _ from pbytes_be 65536 x.pl [] (by omega) (by omega))
  have h2 := h
  simp only [lenBytes, List.append_assoc]
  simp only [List.append_assoc] at h2
  refine h2.trans ?_
  rw [lg_b8 x.k (by omega), (lg_u64 x.cl hc).1, (lg_u64 x.bi hb).1, (lg_u64 x.nu hn).1, lg_b8 x.st (by omega), lg_i64 x.ba (by omega)]
/-- The entry of what is ahead of a sum. -/
def decLog (a : List UInt8) : Option Lg := if (readLog (some a)).2 = some [] ∧ (readLog (some a)).1.right = true then some (readLog (some a)).1 else none
theorem decLog_enc (x : Lg) (hr : x.right = true) : decLog (encLog x) = some x := by
  unfold decLog
  rw [readLog_enc x hr, if_pos ⟨rfl, hr⟩]
theorem logEnc_inj (x y : Lg) (hx : x.right = true) (hy : y.right = true) (h : encLog x = encLog y) : x = y := by
  have h1 := congrArg decLog h
  rw [decLog_enc x hx, decLog_enc y hy] at h1
  exact Option.some.inj h1
end Go.Proofs.YtpmanpckkpheeaaDoor
