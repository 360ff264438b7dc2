/- A message out of bytes, plain; and back. -/
import Derived.Test.YtadflbeniccfeaaDoorRpcE
import Derived.Test.YtadflbeniccfeaaDoorDst
namespace Go.Proofs.YtadflbeniccfeaaDoor
open Go.RowKit
set_option linter.unusedVariables false

def readMsg (s : PS) : Msg × PS :=
  let p1 := pnum 1 s
  let p2 := pnum 1 p1.2
  let p3 := pnum 8 p2.2
  let p4 := pflag p3.2
  let p5 := pnum 1 p4.2
  let p6 := pnum 8 p5.2
  let p7 := pnum 8 p6.2
  let p8 := pnum 1 p7.2
  let p9 := pbytes 65536 p8.2
  let p10 := pnum 8 p9.2
  let p11 := pnum 8 p10.2
  let p12 := pbytes 1000 p11.2
  let p13 := pnum 8 p12.2
  let p14 := pnum 8 p13.2
  let p15 := pnum 8 p14.2
  let p16 := pnum 8 p15.2
  (⟨i8of p1.1, i8of p2.1, i64of p3.1, p4.1, (p5.1 : Int), i64of p6.1, i64of p7.1, (p8.1 : Int), p9.1, i64of p10.1, i64of p11.1, p12.1, i64of p13.1, i64of p14.1, i64of p15.1, i64of p16.1⟩, p16.2)

theorem readMsg_of {s s1 s2 s3 s4 s5 s6 s7 s8 s9 s10 s11 s12 s13 s14 s15 s16 : PS} {x1 x2 x3 x5 x6 x7 x8 x10 x11 x13 x14 x15 x16 : Nat} {x4 : Bool} {x9 x12 : List UInt8}
    (h1 : IsNum 1 s x1 s1) (h2 : IsNum 1 s1 x2 s2) (h3 : IsNum 8 s2 x3 s3) (h4 : IsFlag s3 x4 s4) (h5 : IsNum 1 s4 x5 s5) (h6 : IsNum 8 s5 x6 s6) (h7 : IsNum 8 s6 x7 s7) (h8 : IsNum 1 s7 x8 s8) (h9 : IsBytes 65536 s8 x9 s9) (h10 : IsNum 8 s9 x10 s10) (h11 : IsNum 8 s10 x11 s11) (h12 : IsBytes 1000 s11 x12 s12)
    (h13 : IsNum 8 s12 x13 s13) (h14 : IsNum 8 s13 x14 s14) (h15 : IsNum 8 s14 x15 s15) (h16 : IsNum 8 s15 x16 s16) :
    readMsg s = (⟨i8of x1, i8of x2, i64of x3, x4, (x5 : Int), i64of x6, i64of x7, (x8 : Int), x9, i64of x10, i64of x11, x12, i64of x13, i64of x14, i64of x15, i64of x16⟩, s16) := by
  unfold IsNum IsFlag IsBytes at *
  unfold readMsg
  simp only [h1, h2, h3, h4, h5, h6, h7, h8, h9, h10, h11, h12, h13, h14, h15, h16]

theorem i64_back (z : Int) (h : -9223372036854775808 ≤ z ∧ z ≤ 9223372036854775807) : i64of (u64of z) = z := by
  unfold i64of u64of wrap64
  omega
theorem i8_back (z : Int) (h : -128 ≤ z ∧ z ≤ 127) : i8of (b8 z).toNat = z := by
  have := b8_nat z
  unfold i8of
  split <;> omega
theorem b8_back (z : Int) (h : 0 ≤ z ∧ z ≤ 255) : ((b8 z).toNat : Int) = z := by
  have := b8_nat z
  omega
/-- An int that fits. -/
def fits (z : Int) : Prop := -9223372036854775808 ≤ z ∧ z ≤ 9223372036854775807
/-- All of a message's ints fit. -/
structure Msg.fit (m : Msg) : Prop where
  nu : fits m.nu
  ep : fits m.ep
  att : fits m.att
  br : fits m.br
  bw : fits m.bw
  er : fits m.er
  ta : fits m.ta
  lo : fits m.lo
  ba : fits m.ba

theorem pnum_b8 (z : Int) (l : List UInt8) : pnum 1 (some ([b8 z] ++ l)) = ((b8 z).toNat, some l) := pnum_one _ _
theorem pnum_i64 (z : Int) (l : List UInt8) : pnum 8 (some (beBytes (u64of z) 8 ++ l)) = (u64of z, some l) := pnum_be 8 _ (u64_lt z) l
theorem pflag_b (x : Bool) (l : List UInt8) : pflag (some ([if x then 1 else 0] ++ l)) = (x, some l) := pflag_be x l
theorem pbytes_l (m : Nat) (b l : List UInt8) (h : b.length ≤ m) (h4 : b.length < 4294967296) : pbytes m (some (lenBytes b ++ l)) = (b, some l) := pbytes_be m b l h h4

theorem readMsg_enc (m : Msg) (hr : m.right = true) (hf : m.fit) : readMsg (some (encMsg m)) = (m, some []) := by
  have hr := of_decide_eq_true hr
  have e : encMsg m = encMsg m ++ [] := (List.append_nil _).symm
  rw [e]
  unfold encMsg
  simp only [List.append_assoc, List.nil_append]
  have h := readMsg_of (pnum_b8 m.fr _) (pnum_b8 m.to _) (pnum_i64 m.nu _) (pflag_b m.re _) (pnum_b8 m.ki _) (pnum_i64 m.ep _) (pnum_i64 m.att _) (pnum_b8 m.wh _) (pbytes_l 65536 m.cd _ (by omega) (by omega)) (pnum_i64 m.br _) (pnum_i64 m.bw _) (pbytes_l 1000 m.va _ (by omega) (by omega)) (pnum_i64 m.er _) (pnum_i64 m.ta _) (pnum_i64 m.lo _) (pnum_i64 m.ba [])
  rw [h]
  rw [i8_back _ ⟨by omega, by omega⟩, i8_back _ ⟨by omega, by omega⟩, i64_back _ hf.nu, b8_back _ ⟨by omega, by omega⟩, i64_back _ hf.ep, i64_back _ hf.att, b8_back _ ⟨by omega, by omega⟩, i64_back _ hf.br, i64_back _ hf.bw, i64_back _ hf.er, i64_back _ hf.ta, i64_back _ hf.lo, i64_back _ hf.ba]
/-- The message of what is ahead of a sum. -/
def decMsg (a : List UInt8) : Option Msg := if (readMsg (some a)).2 = some [] ∧ (readMsg (some a)).1.right = true then some (readMsg (some a)).1 else none
theorem decMsg_enc (m : Msg) (hr : m.right = true) (hf : m.fit) : decMsg (encMsg m) = some m := by
  unfold decMsg
  rw [readMsg_enc m hr hf, if_pos ⟨rfl, hr⟩]
end Go.Proofs.YtadflbeniccfeaaDoor
