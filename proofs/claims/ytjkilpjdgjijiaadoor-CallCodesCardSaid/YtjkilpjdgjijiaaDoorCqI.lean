/- tidelinelaw05.CallUnlike: plain: calls with one row of bytes are one call. -/
import Derived.Test.YtjkilpjdgjijiaaDoorCqS
import Derived.Test.YtjkilpjdgjijiaaDoorUnw
namespace Go.Proofs.YtjkilpjdgjijiaaDoor
open Go.RowKit
set_option linter.unusedVariables false

/-- A call that CallUnlike looks at. -/
structure Cq.mid (x : Cq) : Prop where
  k : 0 ≤ x.k ∧ x.k ≤ 255
  p : x.p.size ≤ 400
  o : x.o.size ≤ 400
  f : -9223372036854775808 ≤ x.f ∧ x.f ≤ 9223372036854775807
  n : -9223372036854775808 ≤ x.n ∧ x.n ≤ 9223372036854775807
  d : x.d.length ≤ 5000
def bigCq (s : PS) : Cq × PS :=
  let p1 := pnum 1 s
  let p2 := pbytes 400 p1.2
  let p3 := pbytes 400 p2.2
  let p4 := pnum 8 p3.2
  let p5 := pnum 8 p4.2
  let p6 := pbytes 5000 p5.2
  (⟨(p1.1 : Int), bstr p2.1, bstr p3.1, i64of p4.1, i64of p5.1, p6.1⟩, p6.2)
theorem bigCq_of {s s1 s2 s3 s4 s5 s6 : PS} {x1 x4 x5 : Nat} {x2 x3 x6 : List UInt8}
    (h1 : pnum 1 s = (x1, s1)) (h2 : pbytes 400 s1 = (x2, s2)) (h3 : pbytes 400 s2 = (x3, s3)) (h4 : pnum 8 s3 = (x4, s4)) (h5 : pnum 8 s4 = (x5, s5)) (h6 : pbytes 5000 s5 = (x6, s6)) :
    bigCq s = (⟨(x1 : Int), bstr x2, bstr x3, i64of x4, i64of x5, x6⟩, s6) := by
  unfold bigCq
  simp only [h1, h2, h3, h4, h5, h6]
theorem pb_big (N : Nat) (l : List UInt8) (h : l.length ≤ N) (hN : N ≤ 5000) (r : List UInt8) : pbytes N (some (lenBytes l ++ r)) = (l, some r) := by
  have := pbytes_be N l r h (by omega)
  unfold lenBytes
  exact this
theorem big_enc (x : Cq) (h : x.mid) : bigCq (some (encCq x)) = (x, some []) := by
  have e0 : encCq x = encCq x ++ [] := (List.append_nil _).symm
  rw [e0]
  unfold encCq
  simp only [List.append_assoc, List.nil_append]
  have hh := bigCq_of (pnum_one (b8 x.k) _) (pb_big 400 x.p.data.toList h.p (by omega) _) (pb_big 400 x.o.data.toList h.o (by omega) _) (pnum_be 8 _ (u64_lt x.f) _) (pnum_be 8 _ (u64_lt x.n) _) (pb_big 5000 x.d h.d (by omega) [])
  refine hh.trans ?_
  rw [cb8 x.k h.k, i64of_u64 x.f h.f, i64of_u64 x.n h.n]
  rfl
theorem encCq_inj (x y : Cq) (hx : x.mid) (hy : y.mid) (h : encCq x = encCq y) : x = y := by
  have h1 := big_enc x hx
  rw [h, big_enc y hy] at h1
  injection h1 with h1 h2
  exact h1.symm
theorem cq_wrapped_inj {a b : List UInt8} (h : wrapped a = wrapped b) : a = b := by
  have := congrArg unw h
  rw [unw_wrapped, unw_wrapped] at this
  exact Option.some.inj this
theorem cq_enc_iff (x y : Cq) (hx : x.mid) (hy : y.mid) : decide (wrapped (encCq x) = wrapped (encCq y)) = x.eqb y := by
  rw [Bool.eq_iff_iff, decide_eq_true_iff, Cq.eqb_iff]
  constructor
  · exact fun h => encCq_inj x y hx hy (cq_wrapped_inj h)
  · rintro rfl; rfl
theorem encCq_len (x : Cq) : (encCq x).length = 29 + x.p.size + x.o.size + x.d.length := by
  unfold encCq
  simp only [List.length_append, List.length_nil, List.length_cons, lenBytes_len, be_len, size_list]
  omega
end Go.Proofs.YtjkilpjdgjijiaaDoor
