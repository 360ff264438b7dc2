/- api.Call, api.Answer: in memory; plain: their bytes, and out of bytes. -/
import Derived.Test.YtjkilpjdgjijiaaDoorKp
import Derived.Test.YtjkilpjdgjijiaaDoorRd
namespace Go.Proofs.YtjkilpjdgjijiaaDoor
open Go.RowKit
set_option linter.unusedVariables false

/-- A call. -/
structure Cq where
  k : Int
  p : ByteArray
  o : ByteArray
  f : Int
  n : Int
  d : List UInt8
abbrev Cq.val (x : Cq) (A : Option Addr) (c : Nat) : Value := .agg #[.int .i64 x.k, .string x.p, .string x.o, .int .i64 x.f, .int .i64 x.n, .slice A x.d.length c]
/-- An answer. -/
structure An where
  e : Int
  k : Int
  s : Int
  l : Int
  d : List UInt8
  ns : List ByteArray
abbrev An.val (x : An) (A1 : Option Addr) (c1 : Nat) (A2 : Option Addr) (c2 : Nat) : Value := .agg #[.int .i64 x.e, .int .i64 x.k, .int .i64 x.s, .int .i64 x.l, .slice A1 x.d.length c1, .slice A2 x.ns.length c2]
/-- A text's bytes, and how many there are. -/
def putS (s : ByteArray) : List UInt8 := lenBytes s.data.toList
theorem putS_len (s : ByteArray) : (putS s).length = 4 + s.size := by unfold putS; rw [lenBytes_len]; rfl
/-- A call's bytes; an answer's. -/
def encCq (x : Cq) : List UInt8 := [] ++ [b8 x.k] ++ lenBytes x.p.data.toList ++ lenBytes x.o.data.toList ++ beBytes (u64of x.f) 8 ++ beBytes (u64of x.n) 8 ++ lenBytes x.d
def encAn (x : An) : List UInt8 := [] ++ beBytes (u64of x.e) 8 ++ beBytes (u64of x.k) 8 ++ beBytes (u64of x.s) 8 ++ beBytes (u64of x.l) 8 ++ lenBytes x.d ++ (beBytes x.ns.length 4 ++ (x.ns.map putS).flatten)
/-- A text out of bytes. -/
def oneS (s : PS) : ByteArray × PS := (bstr (pbytes 300 s).1, (pbytes 300 s).2)
theorem oneS_len (s : PS) : psLen (oneS s).2 ≤ psLen s := pbytes_len 300 s
def readCq (s : PS) : Cq × PS :=
  let p1 := pnum 1 s
  let p2 := pbytes 300 p1.2
  let p3 := pbytes 300 p2.2
  let p4 := pnum 8 p3.2
  let p5 := pnum 8 p4.2
  let p6 := pbytes 4096 p5.2
  (⟨(p1.1 : Int), bstr p2.1, bstr p3.1, i64of p4.1, i64of p5.1, p6.1⟩, p6.2)
theorem readCq_of {s s1 s2 s3 s4 s5 s6 : PS} {x1 x4 x5 : Nat} {x2 x3 x6 : List UInt8}
    (h1 : pnum 1 s = (x1, s1)) (h2 : pbytes 300 s1 = (x2, s2)) (h3 : pbytes 300 s2 = (x3, s3)) (h4 : pnum 8 s3 = (x4, s4)) (h5 : pnum 8 s4 = (x5, s5)) (h6 : pbytes 4096 s5 = (x6, s6)) :
    readCq s = (⟨(x1 : Int), bstr x2, bstr x3, i64of x4, i64of x5, x6⟩, s6) := by
  unfold readCq
  simp only [h1, h2, h3, h4, h5, h6]
def decCq (a : List UInt8) : Option Cq := if (readCq (some a)).2 = some [] then some (readCq (some a)).1 else none
def readAn (s : PS) : An × PS :=
  let p1 := pnum 8 s
  let p2 := pnum 8 p1.2
  let p3 := pnum 8 p2.2
  let p4 := pnum 8 p3.2
  let p5 := pbytes 4096 p4.2
  let p6 := plist 64 oneS p5.2
  (⟨i64of p1.1, i64of p2.1, i64of p3.1, i64of p4.1, p5.1, p6.1⟩, p6.2)
theorem readAn_of {s s1 s2 s3 s4 s5 s6 : PS} {x1 x2 x3 x4 : Nat} {x5 : List UInt8} {x6 : List ByteArray}
    (h1 : pnum 8 s = (x1, s1)) (h2 : pnum 8 s1 = (x2, s2)) (h3 : pnum 8 s2 = (x3, s3)) (h4 : pnum 8 s3 = (x4, s4)) (h5 : pbytes 4096 s4 = (x5, s5)) (h6 : plist 64 oneS s5 = (x6, s6)) :
    readAn s = (⟨i64of x1, i64of x2, i64of x3, i64of x4, x5, x6⟩, s6) := by
  unfold readAn
  simp only [h1, h2, h3, h4, h5, h6]
def decAn (a : List UInt8) : Option An := if (readAn (some a)).2 = some [] then some (readAn (some a)).1 else none

theorem i64of_u64 (z : Int) (h : -9223372036854775808 ≤ z ∧ z ≤ 9223372036854775807) : i64of (u64of z) = z := by
  unfold i64of u64of wrap64
  omega
theorem cb8 (z : Int) (h : 0 ≤ z ∧ z ≤ 255) : ((b8 z).toNat : Int) = z := by
  have := b8_nat z
  omega
/-- What may come back. -/
structure Cq.fit (x : Cq) : Prop where
  k : 0 ≤ x.k ∧ x.k ≤ 255
  p : x.p.size ≤ 300
  o : x.o.size ≤ 300
  f : -9223372036854775808 ≤ x.f ∧ x.f ≤ 9223372036854775807
  n : -9223372036854775808 ≤ x.n ∧ x.n ≤ 9223372036854775807
  d : x.d.length ≤ 4096
structure An.fit (x : An) : Prop where
  e : -9223372036854775808 ≤ x.e ∧ x.e ≤ 9223372036854775807
  k : -9223372036854775808 ≤ x.k ∧ x.k ≤ 9223372036854775807
  s : -9223372036854775808 ≤ x.s ∧ x.s ≤ 9223372036854775807
  l : -9223372036854775808 ≤ x.l ∧ x.l ≤ 9223372036854775807
  d : x.d.length ≤ 4096
  n : x.ns.length ≤ 64
  ns : ∀ s ∈ x.ns, s.size ≤ 300
theorem size_list (s : ByteArray) : s.data.toList.length = s.size := rfl
theorem pb_text (s : ByteArray) (h : s.size ≤ 300) (l : List UInt8) : pbytes 300 (some (lenBytes s.data.toList ++ l)) = (s.data.toList, some l) := by
  have := pbytes_be 300 s.data.toList l (by rw [size_list]; exact h) (by rw [size_list]; omega)
  unfold lenBytes
  exact this
theorem oneS_put (s : ByteArray) (h : s.size ≤ 300) (l : List UInt8) : oneS (some (putS s ++ l)) = (s, some l) := by
  unfold oneS putS
  rw [pb_text s h l]
  rfl
theorem decCq_enc (x : Cq) (h : x.fit) : decCq (encCq x) = some x := by
  have e : readCq (some (encCq x)) = (x, some []) := by
    have e0 : encCq x = encCq x ++ [] := (List.append_nil _).symm
    rw [e0]
    unfold encCq
    simp only [List.append_assoc, List.nil_append]
    have h6 : pbytes 4096 (some (lenBytes x.d ++ [])) = (x.d, some []) := by
      have := pbytes_be 4096 x.d [] h.d (by have := h.d; omega)
      unfold lenBytes
      exact this
    have hh := readCq_of (pnum_one (b8 x.k) _) (pb_text x.p h.p _) (pb_text x.o h.o _) (pnum_be 8 _ (u64_lt x.f) _) (pnum_be 8 _ (u64_lt x.n) _) h6
    refine hh.trans ?_
    rw [cb8 x.k h.k, i64of_u64 x.f h.f, i64of_u64 x.n h.n]
    rfl
  unfold decCq
  rw [e, if_pos rfl]
theorem decAn_enc (x : An) (h : x.fit) : decAn (encAn x) = some x := by
  have e : readAn (some (encAn x)) = (x, some []) := by
    have e0 : encAn x = encAn x ++ [] := (List.append_nil _).symm
    rw [e0]
    unfold encAn
    simp only [List.append_assoc, List.nil_append]
    have h5 : ∀ l, pbytes 4096 (some (lenBytes x.d ++ l)) = (x.d, some l) := by
      intro l
      have := pbytes_be 4096 x.d l h.d (by have := h.d; omega)
      unfold lenBytes
      exact this
    have h6 := plist_back oneS putS 64 x.ns h.n (by have := h.n; omega) (fun s hs l => oneS_put s (h.ns s hs) l) []
    simp only [List.append_assoc] at h6
    have hh := readAn_of (pnum_be 8 _ (u64_lt x.e) _) (pnum_be 8 _ (u64_lt x.k) _) (pnum_be 8 _ (u64_lt x.s) _) (pnum_be 8 _ (u64_lt x.l) _) (h5 _) h6
    refine hh.trans ?_
    rw [i64of_u64 x.e h.e, i64of_u64 x.k h.k, i64of_u64 x.s h.s, i64of_u64 x.l h.l]
  unfold decAn
  rw [e, if_pos rfl]
end Go.Proofs.YtjkilpjdgjijiaaDoor
