/- The document's writing: tidelineref01.Flag, Bytes, tidelineref05.Int. -/
import Derived.Test.YtjkilpjdgjijiaaDoorRput
import Derived.Test.YtjkilpjdgjijiaaDoorWr
namespace Go.Proofs.YtjkilpjdgjijiaaDoor
open Go.RowKit
set_option linter.unusedVariables false

/-- A row of bytes that is the call's own. -/
def Own (w : World) (n0 : Nat) (v : Value) (l : List UInt8) : Prop := w.ownsRow n0 5 1 v l.length (bv l)
theorem Own.form {w : World} {n0 : Nat} {v : Value} {l : List UInt8} (h : Own w n0 v l) : ∃ A c, v = .slice A l.length c := own_form h
theorem Own.below {w w' : World} {n0 : Nat} {v : Value} {l : List UInt8} (h : Own w n0 v l) (hb : Below w.heap.size w w') : Own w' n0 v l := (Fr.of_below (M := fun _ => False) hb).owns h (fun _ _ x => x)
theorem put_own {w : World} {n0 : Nat} {v : Value} {l : List UInt8} (h : Own w n0 v l) (x n : Nat) (hx : x < 18446744073709551616) (hn : n ≤ 8) (hl : l.length ≤ 70368744177000) (hn0 : n0 ≤ w.heap.size) :
    Calls Tryd.prog 48 #[v, .int .u64 (x : Int), .int .i64 (n : Int)] w fun e w' => ∃ v', e = .returned v' ∧ Own w' n0 v' (l ++ beBytes x n) ∧ Below n0 w w' :=
  (put_ok h x n hx hn hl hn0).mono fun e w' ⟨v', he, ho, hb⟩ => ⟨v', he, by unfold Own; rw [List.length_append, be_len]; exact ho, hb⟩

theorem rint_own {w : World} {n0 : Nat} {v : Value} {l : List UInt8} (h : Own w n0 v l) (z : Int) (hl : l.length ≤ 70368744177000) (hn0 : n0 ≤ w.heap.size) :
    Calls Tryd.prog 45 #[v, .int .i64 z] w fun e w' => ∃ v', e = .returned v' ∧ Own w' n0 v' (l ++ beBytes (u64of z) 8) ∧ Below n0 w w' := by
  have hw := u64_wrap z
  have H := Lib.hid h
  clear h
  go_enter Tryd.func45, Tryd.ntmps45
  go_wp2_with fail
  refine (put_own H.out (u64of z) 8 (u64_lt z) (by decide) hl hn0).mono ?_
  rintro e w1 ⟨v1, rfl, h1, hb1⟩
  go_wp2
  go_ret
  exact ⟨v1, rfl, h1, hb1⟩

set_option maxHeartbeats 1000000 in
/-- append(v, x) of one byte, onto bytes that the call has made. -/
theorem wpList_append_byte {ops : Array Oper} {rest : List Oper} {o : Oper} {a : Act} {w : World} {Q : Exit → Act → World → Prop} (hg : o.guard = none) (s x : Operand)
    (hop : o.op = .call { callee := .builtin .append, args := #[s, x], argTypes := #[22, 22] })
    (n0 : Nat) (v : Value) (l : List UInt8) (hs : a.eval s = v) (hown : Own w n0 v l) (g : Nat) (y : UInt8) (hx : a.eval x = .slice (some ⟨g, 0, none⟩) 1 1) (hgy : w.heap[g]? = some (.cells #[.int .u8 (y.toNat : Int)] 5 (0, 0))) (hl : l.length ≤ 70368744177000) (hn0 : n0 ≤ w.heap.size)
    (hK : ∀ v' w', Own w' n0 v' (l ++ [y]) → Below n0 w w' → wpList Tryd.prog ops Q rest (a.put o.dst v') w') : wpList Tryd.prog ops Q (o :: rest) a w := by
  refine wpList_append_bytes hg s x hop n0 v l.length l hs hown (some ⟨g, 0, none⟩) 1 (g + 1) [y] hx (by simp) ?_ (by simp; omega) hn0 ?_
  · refine .inr ⟨g, 0, rfl, by omega, fun k u hu => ?_⟩
    rw [Nat.zero_add]
    unfold World.cell?
    simp only [hgy]
    simpa [bv] using hu
  · intro v' w' h1 h2
    exact hK v' w' (by unfold Own; rw [List.length_append]; exact h1) h2


set_option maxHeartbeats 1000000 in
theorem rbytes_own {w : World} {n0 : Nat} {v : Value} {l : List UInt8} (h : Own w n0 v l) (A : Option Addr) (c B : Nat) (b : List UInt8) (hb : Sl w B A (bv b)) (hn : A = none → c = 0) (hB : B ≤ n0) (hl : l.length + 4 + b.length ≤ 70368744170000) (hn0 : n0 ≤ w.heap.size) :
    Calls Tryd.prog 46 #[v, .slice A b.length c] w fun e w' => ∃ v', e = .returned v' ∧ Own w' n0 v' (l ++ lenBytes b) ∧ Below n0 w w' := by
  have H := Lib.hid h
  have HN := Lib.hid hn
  have hcv : IntKind.u64.wrap (b.length : Int) = (b.length : Int) := by rw [IntKind.wrap_u64]; omega
  clear h hn
  go_enter Tryd.func46, Tryd.ntmps46
  go_wp2_with fail
  refine (put_own H.out b.length 4 (by omega) (by decide) (by omega) hn0).mono ?_
  rintro e w1 ⟨v1, rfl, h1, hb1⟩
  have H1 := Lib.hid h1
  have hsl : Sl w1 B A (bv b) := hb.below (hb1.mono hB)
  have LL : Hid ((l ++ beBytes b.length 4).length + b.length ≤ 70368744177664) := by show _ ≤ _; rw [List.length_append, be_len]; omega
  have hs1 : n0 ≤ w1.heap.size := Nat.le_trans hn0 hb1.size
  clear h1
  go_wp2_with (at_builtin; refine wpList_append_bytes rfl _ _ rfl n0 v1 _ (l ++ beBytes b.length 4) rfl H1.out A c B b rfl HN.out hsl LL.out hs1 ?_; intro v2 w2 ho2 hb2)
  go_ret
  refine ⟨v2, rfl, ?_, hb1.trans hb2⟩
  unfold Own lenBytes
  rw [← List.append_assoc, List.length_append]
  exact ho2
end Go.Proofs.YtjkilpjdgjijiaaDoor
