/- The document's Reader: Bytes, whatever is left. -/
import Derived.Test.YtohahhijbneheaaDoorRrb
namespace Go.Proofs.YtohahhijbneheaaDoor
open Go.RowKit
set_option linter.unusedVariables false

set_option maxRecDepth 100000 in
set_option maxHeartbeats 2000000 in
theorem rrbytes_gone {w : World} {g n m : Nat} {s : PS} (h0 : RR w g s) (hc0 : IsCount m s n none) (hm : m ≤ 1000000) :
    Calls Tryd.prog 73 #[.pointer (some ⟨g, 0, none⟩), .int .i64 (m : Int)] w fun e w' => NewBytes w.heap.size [] e w' ∧ RR w' g none ∧ Fr (fun k => k = g) w w' := by
  have H := Lib.hid h0
  have HC := Lib.hid hc0
  clear h0 hc0
  go_enter Tryd.func73, Tryd.ntmps73
  go_wp2_with fail
  refine (rrcount_is H.out HC.out hm).mono ?_
  rintro e w1 ⟨rfl, hr, hf⟩
  have HRR := Lib.hid hr
  obtain ⟨A, c, l, a, q', h1, h2, h4⟩ := hr
  have hq : q' = true := by cases q'; cases h4; rfl
  subst hq
  have hc := (Blk.of_heap h1.blk).cell
  have hfz := (Blk.of_heap h1.blk).free
  clear h4 H HC h1 h2
  go_wp2_with fail
  go_quiet (fail)
  go_wp2
  go_ret
  have hrr : RR (w1.drewN nq) g none := HRR.out.below (bdrewN_refl _ _ nq)
  obtain ⟨h5, h6⟩ := hrr.turn
  have h7 := heap_alloc_new ((w1.drewN nq).setCell ⟨g, 2, none⟩ (.bool true)) (.cells #[] 5)
  have hz : ((w1.drewN nq).setCell ⟨g, 2, none⟩ (.bool true)).heap.size = w1.heap.size := by simp [World.setCell]
  rw [hz] at h7
  have hk : Below ((w1.drewN nq).setCell ⟨g, 2, none⟩ (.bool true)).heap.size ((w1.drewN nq).setCell ⟨g, 2, none⟩ (.bool true)) (((w1.drewN nq).setCell ⟨g, 2, none⟩ (.bool true)).alloc (.cells #[] 5)) := (Below.refl _ _).alloc (Nat.le_refl _) _
  refine ⟨⟨some ⟨w1.heap.size, 0, none⟩, 0, rfl, rfl, .inr ⟨w1.heap.size, 0, #[], rfl, hf.size, h7, Nat.zero_le _, Nat.zero_le _, rfl, rfl⟩⟩, h5.below hk, ?_⟩
  exact (((hf.drewN nq).trans h6 (fun _ _ e => e)).thenBelow hk)

set_option maxRecDepth 100000 in
set_option maxHeartbeats 2000000 in
theorem rrbytes_short {w : World} {g n m : Nat} {d : List UInt8} {s : PS} (h0 : RR w g s) (hc0 : IsCount m s n (some d)) (hm : m ≤ 1000000) (hn : d.length < n) :
    Calls Tryd.prog 73 #[.pointer (some ⟨g, 0, none⟩), .int .i64 (m : Int)] w fun e w' => NewBytes w.heap.size [] e w' ∧ RR w' g none ∧ Fr (fun k => k = g) w w' := by
  have H := Lib.hid h0
  have HC := Lib.hid hc0
  have HN := Lib.hid hn
  clear h0 hc0 hn
  go_enter Tryd.func73, Tryd.ntmps73
  go_wp2_with fail
  refine (rrcount_is H.out HC.out hm).mono ?_
  rintro e w1 ⟨rfl, hr, hf⟩
  have HRR := Lib.hid hr
  obtain ⟨A, c, l, a, q', h1, h2, h4⟩ := hr
  have hq : q' = false := by cases q'; rfl; cases h4
  subst hq
  have hdr : d = l.drop a := by simpa using h4
  have hn' : l.length - a < n := by have := congrArg List.length hdr; rw [List.length_drop] at this; have := HN.out; omega
  have hc := (Blk.of_heap h1.blk).cell
  have hfz := (Blk.of_heap h1.blk).free
  have hle := h1.le
  have hll := h1.ll
  have d3 : (l.length : Int) - (a : Int) < (n : Int) := by omega
  have d4 : IntKind.i64.wrap ((l.length : Int) - (a : Int)) = (l.length : Int) - (a : Int) := by rw [IntKind.wrap_i64]; omega
  clear h4 H HC h1 h2 hdr HN
  go_wp2_with fail
  go_quiet (fail)
  clear d3 d4
  go_wp2
  go_ret
  have hrr : RR (w1.drewN nq) g _ := HRR.out.below (bdrewN_refl _ _ nq)
  obtain ⟨h5, h6⟩ := hrr.turn
  have h7 := heap_alloc_new ((w1.drewN nq).setCell ⟨g, 2, none⟩ (.bool true)) (.cells #[] 5)
  have hz : ((w1.drewN nq).setCell ⟨g, 2, none⟩ (.bool true)).heap.size = w1.heap.size := by simp [World.setCell]
  rw [hz] at h7
  have hk : Below ((w1.drewN nq).setCell ⟨g, 2, none⟩ (.bool true)).heap.size ((w1.drewN nq).setCell ⟨g, 2, none⟩ (.bool true)) (((w1.drewN nq).setCell ⟨g, 2, none⟩ (.bool true)).alloc (.cells #[] 5)) := (Below.refl _ _).alloc (Nat.le_refl _) _
  refine ⟨⟨some ⟨w1.heap.size, 0, none⟩, 0, rfl, rfl, .inr ⟨w1.heap.size, 0, #[], rfl, hf.size, h7, Nat.zero_le _, Nat.zero_le _, rfl, rfl⟩⟩, h5.below hk, ?_⟩
  exact (((hf.drewN nq).trans h6 (fun _ _ e => e)).thenBelow hk)

theorem rrbytes_is {w : World} {g m : Nat} {x : List UInt8} {s r : PS} (h : RR w g s) (hx : IsBytes m s x r) (hm : m ≤ 1000000) :
    Calls Tryd.prog 73 #[.pointer (some ⟨g, 0, none⟩), .int .i64 (m : Int)] w fun e w' => NewBytes w.heap.size x e w' ∧ RR w' g r ∧ Fr (fun k => k = g) w w' := by
  obtain ⟨n, r0, h0⟩ := isCount m s
  have hp : pbytes m s = ptake n r0 := by unfold pbytes; rw [show pcount m s = (n, r0) from h0]
  rw [IsBytes, hp] at hx
  cases r0 with
  | none =>
    change (([], none) : List UInt8 × PS) = _ at hx
    obtain ⟨rfl, rfl⟩ := Prod.mk.inj hx
    exact rrbytes_gone h h0 hm
  | some d =>
    change (if d.length < n then (([], none) : List UInt8 × PS) else (d.take n, some (d.drop n))) = _ at hx
    by_cases hs : d.length < n
    · rw [if_pos hs] at hx
      obtain ⟨rfl, rfl⟩ := Prod.mk.inj hx
      exact rrbytes_short h h0 hm hs
    · rw [if_neg hs] at hx
      obtain ⟨rfl, rfl⟩ := Prod.mk.inj hx
      exact rrbytes_ok h h0 hm (by omega)
end Go.Proofs.YtohahhijbneheaaDoor
