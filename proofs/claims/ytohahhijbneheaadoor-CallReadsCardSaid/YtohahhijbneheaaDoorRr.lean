/- The document's Reader by what is left of it: Number, Count, Flag, Bytes, End. -/
import Derived.Test.YtohahhijbneheaaDoorRd
import Derived.Test.YtohahhijbneheaaDoorRw
import Derived.Deep.RegionLaw
namespace Go.Proofs.YtohahhijbneheaaDoor
open Go.RowKit
set_option linter.unusedVariables false

/-- The document's reader at block g: its bytes, where it is, whether it has gone wrong. -/
structure RRd (w : World) (g : Nat) (A : Option Addr) (c : Nat) (l : List UInt8) (a : Nat) (q : Bool) : Prop where
  blk : w.heap[g]? = some (.cells #[.slice A l.length c, .int .i64 (a : Int), .bool q] 105 (0, 0))
  le : a ≤ l.length
  ll : l.length ≤ 1099511627776
/-- .. of which s is left. -/
def RR (w : World) (g : Nat) (s : PS) : Prop := ∃ A c l a q, RRd w g A c l a q ∧ RB w A l c ∧ s = (if q then none else some (l.drop a))
theorem RR.lt {w : World} {g : Nat} {s : PS} (h : RR w g s) : g < w.heap.size := by
  obtain ⟨A, c, l, a, q, h1, -⟩ := h
  exact (Array.getElem?_eq_some_iff.1 h1.blk).1
theorem RR.below {w w' : World} {g : Nat} {s : PS} (h : RR w g s) (hb : Below w.heap.size w w') : RR w' g s := by
  obtain ⟨A, c, l, a, q, h1, h2, h4⟩ := h
  have hg : g < w.heap.size := (Array.getElem?_eq_some_iff.1 h1.blk).1
  exact ⟨A, c, l, a, q, ⟨(hb.block g hg).trans h1.blk, h1.le, h1.ll⟩, h2.below hb, h4⟩
theorem RR.far {w w' : World} {g b : Nat} {s : PS} {cs : Array Value} {t : TypeId} {fr : Nat × Nat} (h : RR w g s) (hb : w.heap[b]? = some (.cells cs t fr)) (h1 : t ≠ 5) (h2 : t ≠ 105) (hf : Fr (fun k => k = b) w w') : RR w' g s := by
  obtain ⟨A, c, l, a, q, k1, k2, k3⟩ := h
  refine ⟨A, c, l, a, q, ⟨hf.cells k1.blk ?_, k1.le, k1.ll⟩, k2.keep hb h1 hf, k3⟩
  rintro rfl
  have := k1.blk
  rw [this] at hb
  simp at hb
  exact h2 hb.2.1.symm

theorem be_go (m : Nat) (x : UInt8) (hm : m < 256 ^ 7) : IntKind.u64.wrap (IntKind.u64.wrap (256 * (m : Int)) + IntKind.u64.wrap (x.toNat : Int)) = ((m * 256 + x.toNat : Nat) : Int) := by
  have hx := x.toNat_lt
  have hm' : m < 72057594037927936 := hm
  rw [IntKind.wrap_u64, IntKind.wrap_u64, IntKind.wrap_u64]
  omega

theorem be_go2 (m : Nat) (x : UInt8) (hm : m < 256 ^ 7) : IntKind.u64.wrap (256 * (m : Int) + IntKind.u64.wrap (x.toNat : Int)) = ((m * 256 + x.toNat : Nat) : Int) := by
  have hx := x.toNat_lt
  have hm' : m < 72057594037927936 := hm
  rw [IntKind.wrap_u64, IntKind.wrap_u64]
  omega

set_option maxRecDepth 100000 in
set_option maxHeartbeats 2000000 in
theorem rrnum_wrong {w : World} {g n c a : Nat} {A : Option Addr} {l : List UInt8} (h : RRd w g A c l a true) (hn8 : n ≤ 8) :
    Calls Tryd.prog 66 #[.pointer (some ⟨g, 0, none⟩), .int .i64 (n : Int)] w fun e w' => e = .returned (.int .u64 0) ∧ RRd w' g A c l a true ∧ Fr (fun k => k = g) w w' := by
  have H := Lib.hid h
  have hc := (Blk.of_heap h.blk).cell
  have hf := (Blk.of_heap h.blk).free
  have h1 : ¬ ((8 : Int) < (n : Int)) := by omega
  have h2 : ¬ ((n : Int) < 0) := by omega
  clear h
  go_enter Tryd.func66, Tryd.ntmps66
  go_wp2_with fail
  go_quiet (fail)
  go_wp2
  go_ret
  have hb := cell_set (i := 2) (show (w.drewN nq).heap[g]? = _ from H.out.blk) (.bool true)
  exact ⟨rfl, ⟨hb, H.out.le, H.out.ll⟩, Fr.setCell (M := fun k => k = g) (p := ⟨g, 2, none⟩) ((Fr.refl _ _).drewN nq) (fun _ => rfl) _⟩

set_option maxRecDepth 100000 in
set_option maxHeartbeats 2000000 in
theorem rrnum_short {w : World} {g n c a : Nat} {A : Option Addr} {l : List UInt8} (h : RRd w g A c l a false) (hn8 : n ≤ 8) (hs : l.length - a < n) :
    Calls Tryd.prog 66 #[.pointer (some ⟨g, 0, none⟩), .int .i64 (n : Int)] w fun e w' => e = .returned (.int .u64 0) ∧ RRd w' g A c l a true ∧ Fr (fun k => k = g) w w' := by
  have H := Lib.hid h
  have hc := (Blk.of_heap h.blk).cell
  have hf := (Blk.of_heap h.blk).free
  have hle := h.le
  have hll := h.ll
  have h1 : ¬ ((8 : Int) < (n : Int)) := by omega
  have h2 : ¬ ((n : Int) < 0) := by omega
  have h3 : (l.length : Int) - (a : Int) < (n : Int) := by omega
  have h4 : IntKind.i64.wrap ((l.length : Int) - (a : Int)) = (l.length : Int) - (a : Int) := by rw [IntKind.wrap_i64]; omega
  clear h
  go_enter Tryd.func66, Tryd.ntmps66
  go_wp2_with fail
  go_quiet (fail)
  clear h4
  go_wp2
  go_ret
  have hb := cell_set (i := 2) (show (w.drewN nq).heap[g]? = _ from H.out.blk) (.bool true)
  exact ⟨rfl, ⟨hb, H.out.le, H.out.ll⟩, Fr.setCell (M := fun k => k = g) (p := ⟨g, 2, none⟩) ((Fr.refl _ _).drewN nq) (fun _ => rfl) _⟩

set_option maxRecDepth 100000 in
set_option maxHeartbeats 4000000 in
theorem rrnum_ok {w : World} {n0 g n c a : Nat} {A : Option Addr} {l : List UInt8} (h : RRd w g A c l a false) (hsl : Sl w n0 A (bv l)) (hn8 : n ≤ 8) (hs : n ≤ l.length - a) :
    Calls Tryd.prog 66 #[.pointer (some ⟨g, 0, none⟩), .int .i64 (n : Int)] w fun e w' => e = .returned (.int .u64 (beVal ((l.drop a).take n) : Int)) ∧ RRd w' g A c l (a + n) false ∧ Fr (fun k => k = g) w w' := by
  have H := Lib.hid h
  have hc := (Blk.of_heap h.blk).cell
  have hf := (Blk.of_heap h.blk).free
  have hle := h.le
  have hll := h.ll
  have h1 : ¬ ((8 : Int) < (n : Int)) := by omega
  have h2 : ¬ ((n : Int) < 0) := by omega
  have h3 : decide ((l.length : Int) - (a : Int) < (n : Int)) = false := by rw [decide_eq_false_iff_not]; omega
  have h4 : IntKind.i64.wrap ((l.length : Int) - (a : Int)) = (l.length : Int) - (a : Int) := by rw [IntKind.wrap_i64]; omega
  clear h
  go_enter Tryd.func66, Tryd.ntmps66
  go_wp2_with fail
  go_quiet (fail)
  clear h4 h3
  go_wp2_with fail
  go_loopw [5, 6] (fun s5 s wr => ∃ k : Nat, k ≤ n ∧ s = .int .i64 (k : Int) ∧ s5 = .int .u64 (beVal (((l.drop a).take n).take k) : Int) ∧ ∃ q, wr = w.drewN q) (fun _ s _ => n - (intOf s).toNat)
  case atStart => exact ⟨0, Nat.zero_le _, rfl, rfl, nq, rfl⟩
  case round =>
    obtain ⟨k, hk, rfl, rfl, q, rfl⟩ := hrel
    by_cases hlt : k < n
    · have hdl : k < ((l.drop a).take n).length := by rw [List.length_take, List.length_drop]; omega
      have hal : a + k < l.length := by omega
      obtain ⟨b1, o1, rfl, hb1, hc1⟩ := hsl.byte hal
      have hi : (k : Int) < (n : Int) := by omega
      obtain ⟨m, hm⟩ : ∃ m, beVal (((l.drop a).take n).take k) = m := ⟨_, rfl⟩
      have hml : m < 256 ^ 7 := by
        rw [← hm]
        refine Nat.lt_of_lt_of_le (beVal_lt _) (Nat.pow_le_pow_right (by decide) ?_)
        simp; omega
      have hnx : beVal (((l.drop a).take n).take (k + 1)) = m * 256 + l[a + k].toNat := by
        rw [List.take_succ_eq_append_getElem hdl, beVal_snoc, hm, List.getElem_take, List.getElem_drop]
      have HNX := Lib.hid hnx
      rw [hm]
      obtain ⟨x, hx⟩ : ∃ x, l[a + k] = x := ⟨_, rfl⟩
      rw [hx] at hc1 HNX
      clear hm hnx hx
      have g1 : IntKind.i64.wrap ((a : Int) + (k : Int)) = (a : Int) + (k : Int) := by rw [IntKind.wrap_i64]; omega
      have g2 : (0 : Int) ≤ (a : Int) + (k : Int) := by omega
      have g3 : ((a : Int) + (k : Int)).toNat = a + k := by omega
      have g4 : (a : Int) + (k : Int) < (l.length : Int) := by omega
      have g5 := be_go m x hml
      go_wp2_with fail
      go_quiet (fail)
      clear g1 g3
      go_wp2
      go_roundw
      case rel => exact ⟨k + 1, by omega, by simp, by rw [HNX.out]; exact congrArg (Value.int .u64) (be_go2 m x hml), _, rfl⟩
      case measure => simp [intOf]; omega
    · have hkn : k = n := by omega
      subst hkn
      rw [show ((l.drop a).take k).take k = (l.drop a).take k from List.take_of_length_le (by rw [List.length_take]; omega)]
      go_wp2
      go_ret
      have hb := cell_set (i := 1) (show (w.drewN q).heap[g]? = _ from H.out.blk) (.int .i64 ((a : Int) + (k : Int)))
      refine ⟨rfl, ⟨?_, by omega, H.out.ll⟩, Fr.setCell (M := fun k => k = g) (p := ⟨g, 1, none⟩) ((Fr.refl _ _).drewN q) (fun _ => rfl) _⟩
      rw [hb, Int.natCast_add]
      rfl

theorem rrnum_is {w : World} {g n x : Nat} {s r : PS} (h : RR w g s) (hx : IsNum n s x r) (hn8 : n ≤ 8) :
    Calls Tryd.prog 66 #[.pointer (some ⟨g, 0, none⟩), .int .i64 (n : Int)] w fun e w' => e = .returned (.int .u64 (x : Int)) ∧ RR w' g r ∧ Fr (fun k => k = g) w w' := by
  obtain ⟨A, c, l, a, q, h1, h2, rfl⟩ := h
  have hg : g < w.heap.size := (Array.getElem?_eq_some_iff.1 h1.blk).1
  unfold IsNum at hx
  cases q
  · change pnum n (some (l.drop a)) = _ at hx
    change (if (l.drop a).length < n then ((0, none) : Nat × PS) else (beVal ((l.drop a).take n), some ((l.drop a).drop n))) = _ at hx
    rw [List.length_drop] at hx
    by_cases hs : l.length - a < n
    · rw [if_pos hs] at hx
      obtain ⟨rfl, rfl⟩ := Prod.mk.inj hx
      refine (rrnum_short h1 hn8 hs).mono ?_
      rintro e w' ⟨rfl, h5, hf⟩
      exact ⟨rfl, ⟨A, c, l, a, true, h5, h2.keep h1.blk (by decide) hf, rfl⟩, hf⟩
    · rw [if_neg hs] at hx
      obtain ⟨rfl, rfl⟩ := Prod.mk.inj hx
      refine (rrnum_ok h1 h2.sl hn8 (by omega)).mono ?_
      rintro e w' ⟨rfl, h5, hf⟩
      exact ⟨rfl, ⟨A, c, l, a + n, false, h5, h2.keep h1.blk (by decide) hf, by rw [List.drop_drop]; rfl⟩, hf⟩
  · change ((0, none) : Nat × PS) = _ at hx
    obtain ⟨rfl, rfl⟩ := Prod.mk.inj hx
    refine (rrnum_wrong h1 hn8).mono ?_
    rintro e w' ⟨rfl, h5, hf⟩
    exact ⟨rfl, ⟨A, c, l, a, true, h5, h2.keep h1.blk (by decide) hf, rfl⟩, hf⟩

theorem RR.turn {w : World} {g : Nat} {s : PS} (h : RR w g s) : RR (w.setCell ⟨g, 2, none⟩ (.bool true)) g none ∧ Fr (fun k => k = g) w (w.setCell ⟨g, 2, none⟩ (.bool true)) := by
  obtain ⟨A, c, l, a, q, h1, h2, h4⟩ := h
  have hg : g < w.heap.size := (Array.getElem?_eq_some_iff.1 h1.blk).1
  have hf : Fr (fun k => k = g) w (w.setCell ⟨g, 2, none⟩ (.bool true)) := Fr.setCell (M := fun k => k = g) (p := ⟨g, 2, none⟩) (Fr.refl _ _) (fun _ => rfl) _
  exact ⟨⟨A, c, l, a, true, ⟨cell_set h1.blk _, h1.le, h1.ll⟩, h2.keep h1.blk (by decide) hf, rfl⟩, hf⟩
theorem RR.cells {w : World} {g : Nat} {s : PS} (h : RR w g s) : ∃ A c l a q, (∀ i, w.cell? ⟨g, i, none⟩ = (#[.slice A l c, .int .i64 a, .bool q] : Array Value)[i]?) ∧ ∀ i, w.frozen? ⟨g, i, none⟩ = false := by
  obtain ⟨A, c, l, a, q, h1, h2, h4⟩ := h
  exact ⟨A, c, l.length, a, q, (Blk.of_heap h1.blk).cell, (Blk.of_heap h1.blk).free⟩


set_option maxHeartbeats 1000000 in
theorem rrcount_is {w : World} {g m x : Nat} {s r : PS} (h : RR w g s) (hx : IsCount m s x r) (hm : m ≤ 1000000) :
    Calls Tryd.prog 67 #[.pointer (some ⟨g, 0, none⟩), .int .i64 (m : Int)] w fun e w' => e = .returned (.int .i64 (x : Int)) ∧ RR w' g r ∧ Fr (fun k => k = g) w w' := by
  obtain ⟨y, r0, h0⟩ := isNum 4 s
  have hlt : y < 4294967296 := h0.lt
  have hp : pcount m s = if m < y then (0, none) else (y, r0) := by unfold pcount; rw [show pnum 4 s = (y, r0) from h0]
  rw [IsCount, hp] at hx
  have H := Lib.hid h
  have HX := Lib.hid hx
  have H0 := Lib.hid h0
  clear h hx h0 hp
  by_cases h1 : m < y
  · have hi : (m : Int) < (y : Int) := by omega
    have hx := HX.out
    rw [if_pos h1] at hx
    obtain ⟨rfl, rfl⟩ := Prod.mk.inj hx
    clear hx HX
    go_enter Tryd.func67, Tryd.ntmps67
    go_wp2_with fail
    refine (rrnum_is H.out H0.out (by decide)).mono ?_
    rintro e w' ⟨rfl, h2, hf⟩
    have H2 := Lib.hid h2
    obtain ⟨A, c, l, a, q, hc, hfz⟩ := h2.cells
    clear h2
    go_wp2
    go_ret
    exact ⟨rfl, H2.out.turn.1, hf.trans H2.out.turn.2 (fun _ _ e => e)⟩
  · have hi : ¬ ((m : Int) < (y : Int)) := by omega
    have hx := HX.out
    rw [if_neg h1] at hx
    obtain ⟨rfl, rfl⟩ := Prod.mk.inj hx
    clear hx HX
    go_enter Tryd.func67, Tryd.ntmps67
    go_wp2_with fail
    refine (rrnum_is H.out H0.out (by decide)).mono ?_
    rintro e w' ⟨rfl, h2, hf⟩
    go_wp2
    go_ret
    exact ⟨rfl, h2, hf⟩

set_option maxHeartbeats 1000000 in
theorem rrend_any {w : World} {g : Nat} {s : PS} (h : RR w g s) :
    Calls Tryd.prog 68 #[.pointer (some ⟨g, 0, none⟩)] w fun e w' => e = .returned (.int .i64 (if s = some [] then 0 else 3)) ∧ ∃ n, w' = w.drewN n := by
  obtain ⟨A, c, l, a, q, h1, h2, rfl⟩ := h
  have hc := (Blk.of_heap h1.blk).cell
  have hle := h1.le
  have hll := h1.ll
  clear h1 h2
  cases q
  · by_cases ha : a = l.length
    · have hd : decide (a < l.length) = false := by rw [decide_eq_false_iff_not]; omega
      rw [if_pos (by simp [ha])]
      clear ha
      go_enter Tryd.func68, Tryd.ntmps68
      go_wp2_with fail
      go_quiet (fail)
      go_wp2
      go_ret
      exact ⟨rfl, _, rfl⟩
    · have hd : (a : Int) < (l.length : Int) := by omega
      rw [if_neg (by simp; omega)]
      clear ha
      go_enter Tryd.func68, Tryd.ntmps68
      go_wp2_with fail
      go_quiet (fail)
      go_wp2
      go_ret
      exact ⟨rfl, _, rfl⟩
  · rw [if_neg (by simp)]
    go_enter Tryd.func68, Tryd.ntmps68
    go_wp2_with fail
    go_quiet (fail)
    go_wp2
    go_ret
    exact ⟨rfl, _, rfl⟩
end Go.Proofs.YtohahhijbneheaaDoor
