/- octet's Writer: width, Byte, Number, Out. -/
import Derived.Test.YtjkilpjdgjijiaaDoorInts
import Derived.Test.YtjkilpjdgjijiaaDoorFrame
import Derived.Test.YtjkilpjdgjijiaaDoorClone
import Derived.Deep.AppendLies
namespace Go.Proofs.YtjkilpjdgjijiaaDoor
open Go.RowKit
set_option linter.unusedVariables false

/-- A writer at block g: what was put into it. -/
structure Wr (w : World) (n0 g : Nat) (v : Value) (l : List UInt8) : Prop where
  ge : n0 ≤ g
  blk : w.heap[g]? = some (.cells #[v] 72 (0, 0))
  row : w.ownsRow n0 5 1 v l.length (bv l)
theorem Wr.lt {w : World} {n0 g : Nat} {v : Value} {l : List UInt8} (h : Wr w n0 g v l) : g < w.heap.size := (Array.getElem?_eq_some_iff.1 h.blk).1
theorem Wr.below {w w' : World} {n0 g : Nat} {v : Value} {l : List UInt8} (h : Wr w n0 g v l) (hb : Below w.heap.size w w') : Wr w' n0 g v l :=
  ⟨h.ge, (Fr.of_below (M := fun _ => False) hb).cells h.blk fun x => x, (Fr.of_below (M := fun _ => False) hb).owns h.row fun _ _ x => x⟩

theorem width_ok (n : Nat) (hn : n ≤ 8) (w : World) : Calls Tryd.prog 71 #[.int .i64 (n : Int)] w fun e w' => e = .returned (.int .i64 (n : Int)) ∧ w' = w := by
  have h1 : ¬ ((n : Int) < 0) := by omega
  have h2 : ¬ ((8 : Int) < (n : Int)) := by omega
  go_enter Tryd.func71, Tryd.ntmps71
  go_wp2
  go_ret
  exact ⟨rfl, rfl⟩

theorem wr_close {w w2 : World} {n0 g gg cap : Nat} {v : Value} {l : List UInt8} {x : UInt8} {o : Obj} (H : Wr w n0 g v l) (hn0 : n0 ≤ w.heap.size)
    (hown : w2.ownsRow n0 5 1 (.slice (some ⟨gg, 0, none⟩) (l.length + 1) cap) (l.length + 1) (bv l ++ [.int .u8 (x.toNat : Int)])) (hgrow : (w.alloc o).grownBy w2 v.ownBlock) :
    ∃ v', Wr (w2.setCell ⟨g, 0, none⟩ (.slice (some ⟨gg, 0, none⟩) (l.length + 1) cap)) n0 g v' (l ++ [x]) ∧ Below n0 w (w2.setCell ⟨g, 0, none⟩ (.slice (some ⟨gg, 0, none⟩) (l.length + 1) cap)) := by
  have hne : some g ≠ v.ownBlock := fun e => owns_ne H.row H.blk (by decide) e.symm
  have hblk : w2.heap[g]? = some (.cells #[v] 72 (0, 0)) :=
    (hgrow.block g (by simp; have := H.lt; omega) hne).trans ((Below.heap_alloc _ _ g H.lt).trans H.blk)
  have f2 : Fr (fun k => k = g) w2 (w2.setCell ⟨g, 0, none⟩ (.slice (some ⟨gg, 0, none⟩) (l.length + 1) cap)) := Fr.setCell (M := fun k => k = g) (p := ⟨g, 0, none⟩) (Fr.refl _ _) (fun _ => rfl) _
  refine ⟨.slice (some ⟨gg, 0, none⟩) (l.length + 1) cap, ⟨H.ge, cell_set hblk _, ?_⟩, ?_⟩
  · rw [List.length_append, bv_app]
    exact f2.owns hown (fun k hk e => owns_ne hown hblk (by decide) (by rw [hk, e]))
  · have hb1 : Below n0 w w2 := (((Below.refl n0 w).alloc hn0 o)).grown hgrow (by simp; omega) (fun k hk => by
      rcases H.row.2 with ⟨e, _⟩ | ⟨g', c', cur, e, hb', _⟩
      · rw [e] at hk; simp [Value.ownBlock] at hk
      · rw [e] at hk; simp [Value.ownBlock] at hk; omega)
    exact hb1.setCell (p := ⟨g, 0, none⟩) H.ge _

set_option maxHeartbeats 1000000 in
theorem byte_ok {w : World} {n0 g : Nat} {v : Value} {l : List UInt8} (h : Wr w n0 g v l) (x : UInt8) (hl : l.length ≤ 70368744177663) (hn0 : n0 ≤ w.heap.size) :
    Calls Tryd.prog 37 #[.pointer (some ⟨g, 0, none⟩), .int .u8 (x.toNat : Int)] w fun e w' => e = .returned (.tuple #[]) ∧ ∃ v', Wr w' n0 g v' (l ++ [x]) ∧ Below n0 w w' := by
  have H := Lib.hid h
  have hc := (Blk.of_heap h.blk).cell 0
  have h63 : l.length + 1 ≤ maxLen := by unfold maxLen; omega
  have hby : (l.length + 1) * 1 ≤ 140737488355328 := by omega
  have H63 := Lib.hid h63
  have HBY := Lib.hid hby
  clear h h63 hby
  go_enter Tryd.func37, Tryd.ntmps37
  go_wp2_with (at_builtin; obtain ⟨i0, hi, hz0, hz1, hz2⟩ := info_parts Tryd.info_u8; refine wpList_append_lies _ rfl _ _ 22 rfl n0 5 i0 _ 1 1 Tryd.underlying22 hi hz0 hz1 hz2 rfl (by decide) v l.length (bv l) rfl (H.out.row.alloc _) ⟨w.heap.size, 0, none⟩ 1 1 [.int .u8 (x.toNat : Int)] rfl rfl (World.news_of_block (cs := #[.int .u8 (x.toNat : Int)]) (t := 5) (fr := (0, 0)) (heap_alloc_new w _)) (by simp [Value.oneCell']) (by omega) H63.out HBY.out (by simp; omega) (w.heap.size + 1) (by simp) ?_; intro gg cap w2 hown2 hgrow hat hlt2; clear hi hz0 hz1 hz2 i0; have hne : some g ≠ v.ownBlock := fun e => owns_ne H.out.row H.out.blk (by decide) e.symm; have hblk : w2.heap[g]? = some (.cells #[v] 72 (0, 0)) := (hgrow.block g (by simp; have := H.out.lt; omega) hne).trans ((Below.heap_alloc _ _ g H.out.lt).trans H.out.blk); have hc2 := (Blk.of_heap hblk).cell 0; have hf2 := (Blk.of_heap hblk).free 0)
  go_end0
  exact ⟨rfl, wr_close H.out hn0 hown2 hgrow⟩

theorem out_ok {w : World} {n0 g : Nat} {v : Value} {l : List UInt8} (h : Wr w n0 g v l) (hl : l.length ≤ 70368744177664) (hn0 : n0 ≤ w.heap.size) :
    Calls Tryd.prog 41 #[.pointer (some ⟨g, 0, none⟩)] w fun e w' => NewBytes w.heap.size l e w' ∧ Below w.heap.size w w' := by
  have hc := (Blk.of_heap h.blk).cell 0
  obtain ⟨A, c, rfl⟩ := own_form h.row
  have hcl := clone_bytes A c w.heap.size l w (Sl.of_own h.row) (fun e => by
    rcases h.row.2 with ⟨e', _⟩ | ⟨g', c', cur, e', _⟩
    · injection e'
    · injection e' with e1; rw [e] at e1; cases e1) hl (Nat.le_refl _)
  have HC := Lib.hid hcl
  clear h hcl
  go_enter Tryd.func41, Tryd.ntmps41
  go_wp2_with fail
  refine HC.out.mono ?_
  rintro e w' ⟨⟨A1, c1, rfl, hown⟩, hb⟩
  go_wp2
  go_ret
  exact ⟨⟨A1, c1, rfl, hown⟩, hb⟩

/-- The bytes of a number, the great end first. -/
def beBytes (v : Nat) (n : Nat) : List UInt8 := (List.range n).map fun i => UInt8.ofNat (v / 256 ^ (n - 1 - i))

theorem be_at (x n k : Nat) (h : k < (beBytes x n).length) : (x : Int) / 2 ^ (8 * (n - 1 - k)) % 256 = (((beBytes x n)[k]).toNat : Int) := by
  have e : ((beBytes x n)[k]).toNat = x / 2 ^ (8 * (n - 1 - k)) % 256 := by
    simp [beBytes, Nat.pow_mul]
  rw [e, Int.natCast_emod, Int.natCast_ediv, Int.natCast_pow]
  rfl

set_option maxRecDepth 100000 in
set_option maxHeartbeats 1000000 in
theorem number_ok {w : World} {n0 g : Nat} {v : Value} {l : List UInt8} (h : Wr w n0 g v l) (x n : Nat) (hx : x < 18446744073709551616) (hn : n ≤ 8) (hl : l.length ≤ 70368744177000) (hn0 : n0 ≤ w.heap.size) :
    Calls Tryd.prog 59 #[.pointer (some ⟨g, 0, none⟩), .int .u64 (x : Int), .int .i64 (n : Int)] w fun e w' => e = .returned (.tuple #[]) ∧ ∃ v', Wr w' n0 g v' (l ++ beBytes x n) ∧ Below n0 w w' := by
  have H := Lib.hid h
  clear h
  go_enter Tryd.func59, Tryd.ntmps59
  go_wp2_with fail
  refine (width_ok n hn w).mono ?_
  rintro e w' ⟨rfl, rfl⟩
  go_wp2_with fail
  go_loopw [10] (fun s wr => ∃ k : Nat, k ≤ n ∧ s = .int .i64 (k : Int) ∧ ∃ v', Hid (Wr wr n0 g v' (l ++ (beBytes x n).take k)) ∧ Below n0 w' wr) (fun s _ => n - (intOf s).toNat)
  case atStart => exact ⟨0, Nat.zero_le _, rfl, v, by simpa using H, Below.refl _ _⟩
  case round =>
    obtain ⟨k, hk, rfl, v', hw, hb⟩ := hrel
    by_cases hlt : k < n
    · have hi : (k : Int) < (n : Int) := by omega
      have hkl : k < (beBytes x n).length := by simp [beBytes]; exact hlt
      have hval := be_at x n k hkl
      go_wp2_with fail
      rw [hval]
      clear hval
      refine (byte_ok hw.out ((beBytes x n)[k]) (by simp [beBytes]; omega) (Nat.le_trans hn0 hb.size)).mono ?_
      rintro e w3 ⟨rfl, v3, hw3, hb3⟩
      go_wp2_with fail
      go_roundw
      case rel => exact ⟨k + 1, by omega, by simp, v3, Lib.hid (by rw [List.take_succ_eq_append_getElem hkl, ← List.append_assoc]; exact hw3), hb.trans hb3⟩
      case measure => simp [intOf]; omega
    · obtain rfl : k = n := by omega
      go_wp2_with fail
      go_end0
      refine ⟨rfl, v', ?_, hb⟩
      have := hw.out
      rwa [List.take_of_length_le (by simp [beBytes])] at this
end Go.Proofs.YtjkilpjdgjijiaaDoor
