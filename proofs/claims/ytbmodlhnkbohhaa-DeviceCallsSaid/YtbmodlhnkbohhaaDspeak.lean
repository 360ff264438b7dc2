/- tidelinelaw08.speaks. -/
import Derived.Test.YtbmodlhnkbohhaaDevS
import Derived.Lib.SlBytesConst
import Derived.Laws.BytesArg
namespace Go.Proofs.Ytbmodlhnkbohhaa
open Go.RowKit
set_option linter.unusedVariables false

theorem crash_spk (p : Pg) (hp : p.is = 1) : crashPs [2] 0 [p] = [⟨2, none, 0, []⟩] := by
  simp [crashPs, stage, crPg, pickAt, trimPs]
theorem wh_two (a b : Pg) (ha : a.is = 2) (hb : b.is = 1) : wh [a, b] = [b] := by simp [wh, ha, hb]

/-- A row of one bytes value. -/
theorem one_row {w : World} {base : Nat} {v : Value} {qs : List Pg} {l : List UInt8} (h : w.ownsRow base 23 1 v qs.length (qs.map Pg.sl)) (hl : qs.map (·.l) = [l]) (hq : ∀ q ∈ qs, q.ok w base) :
    ∃ gg cap A c, v = .slice (some ⟨gg, 0, none⟩) 1 cap ∧ w.cell? ⟨gg, 0, none⟩ = some (.slice A l.length c) ∧ Sl w w.heap.size A (bv l) := by
  obtain ⟨q, rfl⟩ : ∃ q, qs = [q] := by
    cases qs with
    | nil => simp at hl
    | cons q r => cases r with
      | nil => exact ⟨q, rfl⟩
      | cons _ _ => simp at hl
  have e : q.l = l := by simpa using hl
  subst e
  have hok := hq q (by simp)
  rcases h.2 with ⟨_, h0⟩ | ⟨gg, cap, cur, rfl, hb, hh, hn, hc, hsz, ht⟩
  · simp at h0
  · refine ⟨gg, cap, q.A, q.c, rfl, ?_, Sl.of_own hok⟩
    have hu : (List.take ([q].length * 1) cur.toList)[0]? = some q.sl := by rw [ht]; rfl
    rw [List.getElem?_take] at hu
    simp at hu
    rw [cell_of_row w gg 0 cur _ (0, 0) hh]
    exact hu

set_option maxRecDepth 100000 in
set_option maxHeartbeats 4000000 in
theorem dspeak_any (w : World) :
    Calls Try.prog 10 #[] w fun e w' => e = .returned (.bool true) ∧ Below w.heap.size w w' := by
  have kc := fun (w : World) (C : Array Value) (n c : Nat) => Lib.run_convert_bytes_const (P := Try.prog) w 23 5 C n c Try.underlying23 Try.underlying5
  go_enter Try.func10, Try.ntmps10
  go_wp2_with fail
  refine (new_ok 5 (by omega) (by omega) _).mono ?_
  rintro e w' ⟨rfl, rfl⟩
  have D0 := Lib.hid (new_dev w w.heap.size 5 (Nat.le_refl _) (by omega))
  obtain ⟨W0, hW0⟩ : ∃ W, w.alloc (.cells #[.int .i64 ((5 : Nat) : Int), .slice none 0 0, .int .i64 0] 74) = W := ⟨_, rfl⟩
  have B0 : Below w.heap.size w W0 := by rw [← hW0]; exact (Below.refl _ _).alloc (Nat.le_refl _) _
  rw [hW0] at D0 ⊢
  go_wp2_with fail
  have D0' := D0.out.below ((Below.refl _ W0).alloc (Nat.le_refl _) (.cells (bv [97]).toArray 5 ((bv [97]).toArray.size, (bv [97]).toArray.size + 1)))
  have B0' := B0.alloc B0.size (.cells (bv [97]).toArray 5 ((bv [97]).toArray.size, (bv [97]).toArray.size + 1))
  refine (append_s D0' (by simp) (some ⟨W0.heap.size, 0, none⟩) 1 (W0.heap.size + 1) [97] (Sl.new_block W0 [97] _) (by simp) (by simp) (by simp) B0'.size).mono ?_
  rintro e W1 ⟨rfl, v1, p1, hp1, hl1, D1, hb1⟩
  have B1 := B0'.trans hb1
  clear D0' D0 hW0 hb1
  have D1 := Lib.hid D1
  go_wp2_with fail
  have hblk := heap_alloc_new W1 (.cells (bv [2]).toArray 5)
  have D1' := D1.out.below ((Below.refl _ W1).alloc (Nat.le_refl _) (.cells (bv [2]).toArray 5))
  have B1' := B1.alloc B1.size (.cells (bv [2]).toArray 5)
  refine (crash_s D1' B1'.size (some ⟨W1.heap.size, 0, none⟩) 1 (W1.heap.size + 1) [2] (fun W hf => Sl.of_block (hf.cells hblk (D1'.bytes hblk))) (by simp)).mono ?_
  rintro e W2 ⟨rfl, v2, D2, hb2⟩
  rw [List.nil_append, crash_spk p1 hp1] at D2
  have B2 := B1'.trans hb2
  clear D1' D1 hblk hb2
  have D2 := Lib.hid D2
  go_wp2_with fail
  have D2' := D2.out.below ((Below.refl _ W2).alloc (Nat.le_refl _) (.cells (bv [98]).toArray 5 ((bv [98]).toArray.size, (bv [98]).toArray.size + 1)))
  have B2' := B2.alloc B2.size (.cells (bv [98]).toArray 5 ((bv [98]).toArray.size, (bv [98]).toArray.size + 1))
  refine (append_s D2' (by simp) (some ⟨W2.heap.size, 0, none⟩) 1 (W2.heap.size + 1) [98] (Sl.new_block W2 [98] _) (by simp) (by simp) (by simp) B2'.size).mono ?_
  rintro e W3 ⟨rfl, v3, p3, hp3, hl3, D3, hb3⟩
  have B3 := B2'.trans hb3
  clear D2' D2 hb3
  have S3 : Short ([⟨2, none, 0, []⟩] ++ [p3]) := (Short.app (ps := [⟨2, none, 0, []⟩]) (by intro q hq; simp at hq; subst hq; simp) (by rw [hl3]; simp))
  have D3 := Lib.hid D3
  go_wp2_with fail
  refine (pages_s D3.out S3).mono ?_
  rintro e W4 ⟨v4, qs, rfl, hrow, hls, hq, hb4⟩
  have B4 := B3.trans (hb4.mono B3.size)
  have D4 := Lib.hid (D3.out.below hb4)
  rw [show ([⟨2, none, 0, []⟩] ++ [p3] : List Pg) = [⟨2, none, 0, []⟩, p3] from rfl, wh_two _ _ rfl hp3] at hls
  obtain ⟨gg, cap, A, c, rfl, hcell, hsl⟩ := one_row (l := [98]) hrow (hls.trans (by simp [hl3])) hq
  obtain ⟨b, o, rfl, hbl, hcb⟩ := hsl.byte (k := 0) (by simp)
  have hcv := run_convert_bytes_arg (P := Try.prog) W4 23 5 Try.underlying23 Try.underlying5 b o 1 c ([98] : List Int) (by simp) (fun i hi => by cases i with | zero => simpa using hcb | succ i => omega) 9 Try.underlying9
  have hst : strOfNums [98] = ⟨#[98]⟩ := rfl
  rw [hst] at hcv
  clear D3 S3 hrow hls hq hb4 hsl hcb hst
  go_wp2_with fail
  refine (free_any D4.out).mono ?_
  rintro e W5 ⟨rfl, nf, rfl⟩
  go_wp2
  go_ret
  exact ⟨rfl, bdrewN B4 _⟩
end Go.Proofs.Ytbmodlhnkbohhaa
