/- tidelineref08: the document's device in memory; New, Next. -/
import Derived.Test.YtbmodlhnkbohhaaDevS
import Derived.Deep.OwnRows
namespace Go.Proofs.Ytbmodlhnkbohhaa
open Go.RowKit
set_option linter.unusedVariables false

/-- A page of the document's device. -/
structure Rp where
  st : Nat
  A : Option Addr
  c : Nat
  l : List UInt8
  la : Bool
abbrev Rp.cells (p : Rp) : List Value := [.int .i64 (p.st : Int), .slice p.A p.l.length p.c, .bool p.la]
def rcells (ps : List Rp) : List Value := ps.flatMap Rp.cells
theorem rcells_len (a : List Rp) : (rcells a).length = a.length * 3 := by
  induction a with
  | nil => rfl
  | cons p a ih =>
    have : rcells (p :: a) = p.cells ++ rcells a := rfl
    rw [this, List.length_append, ih, List.length_cons]
    show 3 + a.length * 3 = (a.length + 1) * 3
    omega
theorem rcells_at (ps : List Rp) (k : Nat) (p : Rp) (h : ps[k]? = some p) : (rcells ps)[k * 3]? = some (.int .i64 (p.st : Int)) ∧ (rcells ps)[k * 3 + 1]? = some (.slice p.A p.l.length p.c) ∧ (rcells ps)[k * 3 + 2]? = some (.bool p.la) := by
  induction ps generalizing k with
  | nil => simp at h
  | cons q ps ih =>
    have e : rcells (q :: ps) = q.cells ++ rcells ps := rfl
    have hq : q.cells.length = 3 := rfl
    cases k with
    | zero =>
      simp at h
      subst h
      simp [e, Rp.cells]
    | succ k =>
      have h' : ps[k]? = some p := by simpa using h
      have hi := ih k h'
      rw [e]
      refine ⟨?_, ?_, ?_⟩
      · rw [List.getElem?_append_right (by rw [hq]; omega), hq, show (k + 1) * 3 - 3 = k * 3 by omega]; exact hi.1
      · rw [List.getElem?_append_right (by rw [hq]; omega), hq, show (k + 1) * 3 + 1 - 3 = k * 3 + 1 by omega]; exact hi.2.1
      · rw [List.getElem?_append_right (by rw [hq]; omega), hq, show (k + 1) * 3 + 2 - 3 = k * 3 + 2 by omega]; exact hi.2.2

/-- The document's device at block g, its pages in block R. -/
structure RDev (w : World) (n0 g R : Nat) (rs : List Rp) : Prop where
  ge : n0 ≤ g
  geR : n0 ≤ R
  ne : g ≠ R
  blk : w.heap[g]? = some (.cells #[.slice (some ⟨R, 0, none⟩) rs.length rs.length] 84 (0, 0))
  row : w.heap[R]? = some (.cells (rcells rs).toArray 86 (0, 0))
  pgs : ∀ p ∈ rs, w.ownsRow n0 5 1 (.slice p.A p.l.length p.c) p.l.length (bv p.l)
  rm : rs.length ≤ 200
theorem RDev.cellAt {w : World} {n0 g R : Nat} {rs : List Rp} (h : RDev w n0 g R rs) {k : Nat} {u : Value} (hu : (rcells rs)[k]? = some u) : w.cell? ⟨R, k, none⟩ = some u := by
  rw [(Blk.of_heap h.row).cell k]
  simpa using hu

def rnext : Nat → List Rp → Nat
  | 0, _ => 0
  | n + 1, rs => if (rs.map (·.st)).getD n 1 = 0 then rnext n rs else n + 1
theorem rnext_step (n : Nat) (rs : List Rp) (h : n < rs.length) : rnext (n + 1) rs = if rs[n].st = 0 then rnext n rs else n + 1 := by
  show (if (rs.map (·.st)).getD n 1 = 0 then rnext n rs else n + 1) = _
  simp [List.getD, h]

set_option maxRecDepth 100000 in
set_option maxHeartbeats 1000000 in
theorem rnext_any {w : World} {n0 g R : Nat} {rs : List Rp} (h : RDev w n0 g R rs) :
    Calls Try.prog 26 #[.pointer (some ⟨g, 0, none⟩)] w fun e w' => e = .returned (.int .i64 (rnext rs.length rs : Int)) ∧ w' = w := by
  have hc := (Blk.of_heap h.blk).cell 0
  have hrm := h.rm
  have H := Lib.hid h
  clear h
  go_enter Try.func26, Try.ntmps26
  go_wp2_with fail
  go_loopw [3] (fun s wr => ∃ k : Nat, k ≤ rs.length ∧ s = .int .i64 (k : Int) ∧ Hid (rnext rs.length rs = rnext k rs) ∧ wr = w) (fun s _ => (intOf s).toNat)
  case atStart => exact ⟨rs.length, Nat.le_refl _, rfl, rfl, rfl⟩
  case round =>
    obtain ⟨k, hk, rfl, hq, rfl⟩ := hrel
    cases k with
    | zero =>
      go_wp2_with fail
      go_ret
      exact ⟨by first | (rw [hq.out]; done) | (rw [hq.out]; rfl), rfl⟩
    | succ k =>
      have hkl : k < rs.length := hk
      have hcell := H.out.cellAt (rcells_at rs k rs[k] (List.getElem?_eq_getElem hkl)).1
      obtain ⟨t, et⟩ : ∃ t, ((rs[k].st : Int) == 0) = t := ⟨_, rfl⟩
      have hp1 : (0 : Int) < ((k + 1 : Nat) : Int) := by omega
      have hp2 : (k : Int) < ((rs.length : Nat) : Int) := by omega
      cases t
      · have hn : Hid (rnext rs.length rs = k + 1) := by
          show _ = _
          rw [hq.out, rnext_step k rs hkl, if_neg (by intro e; rw [e] at et; cases et)]
        go_wp2_with fail
        go_ret
        exact ⟨by first | (rw [hn.out]; done) | (rw [hn.out]; rfl), rfl⟩
      · have hn : Hid (rnext rs.length rs = rnext k rs) := by
          show _ = _
          rw [hq.out, rnext_step k rs hkl, if_pos (by have := beq_iff_eq.1 et; omega)]
        go_wp2_with fail
        go_roundw
        case rel => exact ⟨k, by omega, by simp, hn, trivial⟩
        case measure => first | (simp [intOf]; done) | (simp [intOf]; omega)

theorem Try.info_rpage : (Try.prog.info? 86).map (fun i => (i.zero, i.size, i.bytes)) = some (some (.agg #[.int .i64 0, .slice none 0 0, .bool false]), 3, 40) := by kernel_rfl
abbrev rzero : Rp := ⟨0, none, 0, [], false⟩
theorem rcells_get : ∀ (l : List Rp) (k : Nat), (rcells l)[k]? = (l[k / 3]?).bind fun x => x.cells[k % 3]?
  | [], k => by simp [rcells]
  | q :: l, k => by
    have e : rcells (q :: l) = q.cells ++ rcells l := rfl
    have hq : q.cells.length = 3 := rfl
    rw [e]
    rcases Nat.lt_or_ge k 3 with hk | hk
    · rw [List.getElem?_append_left (by rw [hq]; exact hk), show k / 3 = 0 by omega, show k % 3 = k by omega]
      rfl
    · rw [List.getElem?_append_right (by rw [hq]; exact hk), hq, rcells_get l (k - 3), show k / 3 = (k - 3) / 3 + 1 by omega, show k % 3 = (k - 3) % 3 by omega]
      rfl
theorem made_rpages (n : Nat) : madeCells (Value.agg #[.int .i64 0, .slice none 0 0, .bool false]).cells (n * 3) = (rcells (List.replicate n rzero)).toArray := by
  apply Array.ext
  · simp [madeCells, rcells_len]
  · intro i h1 h2
    have hi : i < n * 3 := by simpa [madeCells] using h1
    have h3 := rcells_get (List.replicate n rzero) i
    rw [List.getElem?_replicate, if_pos (by omega)] at h3
    have h4 : (rcells (List.replicate n rzero))[i]? = (rzero.cells)[i % 3]? := h3
    have hm : i % 3 < 3 := Nat.mod_lt _ (by decide)
    have h5 : (madeCells (Value.agg #[.int .i64 0, .slice none 0 0, .bool false]).cells (n * 3))[i]? = (rzero.cells)[i % 3]? := by
      simp only [madeCells, Value.cells, Array.getElem?_map, Array.getElem?_range, if_pos hi]
      rcases (by omega : i % 3 = 0 ∨ i % 3 = 1 ∨ i % 3 = 2) with e | e | e <;> simp [e, Rp.cells]
    have h6 : (rcells (List.replicate n rzero)).toArray[i]? = (rzero.cells)[i % 3]? := by simpa using h4
    rw [Array.getElem?_eq_getElem h1] at h5
    rw [Array.getElem?_eq_getElem h2] at h6
    exact Option.some.inj (h5.trans h6.symm)

set_option maxHeartbeats 1000000 in
theorem rnew_ok (n : Nat) (hn : n ≤ 200) (w : World) :
    Calls Try.prog 19 #[.int .i64 (n : Int)] w fun e w' => e = .returned (.pointer (some ⟨w.heap.size + 1, 0, none⟩)) ∧ RDev w' w.heap.size (w.heap.size + 1) w.heap.size (List.replicate n rzero) ∧ Below w.heap.size w w' := by
  obtain ⟨i0, hi, hz0, hz1, hz2⟩ := info_parts Try.info_rpage
  have hmk : ∀ w, (Instr.makeSlice 82 (.int .i64 (n : Int)) (.int .i64 (n : Int))).run Try.prog w = .ok (.slice (some ⟨w.heap.size, 0, none⟩) n n) (w.alloc (.cells (rcells (List.replicate n rzero)).toArray 86)) := fun w => by
    have h := run_make (P := Try.prog) w 82 86 i0 _ Try.underlying82 hi hz0 .i64 .i64 n n (by omega) (Int.le_refl _) (by rw [hz2]; omega) (by omega)
    rw [hz1, Int.toNat_natCast, made_rpages] at h
    exact h
  clear hi hz0 hz1 hz2 i0
  go_enter Try.func19, Try.ntmps19
  go_wp2
  go_ret
  refine ⟨rfl, ⟨by omega, Nat.le_refl _, by omega, ?_, ?_, ?_, by simpa using hn⟩, ((Below.refl _ _).alloc (Nat.le_refl _) _).alloc (by simp) _⟩
  · rw [List.length_replicate]
    have h := heap_alloc_new (w.alloc (.cells (rcells (List.replicate n rzero)).toArray 86)) (.cells #[.slice (some ⟨w.heap.size, 0, none⟩) n n] 84)
    rw [World.size_alloc] at h
    exact h
  · exact (Below.heap_alloc _ _ _ (by simp)).trans (heap_alloc_new w _)
  · intro p hp
    obtain ⟨_, rfl⟩ := List.mem_replicate.1 hp
    exact World.ownsRow_nil _ _ _ _
end Go.Proofs.Ytbmodlhnkbohhaa
