/- tidelineref08: Wipe, Sync. -/
import Derived.Test.YtbmodlhnkbohhaaRdev
import Derived.StillTailTactics
namespace Go.Proofs.Ytbmodlhnkbohhaa
open Go.RowKit
set_option linter.unusedVariables false

/-- What the document's device may turn. -/
def RFr (g R : Nat) (w w' : World) : Prop := Fr (fun k => k = g ∨ k = R) w w'

set_option maxHeartbeats 1000000 in
theorem rwipe_ok {w : World} {n0 g R : Nat} {rs : List Rp} (h : RDev w n0 g R rs) (hn0 : n0 ≤ w.heap.size) :
    Calls Try.prog 23 #[.pointer (some ⟨g, 0, none⟩)] w fun e w' => e = .returned (.tuple #[]) ∧ RDev w' n0 g w.heap.size (List.replicate rs.length rzero) ∧ RFr g R w w' := by
  have hc := (Blk.of_heap h.blk).cell 0
  have hf := (Blk.of_heap h.blk).free 0
  obtain ⟨n, hn⟩ : ∃ n, rs.length = n := ⟨_, rfl⟩
  have hrm := h.rm
  have H := Lib.hid h
  rw [hn] at hc hrm
  obtain ⟨i0, hi, hz0, hz1, hz2⟩ := info_parts Try.info_rpage
  have hmk : ∀ w, (Instr.makeSlice 82 (.int .i64 (n : Int)) (.int .i64 (n : Int))).run Try.prog w = .ok (.slice (some ⟨w.heap.size, 0, none⟩) n n) (w.alloc (.cells (rcells (List.replicate n rzero)).toArray 86)) := fun w => by
    have h := run_make (P := Try.prog) w 82 86 i0 _ Try.underlying82 hi hz0 .i64 .i64 n n (by omega) (Int.le_refl _) (by rw [hz2]; omega) (by omega)
    rw [hz1, Int.toNat_natCast, made_rpages] at h
    exact h
  have HN := Lib.hid hn
  have hgl : g < w.heap.size := (Array.getElem?_eq_some_iff.1 h.blk).1
  have hblk2 : (w.alloc (.cells (rcells (List.replicate n rzero)).toArray 86)).heap[g]? = _ := (Below.heap_alloc _ _ g hgl).trans h.blk
  have hc2 := (Blk.of_heap hblk2).cell 0
  have hf2 := (Blk.of_heap hblk2).free 0
  clear hi hz0 hz1 hz2 i0 h hn
  go_enter Try.func23, Try.ntmps23
  go_wp2
  go_end0
  rw [HN.out]
  have f2 : Fr (fun k => k = g ∨ k = R) w (w.setCell ⟨g, 0, none⟩ (.slice (some ⟨w.heap.size, 0, none⟩) n n)) := (fr_set w g 0 _).mono (fun _ _ e => .inl e)
  have hsz : (w.setCell ⟨g, 0, none⟩ (.slice (some ⟨w.heap.size, 0, none⟩) n n)).heap.size = w.heap.size := by simp [World.setCell]
  refine ⟨rfl, ⟨H.out.ge, hn0, by omega, ?_, ?_, ?_, by simpa using hrm⟩, f2.alloc _⟩
  · rw [List.length_replicate]
    exact (Below.heap_alloc _ _ g (by rw [hsz]; exact hgl)).trans (blk_set H.out.blk _)
  · have h2 := heap_alloc_new (w.setCell ⟨g, 0, none⟩ (.slice (some ⟨w.heap.size, 0, none⟩) n n)) (.cells (rcells (List.replicate n rzero)).toArray 86)
    rw [hsz] at h2
    exact h2
  · intro p hp
    obtain ⟨_, rfl⟩ := List.mem_replicate.1 hp
    exact World.ownsRow_nil _ _ _ _

/-- All lasts. -/
def rsyncTo (k : Nat) (rs : List Rp) : List Rp := rs.mapIdx fun j p => if j < k then { p with la := p.st != 0 } else p
theorem rsync_len (k : Nat) (rs : List Rp) : (rsyncTo k rs).length = rs.length := by simp [rsyncTo]
theorem rsync_zero (rs : List Rp) : rsyncTo 0 rs = rs := by
  unfold rsyncTo
  apply List.ext_getElem
  · simp
  · intro i h1 h2; simp
theorem rsync_all (rs : List Rp) : rsyncTo rs.length rs = rs.map fun p => { p with la := p.st != 0 } := by
  unfold rsyncTo
  apply List.ext_getElem
  · simp
  · intro i h1 h2
    have : i < rs.length := by simpa using h1
    simp [this]
theorem rsync_get (k : Nat) (rs : List Rp) (h : k < rs.length) : (rsyncTo k rs)[k]'(by rw [rsync_len]; exact h) = rs[k] := by simp [rsyncTo]
theorem rsync_step (k : Nat) (rs : List Rp) (h : k < rs.length) : rsyncTo (k + 1) rs = (rsyncTo k rs).set k { rs[k] with la := rs[k].st != 0 } := by
  unfold rsyncTo
  apply List.ext_getElem
  · simp
  · intro i h1 h2
    simp only [List.getElem_mapIdx, List.getElem_set]
    by_cases e : k = i
    · subst e; simp
    · simp only [if_neg e]
      by_cases hi : i < k
      · rw [if_pos (by omega), if_pos hi]
      · rw [if_neg (by omega), if_neg hi]
theorem rcells_set (rs : List Rp) (i : Nat) (p : Rp) : rcells (rs.set i p) = (((rcells rs).set (i * 3) (.int .i64 (p.st : Int))).set (i * 3 + 1) (.slice p.A p.l.length p.c)).set (i * 3 + 2) (.bool p.la) := by
  induction rs generalizing i with
  | nil => simp [rcells]
  | cons q rs ih =>
    have e : ∀ (q : Rp) l, rcells (q :: l) = q.cells ++ rcells l := fun _ _ => rfl
    cases i with
    | zero => simp [e, Rp.cells]
    | succ i =>
      rw [List.set_cons_succ, e, ih, e]
      have hq : q.cells.length = 3 := rfl
      rw [List.set_append_right _ _ (by rw [hq]; omega), hq, show (i + 1) * 3 - 3 = i * 3 by omega]
      rw [List.set_append_right _ _ (by rw [hq]; omega), hq, show (i + 1) * 3 + 1 - 3 = i * 3 + 1 by omega]
      rw [List.set_append_right _ _ (by rw [hq]; omega), hq, show (i + 1) * 3 + 2 - 3 = i * 3 + 2 by omega]

/-- One page's Lasts. -/
theorem RDev.setLa {w : World} {n0 g R : Nat} {rs : List Rp} (h : RDev w n0 g R rs) (k : Nat) (hk : k < rs.length) (b : Bool) (nq : Nat) :
    RDev ((w.drewN nq).setCell ⟨R, k * 3 + 2, none⟩ (.bool b)) n0 g R (rs.set k { rs[k] with la := b }) ∧ RFr g R w ((w.drewN nq).setCell ⟨R, k * 3 + 2, none⟩ (.bool b)) := by
  have f : Fr (fun k => k = R) w ((w.drewN nq).setCell ⟨R, k * 3 + 2, none⟩ (.bool b)) := Fr.setCell (M := fun k => k = R) (p := ⟨R, k * 3 + 2, none⟩) ((Fr.refl _ w).drewN nq) (fun _ => rfl) _
  have hrow : (w.drewN nq).heap[R]? = _ := h.row
  have hkc : (rcells rs)[k * 3]? = some (.int .i64 (rs[k].st : Int)) ∧ (rcells rs)[k * 3 + 1]? = some (.slice rs[k].A rs[k].l.length rs[k].c) ∧ _ := rcells_at rs k rs[k] (List.getElem?_eq_getElem hk)
  have hset : rcells (rs.set k { rs[k] with la := b }) = (rcells rs).set (k * 3 + 2) (.bool b) := by
    rw [rcells_set]
    have e1 : (rcells rs).set (k * 3) (.int .i64 (rs[k].st : Int)) = rcells rs := by
      apply List.ext_getElem?
      intro i
      rw [List.getElem?_set]
      split
      · rename_i e
        subst e
        rw [hkc.1]
        simp [rcells_len]
        omega
      · rfl
    have e2 : (rcells rs).set (k * 3 + 1) (.slice rs[k].A rs[k].l.length rs[k].c) = rcells rs := by
      apply List.ext_getElem?
      intro i
      rw [List.getElem?_set]
      split
      · rename_i e
        subst e
        rw [hkc.2.1]
        simp [rcells_len]
        omega
      · rfl
    show ((((rcells rs).set (k * 3) (.int .i64 (rs[k].st : Int))).set (k * 3 + 1) (.slice rs[k].A rs[k].l.length rs[k].c)).set (k * 3 + 2) (.bool b)) = _
    rw [e1, e2]
  refine ⟨⟨h.ge, h.geR, h.ne, ?_, ?_, ?_, by rw [List.length_set]; exact h.rm⟩, f.mono (fun _ _ e => .inr e)⟩
  · rw [List.length_set]
    exact f.cells h.blk (fun e => h.ne e)
  · rw [blk_set hrow, hset]
    simp
  · intro p hp
    have hp2 : ∃ q ∈ rs, p.A = q.A ∧ p.l = q.l ∧ p.c = q.c := by
      rcases List.mem_or_eq_of_mem_set hp with hp | rfl
      · exact ⟨p, hp, rfl, rfl, rfl⟩
      · exact ⟨rs[k], List.getElem_mem hk, rfl, rfl, rfl⟩
    obtain ⟨q, hq, e1, e2, e3⟩ := hp2
    rw [e1, e2, e3]
    exact f.owns (h.pgs q hq) (fun i hi e => owns_ne (h.pgs q hq) h.row (by decide) (by rw [hi, e]))

set_option maxRecDepth 100000 in
set_option maxHeartbeats 1000000 in
theorem rsync_any {w : World} {n0 g R : Nat} {rs : List Rp} (h : RDev w n0 g R rs) :
    Calls Try.prog 21 #[.pointer (some ⟨g, 0, none⟩)] w fun e w' => e = .returned (.tuple #[]) ∧ RDev w' n0 g R (rs.map fun p => { p with la := p.st != 0 }) ∧ RFr g R w w' := by
  have hrm := h.rm
  have H := Lib.hid h
  obtain ⟨n, hn⟩ : ∃ n, rs.length = n := ⟨_, rfl⟩
  have HN := Lib.hid hn
  rw [hn] at hrm
  have HS : Hid (RDev w n0 g R (rsyncTo 0 rs)) := by rw [rsync_zero]; exact H
  have HF : Hid (RFr g R w w) := Fr.refl _ _
  clear h hn
  go_enter Try.func21, Try.ntmps21
  go_wp2_with fail
  go_loopw [2] (fun s wr => ∃ k : Nat, k ≤ n ∧ s = .int .i64 (k : Int) ∧ Hid (RDev wr n0 g R (rsyncTo k rs)) ∧ Hid (RFr g R w wr)) (fun s _ => n - (intOf s).toNat)
  case atStart => exact ⟨0, Nat.zero_le _, rfl, HS, HF⟩
  case round =>
    obtain ⟨k, hk, rfl, hd, hf⟩ := hrel
    clear HS HF
    have hc := (Blk.of_heap hd.out.blk).cell 0
    rw [rsync_len, HN.out] at hc
    by_cases hlt : k < n
    · have hi : (k : Int) < (n : Int) := by omega
      have hkr : k < rs.length := by have := HN.out; omega
      have hkl : k < (rsyncTo k rs).length := by rw [rsync_len, HN.out]; exact hlt
      have hcells := rcells_at (rsyncTo k rs) k (rsyncTo k rs)[k] (List.getElem?_eq_getElem hkl)
      have hc1 := hd.out.cellAt hcells.1
      have hc2 := hd.out.cellAt hcells.2.2
      have hf2 : wr.frozen? ⟨R, k * 3 + 2, none⟩ = false := (Blk.of_heap hd.out.row).free _
      rw [rsync_get k rs hkr] at hc1
      obtain ⟨t, et⟩ : ∃ t, ((rs[k].st : Int) != 0) = t := ⟨_, rfl⟩
      have HT : Hid ((rs[k].st != 0) = t) := by
        show _ = _
        rw [← et]
        cases hb : (rs[k].st != 0)
        · have : rs[k].st = 0 := by simpa using hb
          simp [this]
        · have : rs[k].st ≠ 0 := by simpa using hb
          symm
          rw [bne_iff_ne]
          omega
      clear hcells
      go_wp2_with fail
      go_still_tail 16, (by kernel_rfl)
      go_wp2_with fail
      go_roundw
      case measure => simp [intOf]; omega
      case rel =>
        have hnx : rsyncTo (k + 1) rs = (rsyncTo k rs).set k { (rsyncTo k rs)[k] with la := t } := by
          rw [rsync_step k rs hkr, rsync_get k rs hkr, HT.out]
        have hst := fun nq => hd.out.setLa k hkl t nq
        rw [← hnx] at hst
        exact ⟨k + 1, by omega, by simp, Lib.hid (hst _).1, Lib.hid (hf.out.trans (hst _).2 (fun _ _ e => e))⟩
    · have hkn : k = n := by omega
      subst hkn
      go_wp2_with fail
      go_end0
      refine ⟨rfl, ?_, hf.out⟩
      rw [← rsync_all, HN.out]
      exact hd.out
end Go.Proofs.Ytbmodlhnkbohhaa
