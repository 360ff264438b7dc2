/- tidelineref08: Whole. -/
import Derived.Test.YtbmodlhnkbohhaaRdevB
namespace Go.Proofs.Ytbmodlhnkbohhaa
open Go.RowKit
set_option linter.unusedVariables false

abbrev Rp.sl (p : Rp) : Value := .slice p.A p.l.length p.c
def rwh (rs : List Rp) : List Rp := rs.filter fun p => p.st == 1

theorem rwh_app (a b : List Rp) : rwh (a ++ b) = rwh a ++ rwh b := List.filter_append ..
theorem rwh_one (p : Rp) (h : p.st = 1) : rwh [p] = [p] := by simp [rwh, h]
theorem rwh_non (p : Rp) (h : ¬ p.st = 1) : rwh [p] = [] := by simp [rwh, h]

set_option maxRecDepth 100000 in
set_option maxHeartbeats 1000000 in
theorem rwhole_any {w : World} {n0 g R : Nat} {rs : List Rp} (h : RDev w n0 g R rs) :
    Calls Try.prog 25 #[.pointer (some ⟨g, 0, none⟩)] w fun e w' => (∃ A c, e = .returned (.slice A (rwh rs).length c) ∧ w'.ownsRow w.heap.size 23 1 (.slice A (rwh rs).length c) (rwh rs).length ((rwh rs).map Rp.sl)) ∧ Below w.heap.size w w' := by
  have hrm := h.rm
  have H := Lib.hid h
  obtain ⟨n, hn⟩ : ∃ n, rs.length = n := ⟨_, rfl⟩
  have HN := Lib.hid hn
  rw [hn] at hrm
  clear h hn
  go_enter Try.func25, Try.ntmps25
  go_wp2_with fail
  go_loopw [3, 4] (fun s3 s wr => ∃ k : Nat, k ≤ n ∧ s = .int .i64 (k : Int) ∧ Hid (wr.ownsRow w.heap.size 23 1 s3 (rwh (rs.take k)).length ((rwh (rs.take k)).map Rp.sl)) ∧ Below w.heap.size w wr) (fun _ s _ => n - (intOf s).toNat)
  case atStart => exact ⟨0, Nat.zero_le _, rfl, World.ownsRow_made w #[] 0 (Nat.le_refl _) (Nat.zero_le _) rfl, (Below.refl _ _).alloc (Nat.le_refl _) _⟩
  case round =>
    obtain ⟨k, hk, rfl, ho, hb⟩ := hrel
    have hd := H.out
    have hgl : g < w.heap.size := (Array.getElem?_eq_some_iff.1 hd.blk).1
    have hRl : R < w.heap.size := (Array.getElem?_eq_some_iff.1 hd.row).1
    have hc : wr.cell? ⟨g, 0, none⟩ = some (.slice (some ⟨R, 0, none⟩) n n) := by
      rw [hb.cell (p := ⟨g, 0, none⟩) hgl, (Blk.of_heap hd.blk).cell 0, HN.out]
      rfl
    obtain ⟨A6, c6, hv6⟩ := own_form ho.out
    subst hv6
    by_cases hlt : k < n
    · have hi : (k : Int) < (n : Int) := by omega
      have hkr : k < rs.length := by have := HN.out; omega
      have hcells := rcells_at rs k rs[k] (List.getElem?_eq_getElem hkr)
      have hc1 := (hb.cell (p := ⟨R, k * 3, none⟩) hRl).trans (hd.cellAt hcells.1)
      have hc2 := (hb.cell (p := ⟨R, k * 3 + 1, none⟩) hRl).trans (hd.cellAt hcells.2.1)
      have htk : rs.take (k + 1) = rs.take k ++ [rs[k]] := List.take_succ_eq_append_getElem hkr
      clear hcells hd
      by_cases hq : rs[k].st = 1
      · have et : ((rs[k].st : Int) == 1) = true := by simp [hq]
        have hw2 : rwh (rs.take (k + 1)) = rwh (rs.take k) ++ [rs[k]] := by rw [htk, rwh_app, rwh_one _ hq]
        have HW := Lib.hid hw2
        have hlen : (rwh (rs.take k)).length ≤ 200 := by
          have h1 : (rwh (rs.take k)).length ≤ (rs.take k).length := List.length_filter_le _ _
          rw [List.length_take] at h1
          omega
        have h63 : Hid ((rwh (rs.take k)).length + 1 ≤ maxLen) := by show _ ≤ _; unfold maxLen; omega
        have hby : Hid (((rwh (rs.take k)).length + 1) * 24 ≤ 140737488355328) := by show _ ≤ _; omega
        clear htk hw2 hq hlen
        go_wp2_with (at_builtin; obtain ⟨i0, hi, hz0, hz1, hz2⟩ := info_parts Try.info_bs; refine wpList_append_own _ rfl _ _ 22 rfl w.heap.size 23 i0 _ 1 24 Try.underlying22 hi hz0 hz1 hz2 rfl (by decide) (.slice A6 (rwh (rs.take k)).length c6) (rwh (rs.take k)).length ((rwh (rs.take k)).map Rp.sl) rfl (ho.out.alloc _) ⟨wr.heap.size, 0, none⟩ 1 1 [.slice rs[k].A rs[k].l.length rs[k].c] rfl rfl (World.news_of_block (cs := #[.slice rs[k].A rs[k].l.length rs[k].c]) (t := 23) (fr := (0, 0)) (heap_alloc_new wr _)) (by simp [Value.oneCell']) h63.out hby.out (by simp; have := hb.size; omega) ?_; intro v3 W3 hown3 hgrow3 _; clear hi hz0 hz1 hz2 i0)
        have hb3 : Below w.heap.size wr W3 := ((Below.refl w.heap.size wr).alloc hb.size _).grown hgrow3 (by simp; have := hb.size; omega) (fun q hq => owns_ge ho.out q hq)
        go_roundw
        case rel => exact ⟨k + 1, by omega, by simp, Lib.hid (by rw [HW.out, List.length_append, List.map_append]; exact hown3), hb.trans hb3⟩
        case measure => simp [intOf]; omega
      · have et : ((rs[k].st : Int) == 1) = false := by rw [beq_eq_false_iff_ne]; omega
        have hw2 : rwh (rs.take (k + 1)) = rwh (rs.take k) := by rw [htk, rwh_app, rwh_non _ hq, List.append_nil]
        have HW := Lib.hid hw2
        clear htk hw2 hq
        go_wp2_with fail
        go_roundw
        case rel => exact ⟨k + 1, by omega, by simp, Lib.hid (by rw [HW.out]; exact ho.out), hb⟩
        case measure => simp [intOf]; omega
    · have hkn : k = n := by omega
      subst hkn
      have hfin := ho.out
      rw [show rs.take k = rs from List.take_of_length_le (by rw [HN.out]; exact Nat.le_refl _)] at hfin ⊢
      have HF := Lib.hid hfin
      clear hfin hd
      go_wp2_with fail
      go_ret
      exact ⟨⟨A6, c6, rfl, HF.out⟩, hb⟩
end Go.Proofs.Ytbmodlhnkbohhaa
