/- tidelineref13: Without, Same. -/
import Derived.Test.YtiglgepbffcdeaaDoorNetR
namespace Go.Proofs.YtiglgepbffcdeaaDoor
open Go.RowKit
set_option linter.unusedVariables false

theorem without_step {ms : List Mm} {i k : Nat} (hk : k < ms.length) : (ms.take (k + 1)).eraseIdx i = if k = i then (ms.take k).eraseIdx i else (ms.take k).eraseIdx i ++ [ms[k]] := by
  rw [List.take_succ_eq_append_getElem hk]
  have hl : (ms.take k).length = k := by rw [List.length_take]; omega
  by_cases e : k = i
  · subst e
    have e1 : (ms.take k).eraseIdx k = ms.take k := List.eraseIdx_of_length_le (by omega)
    rw [if_pos rfl, List.eraseIdx_append_of_length_le (by omega), hl, Nat.sub_self, e1]
    simp
  · rw [if_neg e]
    rcases Nat.lt_or_ge i k with h | h
    · rw [List.eraseIdx_append_of_lt_length (by rw [hl]; exact h)]
    · have e1 : (ms.take k).eraseIdx i = ms.take k := List.eraseIdx_of_length_le (by omega)
      rw [e1]
      exact List.eraseIdx_of_length_le (by simp; omega)

set_option maxRecDepth 100000 in
set_option maxHeartbeats 8000000 in
theorem ref_without {w : World} {n1 B i : Nat} {v : Value} {ms : List Mm} (h : RefL w n1 B v ms) (hB : B ≤ w.heap.size) (hi : i < ms.length) (hl : ms.length ≤ 4096) :
    Calls Tryd.prog 37 #[v, .int .i64 (i : Int)] w fun e w' => (∃ v', e = .returned v' ∧ RefL w' w.heap.size B v' (ms.eraseIdx i)) ∧ Below w.heap.size w w' := by
  obtain ⟨A0, c0, rfl⟩ := own_form h.row
  obtain ⟨gu, hgu⟩ : ∃ gu, A0 = some ⟨gu, 0, none⟩ := by
    rcases h.row.2 with ⟨_, h0⟩ | ⟨gu, cap, cur, e', hb, _⟩
    · omega
    · injection e' with e1
      exact ⟨gu, e1⟩
  subst hgu
  have H := Lib.hid h
  have HI := Lib.hid hi
  obtain ⟨n, hN⟩ : ∃ n, ms.length = n := ⟨_, rfl⟩
  have HN := Lib.hid hN
  rw [hN] at H ⊢
  have hn4 : ¬ ((4096 : Int) < (n : Int)) := by omega
  have HN4 : Hid (n ≤ 4096) := by show _ ≤ _; omega
  clear h hi hl hN
  go_enter Tryd.func37, Tryd.ntmps37
  go_wp2_with fail
  go_loopw [5, 6] (fun s5 s6 wr => ∃ (k : Nat) (A : Option Addr) (c : Nat), k ≤ n ∧ s6 = .int .i64 (k : Int) ∧ s5 = .slice A ((ms.take k).eraseIdx i).length c ∧ Hid (wr.ownsRow w.heap.size 34 16 (.slice A ((ms.take k).eraseIdx i).length c) ((ms.take k).eraseIdx i).length (mcells ((ms.take k).eraseIdx i))) ∧ Hid (Below w.heap.size w wr)) (fun _ s6 _ => n - (intOf s6).toNat)
  case atStart => exact ⟨0, some ⟨w.heap.size, 0, none⟩, 0, Nat.zero_le _, rfl, rfl, Lib.hid (World.ownsRow_made w #[] 0 (Nat.le_refl _) (Nat.zero_le _) rfl), Lib.hid ((Below.refl _ _).alloc (Nat.le_refl _) _)⟩
  case round =>
    obtain ⟨k, A, c, hk, rfl, rfl, ho, hbw⟩ := hrel
    by_cases hlt : k < n
    · have hi1 : (k : Int) < (n : Int) := by omega
      have hkl : k < ms.length := by rw [HN.out]; exact hlt
      have hst := without_step (i := i) hkl
      by_cases hki : k = i
      · rw [if_pos hki] at hst
        have hkib : ((k : Int) == (i : Int)) = true := by simp [hki]
        have HST := Lib.hid hst
        subst hki
        clear hst
        go_wp2_with fail
        go_roundw
        case rel => exact ⟨k + 1, A, c, by omega, by go_num, by rw [HST.out], by rw [HST.out]; exact ho, hbw⟩
        case measure => simp [intOf]; omega
      · rw [if_neg hki] at hst
        have hkin : ¬ ((k : Int) = (i : Int)) := by omega
        have hrow := (H.out.below hbw.out hB).row
        rw [HN.out] at hrow
        have hld := ld_msg_at hrow hkl
        have HST := Lib.hid hst
        obtain ⟨x, hx⟩ : ∃ x, ms[k] = x := ⟨_, rfl⟩
        rw [hx] at hld HST
        obtain ⟨⟨a1, a2, a3, a4, a5, a6, a7, a8, a9, a10, a11, a12, a13, a14, a15, a16⟩, A1, c1, A2, c2⟩ := x
        replace hld : ldR Tryd.prog 34 (.pointer (some ⟨gu, k * 16, none⟩)) wr = .ok (.value (.agg (mcs a1 a2 a3 a4 a5 a6 a7 a8 (.slice A1 a9.length c1) a10 a11 (.slice A2 a12.length c2) a13 a14 a15 a16))) wr := hld
        obtain ⟨es, hes⟩ : ∃ l, (ms.take k).eraseIdx i = l := ⟨_, rfl⟩
        rw [hes] at ho HST ⊢
        have hel : es.length ≤ 4096 := by
          rw [← hes]
          have h1 := List.length_eraseIdx_le (ms.take k) i
          rw [List.length_take] at h1
          have := HN4.out
          omega
        have H63 : Hid (es.length + 1 ≤ maxLen) := by show _ ≤ _; unfold maxLen; omega
        have HBY : Hid ((es.length + 1) * 160 ≤ 140737488355328) := by show _ ≤ _; omega
        have HSZ : Hid (w.heap.size ≤ (wr.alloc (.cells (mcs a1 a2 a3 a4 a5 a6 a7 a8 (.slice A1 a9.length c1) a10 a11 (.slice A2 a12.length c2) a13 a14 a15 a16) 34)).heap.size) := by have := hbw.out.size; show _ ≤ _; simp; omega
        clear hst hrow hx hes hel
        go_wp2_with (at_builtin; obtain ⟨i0, hi0, hy0, hy1, hy2⟩ := info_parts info_msg; refine wpList_append_own_at _ rfl _ _ 56 rfl w.heap.size 34 i0 _ 16 160 Tryd.underlying56 hi0 hy0 hy1 hy2 rfl (by decide) (.slice A es.length c) es.length (mcells es) rfl (ho.out.alloc _) ⟨wr.heap.size, 0, none⟩ 1 1 (mcs a1 a2 a3 a4 a5 a6 a7 a8 (.slice A1 a9.length c1) a10 a11 (.slice A2 a12.length c2) a13 a14 a15 a16).toList rfl rfl (World.news_of_block (t := 34) (fr := (0, 0)) (heap_alloc_new wr _)) (by simp [Value.oneCell']) H63.out HBY.out HSZ.out ?_; intro v' w2 hown5 hgrow5 hnil5 hat5; obtain ⟨A6, c6, rfl⟩ := own_form hown5; have HG5 := Lib.hid hgrow5; have HO5 := Lib.hid hown5; clear hi0 hy0 hy1 hy2 i0 hgrow5 hown5 hnil5 hat5)
        have hbb := hbw.out
        have hb2 : Below w.heap.size w w2 := hbb.trans (((Below.refl _ wr).alloc hbb.size _).grown HG5.out (by have := hbb.size; simp; omega) (fun q hq => own_ge ho.out hq))
        have e6 : (es ++ [(⟨⟨a1, a2, a3, a4, a5, a6, a7, a8, a9, a10, a11, a12, a13, a14, a15, a16⟩, A1, c1, A2, c2⟩ : Mm)]).length = es.length + 1 := by simp
        go_roundw
        case rel => exact ⟨k + 1, A6, c6, by omega, by go_num, by rw [HST.out, e6], by rw [HST.out, e6, mcells_app, mcells_one]; exact HO5, Lib.hid hb2⟩
        case measure => simp [intOf]; omega
    · obtain rfl : k = n := by omega
      have hend : ¬ ((k : Int) < (k : Int)) := by omega
      have ht : ms.take k = ms := List.take_of_length_le (Nat.le_of_eq HN.out)
      rw [ht] at ho ⊢
      clear ht
      go_wp2_with fail
      go_ret
      refine ⟨⟨_, rfl, ho.out, fun x hx => ?_⟩, hbw.out⟩
      exact (H.out.dat x (List.mem_of_mem_eraseIdx hx)).below (hbw.out.mono hB)
end Go.Proofs.YtiglgepbffcdeaaDoor
