/- slices.Delete of one message of one's own. -/
import Derived.Test.YtiglgepbffcdeaaDoorNetP
import Derived.Lib.SliceRun
import Derived.Lib.Walk
import Derived.Sort.WalkB12
namespace Go.Proofs.YtiglgepbffcdeaaDoor
open Go.RowKit
set_option linter.unusedVariables false

theorem zero_msg (w : World) : (zeroValue 34).run Tryd.prog w = .ok (.agg zcells) w := by kernel_rfl
/-- 'clear' of one message. -/
theorem run_clear_msg (w : World) (ty : TypeId) (b o c : Nat) (hc : ∀ j, j < 16 → (w.cell? ⟨b, o + j, none⟩).isSome = true) (hf : ∀ j, j < 16 → w.frozen? ⟨b, o + j, none⟩ = false) :
    (Builtin.clear_ #[56] ty #[.slice (some ⟨b, o, none⟩) 1 c]).run Tryd.prog w = .ok (.tuple #[]) (w.setCells b o zcells.toList) := by
  have hzc : (Builtin.zeroCells (Value.agg zcells).cells 1).toList = zcells.toList := by kernel_rfl
  have hst := run_storeCells_cells (P := Tryd.prog) b o zcells.toList 0 w (by simpa using hc) (by simpa using hf) (one_all (ys := zcells) rfl)
  simp only [Nat.add_zero] at hst
  simp [Builtin.clear_, run_underlying Tryd.underlying56, hzc, hst]
/-- A list some places of which are laid anew. -/
def layL (xs : List Value) : Nat → List Value → List Value
  | _, [] => xs
  | o, v :: vs => layL (xs.set o v) (o + 1) vs
theorem layL_eq : ∀ (vs : List Value) (xs : List Value) (o : Nat), o + vs.length ≤ xs.length → layL xs o vs = xs.take o ++ vs ++ xs.drop (o + vs.length)
  | [], xs, o, h => by simp [layL]
  | v :: vs, xs, o, h => by
    have hl : o < xs.length := by simp at h; omega
    rw [layL, layL_eq vs (xs.set o v) (o + 1) (by simp at h ⊢; omega)]
    rw [List.take_succ_eq_append_getElem (by rw [List.length_set]; exact hl), List.getElem_set_self, List.take_set_of_le (Nat.le_refl o), List.drop_set_of_lt (by omega)]
    simp only [List.append_assoc, List.cons_append, List.nil_append, List.length_cons]
    congr 3
    congr 1
    omega
theorem owns_setS {w : World} {base g n cap i size : Nat} {e : TypeId} {xs : List Value} (h : w.ownsRow base e size (.slice (some ⟨g, 0, none⟩) n cap) n xs) (u : Value) :
    (w.setCell ⟨g, i, none⟩ u).ownsRow base e size (.slice (some ⟨g, 0, none⟩) n cap) n (xs.set i u) := by
  refine ⟨by rw [List.length_set]; exact h.1, ?_⟩
  rcases h.2 with ⟨h0, _⟩ | ⟨g', cap', cur, e1, hb, hh, hn, hc, hs, ht⟩
  · cases h0
  · injection e1 with e1 e2 e3
    injection e1 with e1
    injection e1 with e1
    subst e1; subst e3
    refine .inr ⟨g, cap, cur.setIfInBounds i u, rfl, hb, cell_set hh u, hn, hc, by simpa using hs, ?_⟩
    rw [← ht, Array.toList_setIfInBounds, List.take_set]
theorem owns_lay {base g n c size : Nat} {e : TypeId} : ∀ (vs : List Value) (o : Nat) (w : World) (xs : List Value), w.ownsRow base e size (.slice (some ⟨g, 0, none⟩) n c) n xs →
    (w.setCells g o vs).ownsRow base e size (.slice (some ⟨g, 0, none⟩) n c) n (layL xs o vs) ∧ w.grownBy (w.setCells g o vs) (some g)
  | [], o, w, xs, h => ⟨h, ⟨rfl, rfl, rfl, Nat.le_refl _, fun _ _ _ => rfl⟩⟩
  | v :: vs, o, w, xs, h => by
    obtain ⟨h1, h3⟩ := owns_lay vs (o + 1) _ _ (owns_setS (i := o) h v)
    have hg : w.grownBy (w.setCell ⟨g, o, none⟩ v) (some g) := ⟨rfl, rfl, rfl, by simp [World.setCell], fun k _ hk => Below.heap_setCell _ _ _ k (fun e => hk (by rw [e]))⟩
    exact ⟨h1, hg.trans h3⟩
theorem owns_cutS {w : World} {base g n m c size : Nat} {e : TypeId} {xs : List Value} (h : w.ownsRow base e size (.slice (some ⟨g, 0, none⟩) n c) n xs) (hm : m ≤ n) : w.ownsRow base e size (.slice (some ⟨g, 0, none⟩) m c) m (xs.take (m * size)) := by
  refine ⟨by rw [List.length_take, h.1]; exact Nat.min_eq_left (Nat.mul_le_mul_right _ hm), ?_⟩
  rcases h.2 with ⟨h0, _⟩ | ⟨g', cap', cur, e1, hb, hh, hn, hc, hs, ht⟩
  · cases h0
  · injection e1 with e1 e2 e3
    injection e1 with e1
    injection e1 with e1
    subst e1; subst e3
    refine .inr ⟨g, c, cur, rfl, hb, hh, by omega, hc, hs, ?_⟩
    rw [← ht, List.take_take, Nat.min_eq_left (Nat.mul_le_mul_right _ hm)]
theorem owns_cellS {w : World} {base g n cap size : Nat} {e : TypeId} {xs : List Value} (h : w.ownsRow base e size (.slice (some ⟨g, 0, none⟩) n cap) n xs) {i : Nat} {u : Value} (hu : xs[i]? = some u) :
    w.cell? ⟨g, i, none⟩ = some u ∧ w.frozen? ⟨g, i, none⟩ = false := by
  rcases h.2 with ⟨h0, _⟩ | ⟨g', cap', cur, e1, hb, hh, hn, hc, hs, ht⟩
  · cases h0
  · injection e1 with e1 e2 e3
    injection e1 with e1
    injection e1 with e1
    subst e1; subst e3
    refine ⟨?_, by simp [World.frozen?, hh]⟩
    rw [cell_of_row w g i cur e (0, 0) hh]
    rw [← ht, List.getElem?_take] at hu
    split at hu
    · simpa using hu
    · cases hu
theorem mcells_take (ms : List Mm) (k : Nat) : (mcells ms).take (k * 16) = mcells (ms.take k) := by
  have h := mcells_app (ms.take k) (ms.drop k)
  rw [List.take_append_drop] at h
  rw [h, List.take_append]
  by_cases hk : k ≤ ms.length
  · rw [List.take_of_length_le (by rw [mcells_len, List.length_take]; omega), mcells_len, List.length_take, Nat.min_eq_left hk, Nat.sub_self, List.take_zero, List.append_nil]
  · have h2 : ms.drop k = [] := List.drop_eq_nil_of_le (by omega)
    rw [h2, List.take_of_length_le (by rw [mcells_len, List.length_take]; omega)]
    simp [mcells]
theorem mcells_drop (ms : List Mm) (k : Nat) : (mcells ms).drop (k * 16) = mcells (ms.drop k) := by
  by_cases hk : k ≤ ms.length
  · have h := mcells_app (ms.take k) (ms.drop k)
    rw [List.take_append_drop] at h
    rw [h, List.drop_append, List.drop_of_length_le (by rw [mcells_len, List.length_take]; omega), mcells_len, List.length_take, Nat.min_eq_left hk, Nat.sub_self, List.drop_zero, List.nil_append]
  · rw [List.drop_of_length_le (by rw [mcells_len]; omega), List.drop_of_length_le (by omega)]
    rfl
theorem mcells_one_all (ms : List Mm) : ∀ u ∈ mcells ms, u.oneCell' = true := by
  intro u hu
  unfold mcells at hu
  obtain ⟨x, _, hx⟩ := List.mem_flatMap.1 hu
  exact one_all (ys := x.cs.toArray) rfl u (by simpa using hx)

set_option maxHeartbeats 4000000 in
set_option maxRecDepth 1000000 in
theorem delete_msg (n0 g c i j n : Nat) (ms : List Mm) (w : World) (hown : w.ownsRow n0 34 16 (.slice (some ⟨g, 0, none⟩) n c) n (mcells ms)) (hn : ms.length = n) (hi : i < n) (hj : j = i + 1) (hn4 : n ≤ 4096) :
    Calls Tryd.prog 61 #[.slice (some ⟨g, 0, none⟩) n c, .int .i64 (i : Int), .int .i64 (j : Int)] w fun e w' =>
      e = .returned (.slice (some ⟨g, 0, none⟩) (i + (n - j)) c) ∧ w'.ownsRow n0 34 16 (.slice (some ⟨g, 0, none⟩) (i + (n - j)) c) (i + (n - j)) (mcells (ms.eraseIdx i)) ∧ w.grownBy w' (some g) := by
  obtain ⟨i0, hi0, hz0, hz1, hz2⟩ := info_parts info_msg
  have hnc : n ≤ c ∧ c ≤ maxLen := by
    rcases hown.2 with ⟨h0, _⟩ | ⟨g', cap', cur, e1, hb, hh, hn, hc, _⟩
    · cases h0
    · injection e1 with e1 e2 e3; subst e3; exact ⟨hn, hc⟩
  have hdrew : w.drew.ownsRow n0 34 16 (.slice (some ⟨g, 0, none⟩) n c) n (mcells ms) := hown
  obtain ⟨news, hnews⟩ : ∃ news, news = mcells (ms.drop j) := ⟨_, rfl⟩
  have hlen : news.length = (n - j) * 16 := by rw [hnews, mcells_len, List.length_drop, hn]
  have hdr : (mcells ms).drop (j * 16) = news := by rw [hnews, mcells_drop]
  obtain ⟨A, hA, hsrc⟩ : ∃ A : Addr, (if c = j then some (⟨g, 0, none⟩ : Addr) else some ⟨g, j * 16, none⟩) = some A ∧ Hid (∀ t u, news[t]? = some u → w.drew.cell? (A.add t) = some u) := by
    by_cases h : c = j
    · refine ⟨⟨g, 0, none⟩, by simp [h], fun t u hu => ?_⟩
      have h0 : news.length = 0 := by rw [hlen]; omega
      rw [List.length_eq_zero_iff.1 h0] at hu
      simp at hu
    · refine ⟨⟨g, j * 16, none⟩, by simp [h], fun t u hu => ?_⟩
      rw [Addr.add_lit]
      refine (owns_cellS hdrew (i := j * 16 + t) ?_).1
      rw [← hdr, List.getElem?_drop] at hu
      exact hu
  have s2 : Hid (∀ u ∈ news, u.oneCell' = true) := by rw [hnews]; exact mcells_one_all _
  have hl2 : (mcells ms).length = n * 16 := by rw [mcells_len, hn]
  have s3 : Hid (∀ t, t < news.length → (w.drew.cell? ⟨g, 0 + i * 16 + t, none⟩).isSome = true ∧ w.drew.frozen? ⟨g, 0 + i * 16 + t, none⟩ = false) := by
    intro t ht
    rw [hlen] at ht
    have hk : 0 + i * 16 + t < (mcells ms).length := by rw [hl2]; omega
    obtain ⟨q1, q2⟩ := owns_cellS hdrew (List.getElem?_eq_getElem hk)
    rw [q1]
    exact ⟨rfl, q2⟩
  obtain ⟨W1, hW1⟩ : ∃ W1, W1 = w.drew.setCells g (0 + i * 16) news := ⟨_, rfl⟩
  obtain ⟨o1, g1⟩ := owns_lay news (0 + i * 16) _ _ hdrew
  rw [← hW1] at o1 g1
  have hlay1 : layL (mcells ms) (0 + i * 16) news = mcells (ms.take i) ++ news ++ (mcells ms).drop (0 + i * 16 + news.length) := by
    rw [layL_eq news _ _ (by rw [hlen, hl2]; omega), Nat.zero_add, mcells_take]
  have hl1 : (layL (mcells ms) (0 + i * 16) news).length = n * 16 := o1.1
  have hcl : ∀ ty, (Builtin.clear_ #[56] ty #[.slice (some ⟨g, (i + (n - j)) * 16, none⟩) (n - (i + (n - j))) (c - (i + (n - j)))]).run Tryd.prog W1 = .ok (.tuple #[]) (W1.setCells g ((i + (n - j)) * 16) zcells.toList) := by
    intro ty
    rw [show n - (i + (n - j)) = 1 by omega]
    refine run_clear_msg W1 ty g _ _ (fun t ht => ?_) (fun t ht => ?_)
    · have hk : (i + (n - j)) * 16 + t < (layL (mcells ms) (0 + i * 16) news).length := by rw [hl1]; omega
      rw [(owns_cellS o1 (List.getElem?_eq_getElem hk)).1]; rfl
    · have hk : (i + (n - j)) * 16 + t < (layL (mcells ms) (0 + i * 16) news).length := by rw [hl1]; omega
      exact (owns_cellS o1 (List.getElem?_eq_getElem hk)).2
  obtain ⟨o2, g2⟩ := owns_lay zcells.toList ((i + (n - j)) * 16) _ _ o1
  have o3 := owns_cutS o2 (m := i + (n - j)) (by omega)
  have hfin : (layL (layL (mcells ms) (0 + i * 16) news) ((i + (n - j)) * 16) zcells.toList).take ((i + (n - j)) * 16) = mcells (ms.eraseIdx i) := by
    rw [layL_eq _ _ _ (by rw [hl1]; show _ + 16 ≤ _; omega), List.append_assoc, List.take_append_of_le_length (by rw [List.length_take, hl1]; omega), List.take_take, Nat.min_self, hlay1,
      List.take_append_of_le_length (by rw [List.length_append, mcells_len, List.length_take, hlen]; omega), List.take_of_length_le (by rw [List.length_append, mcells_len, List.length_take, hlen]; omega), hnews, ← mcells_app, List.eraseIdx_eq_take_drop_succ, hj]
  rw [hfin] at o3
  have HO3 := Lib.hid o3
  have HG : Hid (w.grownBy (W1.setCells g ((i + (n - j)) * 16) zcells.toList) (some g)) := (show w.grownBy w.drew (some g) from ⟨rfl, rfl, rfl, Nat.le_refl _, fun _ _ _ => rfl⟩).trans (g1.trans g2)
  have HW : Hid (W1 = w.drew.setCells g (0 + i * 16) news) := hW1
  have s1 : Hid (news.length = (n - j) * 16) := hlen
  have hic : i ≤ c := by omega
  have hjc : j ≤ c := by omega
  have hij : ¬ ((i : Int) = (j : Int)) := by omega
  have hij2 : i ≤ j := by omega
  have hjn : j ≤ n := by omega
  have hcm : (c : Int) ≤ 9223372036854775807 := by have := hnc.2; unfold maxLen at this; omega
  have HMX : Hid (i + (n - j) ≤ c) := by show _ ≤ _; omega
  obtain ⟨hnc1, hnc2⟩ := hnc
  have HJ := Lib.hid hj
  clear hj hown hdrew hnews hdr hl2 o1 g1 hlay1 hl1 o2 g2 o3 hfin hW1 hlen hn
  go_enter Tryd.func61, Tryd.ntmps61
  go_wp2_with fail
  go_region_law (refine step_append_room rfl (.tmp 22) (.tmp 25) 56 rfl 34 i0 16 Tryd.underlying56 hi0 hz1 g 0 i c (by simp [Act.eval, Act.put]) A (n - j) (c - j) news (by simp [Act.eval, Act.put]) s1.out hsrc.out s2.out (by omega) s3.out ?_; rw [← HW.out])
  all_goals
    go_wp2_with (simp only [hcl])
    go_ret
    exact ⟨rfl, HO3.out, HG.out⟩
end Go.Proofs.YtiglgepbffcdeaaDoor
