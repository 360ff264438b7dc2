/- path.Parent, path.Inside. -/
import Derived.Test.YtdekpjagkhdfcaaDoorPathW
namespace Go.Proofs.YtdekpjagkhdfcaaDoor
open Go.RowKit
set_option linter.unusedVariables false

theorem ba_eta (z : ByteArray) : (⟨z.data.toList.toArray⟩ : ByteArray) = z := by
  cases z with | mk d => cases d with | mk l => rfl
theorem path_fits {l : List UInt8} {zs : List ByteArray} (h : pathOf l = some (zs.map (·.data.toList))) : zs.length ≤ 8 ∧ (joinL zs).length ≤ 136 := by
  obtain ⟨h1, h2⟩ := pathOf_all h
  rw [List.length_map] at h2
  refine ⟨h2, ?_⟩
  have h3 : (joinL zs).length = ((zs.map (·.data.toList)).map (fun p => p.length + 1)).sum := by
    clear h h1 h2
    induction zs with
    | nil => rfl
    | cons z zs ih => simp [joinL] at ih ⊢; omega
  have h4 := sum_le _ h1
  rw [List.length_map] at h4
  omega

/-- What path.Parent answers. -/
def parentE (l : List UInt8) : Ending := match parentP l with
  | none => .returned (.tuple #[.string ⟨#[]⟩, .string ⟨#[]⟩, .int .i64 20])
  | some (a, n) => .returned (.tuple #[.string ⟨a.toArray⟩, .string ⟨n.toArray⟩, .int .i64 0])

set_option maxRecDepth 100000 in
set_option maxHeartbeats 2000000 in
theorem parent_any (s : ByteArray) (m : Int) (w : World) (hs : s.size ≤ maxLen) (hm : w.cell? ⟨0, 0, none⟩ = some (.int .i64 m)) :
    Calls Tryd.prog 11 #[.string s] w fun e w' => e = parentE s.data.toList ∧ Below w.heap.size w w' := by
  obtain ⟨r, hr⟩ : ∃ r, parentE s.data.toList = r := ⟨_, rfl⟩
  rw [hr]
  have HR := Lib.hid hr
  have HM := Lib.hid hm
  clear hr hm
  go_enter Tryd.func11, Tryd.ntmps11
  go_wp2_with fail
  refine (split_any s m w hs HM.out).mono ?_
  rintro e W1 ⟨hsp, hb1⟩
  unfold Splits at hsp
  cases hp : pathOf s.data.toList with
  | none =>
    rw [hp] at hsp
    subst hsp
    have hrf : Hid (r = .returned (.tuple #[.string ⟨#[]⟩, .string ⟨#[]⟩, .int .i64 20])) := by show _ = _; rw [← HR.out]; unfold parentE; rw [parentP_none hp]
    clear hp
    go_wp2_with fail
    go_ret3
    exact ⟨hrf.out.symm, hb1⟩
  | some ns =>
    rw [hp] at hsp
    obtain ⟨A1, c1, xs, rfl, hx, hsx, hcx⟩ := hsp
    rcases List.eq_nil_or_concat xs with hx0 | ⟨ys, z, hx0⟩
    · subst hx0
      subst hx
      have hrf : Hid (r = .returned (.tuple #[.string ⟨#[]⟩, .string ⟨#[]⟩, .int .i64 20])) := by show _ = _; rw [← HR.out]; unfold parentE; rw [parentP_root hp]
      clear hp
      go_wp2_with fail
      go_ret3
      exact ⟨hrf.out.symm, hb1⟩
    · rw [List.concat_eq_append] at hx0
      subst hx0
      subst hx
      have hpp := hp
      rw [List.map_append, List.map_singleton] at hpp
      have hrf : Hid (r = .returned (.tuple #[.string ⟨(joinP (ys.map (·.data.toList))).toArray⟩, .string z, .int .i64 0])) := by
        show _ = _; rw [← HR.out]; unfold parentE; rw [parentP_some hpp, ← ba_eta z]
      have hfit := path_fits hp
      have hfy := path_fits (pathOf_above hpp)
      have hlen : (ys ++ [z]).length = ys.length + 1 := by simp
      obtain ⟨b, o, rfl, hbb, hcell⟩ := hsx.at (k := ys.length) (by simp)
      rw [List.getElem_map, List.getElem_append_right (Nat.le_refl _)] at hcell
      simp only [Nat.sub_self, List.getElem_singleton] at hcell
      have hsy : Sl W1 W1.heap.size (some ⟨b, o, none⟩) (ys.map Value.string) := by
        rcases hsx with h | ⟨b', o', e', hb', hr'⟩
        · simp at h
        · refine .inr ⟨b', o', e', hb', fun k v hk => hr' k v ?_⟩
          rw [List.map_append, List.getElem?_append_left (by
            rcases Nat.lt_or_ge k (ys.map Value.string).length with h | h
            · exact h
            · rw [List.getElem?_eq_none h] at hk; cases hk)]
          exact hk
      rw [hlen] at hfit ⊢
      have hy1 : ((ys.length + 1 : Nat) : Int) - 1 = (ys.length : Int) := by omega
      rw [hlen] at hcx
      have hyc : (ys.length : Int) ≤ (c1 : Int) := by omega
      go_wp2_with fail
      have hJ : Hid (∀ u, Calls Tryd.prog 16 #[.slice (some ⟨b, o, none⟩) ys.length c1] (over W1 u) fun e w' => e = .returned (.string ⟨(joinP (ys.map (·.data.toList))).toArray⟩) ∧ Below (over W1 u).heap.size (over W1 u) w') := fun u =>
        pjoin_any (some ⟨b, o, none⟩) c1 W1.heap.size ys (over W1 u) (hsy.below (over_below W1 u)) (over_size W1 u) (by omega) (by omega)
      clear hp hpp hfit hfy hlen hsy hsx
      refine wp_region_over (by kernel_rfl) (by kernel_rfl) ?_
      repeat (go_big_quiet_step (first
        | (go_at_call 16; with_reducible exact over_call (hJ.out _))))
      refine wpQuiet_nil ?_
      rintro _ ⟨u, rfl⟩
      go_wp2
      go_ret3
      exact ⟨hrf.out.symm, hb1.trans ((over_below _ _).mono hb1.size)⟩

theorem equal_pre (A1 A2 : Option Addr) (c c' B : Nat) (xs ys : List ByteArray) (w : World) (hl : ys.length < xs.length) (hb : xs.length ≤ 8) (h1 : Sl w B A1 (xs.map Value.string)) (h2 : Sl w B A2 (ys.map Value.string)) :
    Calls Tryd.prog 28 #[.slice A2 ys.length c, .slice A1 ys.length c'] w fun e w' => e = .returned (.bool (decide (xs.take ys.length = ys))) ∧ ∃ q, w' = w.drewN q := by
  by_cases hy : ys = []
  · subst hy
    refine (Tryd.slices_Equal_string_empty A2 A1 c 0 c' w (by decide)).mono ?_
    rintro e w' ⟨rfl, rfl⟩
    exact ⟨rfl, 0, rfl⟩
  · rcases h1 with h1 | ⟨b1, o1, rfl, hb1, hr1⟩
    · have : xs = [] := by simpa using h1
      rw [this] at hl; simp at hl
    · rcases h2 with h2 | ⟨b2, o2, rfl, hb2, hr2⟩
      · exact absurd (by simpa using h2) hy
      · refine (Tryd.slices_Equal_string b2 o2 ys.length c b1 o1 ys.length c' ys xs w (Nat.le_refl _) (by omega) (by omega) (by omega) ?_ ?_).mono ?_
        · intro j hj
          refine hr2 j _ ?_
          simp [hj]
        · intro j hj
          refine hr1 j _ ?_
          simp [hj]
        · rintro e w' ⟨rfl, q, rfl⟩
          refine ⟨ret_bool ?_, q, rfl⟩
          rw [List.take_length]
          exact decide_eq_decide.2 eq_comm
theorem insideP_some {a b : List UInt8} {x y : List (List UInt8)} (h1 : pathOf a = some x) (h2 : pathOf b = some y) : insideP a b = decide (y.length < x.length ∧ x.take y.length = y) := by
  unfold insideP; rw [h1, h2]

set_option maxRecDepth 100000 in
set_option maxHeartbeats 2000000 in
theorem pinside_any (s1 s2 : ByteArray) (m : Int) (w : World) (h1 : s1.size ≤ maxLen) (h2 : s2.size ≤ maxLen) (hm : w.cell? ⟨0, 0, none⟩ = some (.int .i64 m)) :
    Calls Tryd.prog 18 #[.string s1, .string s2] w fun e w' => e = .returned (.bool (insideP s1.data.toList s2.data.toList)) ∧ Below w.heap.size w w' := by
  obtain ⟨r, hr⟩ : ∃ r, insideP s1.data.toList s2.data.toList = r := ⟨_, rfl⟩
  have HR := Lib.hid hr
  rw [hr]
  clear hr
  have H1 := Lib.hid h1
  have H2 := Lib.hid h2
  have HM := Lib.hid hm
  have h0 : 0 < w.heap.size := World.block_lt_of_cell? w _ hm
  clear h1 h2 hm
  go_enter Tryd.func18, Tryd.ntmps18
  go_wp2_with fail
  refine (split_any s1 m w H1.out HM.out).mono ?_
  rintro e W1 ⟨hr1, hb1⟩
  have HB1 := Lib.hid hb1
  have HM1 : Hid (W1.cell? ⟨0, 0, none⟩ = some (.int .i64 m)) := (hb1.cell (p := ⟨0, 0, none⟩) h0).trans HM.out
  clear hb1
  unfold Splits at hr1
  cases hp1 : pathOf s1.data.toList with
  | none =>
    rw [hp1] at hr1
    subst hr1
    have hrf : Hid (r = false) := by show _ = _; rw [← HR.out]; exact (inside_none hp1 _).1
    clear hp1
    go_wp2_with fail
    go_ret
    exact ⟨ret_bool hrf.out.symm, HB1.out⟩
  | some x =>
    rw [hp1] at hr1
    obtain ⟨A1, c1, xs, rfl, hx, hsx, hcx⟩ := hr1
    have HSX := Lib.hid hsx
    have HX := Lib.hid hx
    have HP1 := Lib.hid hp1
    clear hp1 hx hsx
    go_wp2_with fail
    refine (split_any s2 m W1 H2.out HM1.out).mono ?_
    rintro e W2 ⟨hr2, hb2⟩
    have HK := Lib.hid hb2
    have HB2 := Lib.hid (HB1.out.trans (hb2.mono HB1.out.size))
    clear hb2
    unfold Splits at hr2
    cases hp2 : pathOf s2.data.toList with
    | none =>
      rw [hp2] at hr2
      subst hr2
      have hrf : Hid (r = false) := by show _ = _; rw [← HR.out]; exact (inside_none hp2 _).2
      clear hp2
      go_wp2_with fail
      go_ret
      exact ⟨ret_bool hrf.out.symm, HB2.out⟩
    | some y =>
      rw [hp2] at hr2
      obtain ⟨A2, c2, ys, rfl, hy, hsy, hcy⟩ := hr2
      have hrd : r = decide (ys.length < xs.length ∧ xs.take ys.length = ys) := by
        rw [← HR.out, insideP_some HP1.out hp2, ← HX.out, ← hy]
        simp only [List.length_map, ← List.map_take, datas_inj]
      have HRD := Lib.hid hrd
      have hxw : Sl W2 W1.heap.size A1 (xs.map Value.string) := HSX.out.below HK.out
      have hP1 := HP1.out
      rw [← HX.out] at hP1
      have hlx : xs.length ≤ 8 := (path_fits hP1).1
      clear hp2 hrd hy hP1
      by_cases hl : ys.length < xs.length
      · have hl1 : ¬ ((xs.length : Int) ≤ (ys.length : Int)) := by omega
        have hyx : (ys.length : Int) ≤ (c1 : Int) := by omega
        have HEQ : Hid (∀ c c', Calls Tryd.prog 28 #[.slice A2 ys.length c, .slice A1 ys.length c'] W2 fun e w' => e = .returned (.bool r) ∧ ∃ q, w' = W2.drewN q) := fun c c' => by
          have hd : r = decide (xs.take ys.length = ys) := by
            rw [HRD.out]; exact decide_eq_decide.2 ⟨fun h => h.2, fun h => ⟨hl, h⟩⟩
          rw [hd]
          exact equal_pre A1 A2 c c' _ xs ys W2 hl hlx (hxw.more HK.out.size) hsy
        go_wp2_with fail
        refine (HEQ.out _ _).mono ?_
        rintro e w' ⟨rfl, q, rfl⟩
        go_wp2_with fail
        go_ret
        exact ⟨rfl, bdrewN HB2.out q⟩
      · have hl1 : (xs.length : Int) ≤ (ys.length : Int) := by omega
        have hrf : Hid (r = false) := by show _ = _; rw [HRD.out]; exact decide_eq_false fun h => hl h.1
        go_wp2
        go_ret
        exact ⟨ret_bool hrf.out.symm, HB2.out⟩
end Go.Proofs.YtdekpjagkhdfcaaDoor
