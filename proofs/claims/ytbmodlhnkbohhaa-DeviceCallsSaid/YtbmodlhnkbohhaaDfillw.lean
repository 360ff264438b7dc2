/- tidelinelaw08.DeviceFills: the walk. -/
import Derived.Test.YtbmodlhnkbohhaaDspeak
namespace Go.Proofs.Ytbmodlhnkbohhaa
open Go.RowKit
set_option linter.unusedVariables false

theorem pickAt_one (x : UInt8) (i : Nat) : pickAt [x] i = x.toNat % 3 := by
  simp [pickAt, Nat.mod_one]
theorem mapIdx_const {α β : Type} (ps : List α) (f : Nat → α → β) (g : α → β) (h : ∀ i p, i < ps.length → f i p = g p) : ps.mapIdx f = ps.map g := by
  apply List.ext_getElem
  · simp
  · intro i h1 h2
    simp only [List.getElem_mapIdx, List.getElem_map]
    exact h i _ (by simpa using h1)
theorem stage_one (x : UInt8) (ps : List Pg) : stage [x] 0 (ps.length - 0) ps = ps.map (fun p => crPg [x] 0 p) := by
  refine mapIdx_const _ _ _ fun i p hi => ?_
  rw [if_pos (by omega)]
  simp [crPg, pickAt_one]
theorem trimPs_none (n : Nat) (ps : List Pg) (h : ∀ p ∈ ps, p.is = 0) (hn : n ≤ ps.length) : trimPs n ps = 0 := by
  induction n with
  | zero => rfl
  | succ n ih =>
    rw [trimPs_step n ps (by omega), if_pos (h _ (List.getElem_mem _)), ih (by omega)]
theorem trimPs_all (ps : List Pg) (h : ∀ p ∈ ps, p.is ≠ 0) : trimPs ps.length ps = ps.length := by
  cases hn : ps.length with
  | zero => rfl
  | succ n => rw [trimPs_step n ps (by omega), if_neg (h _ (List.getElem_mem _))]
theorem crash_free (x : UInt8) (ps : List Pg) (hx : x.toNat % 3 = 0) : crashPs [x] 0 ps = [] := by
  unfold crashPs
  simp only [stage_one]
  rw [trimPs_none _ _ (by intro p hp; simp [crPg, pickAt_one, hx] at hp; obtain ⟨_, _, rfl⟩ := hp; rfl) (Nat.le_refl _)]
  rfl
theorem crash_keep (x : UInt8) (ps : List Pg) (hx : x.toNat % 3 = 1) (h : ∀ p ∈ ps, p.is = 1) : crashPs [x] 0 ps = ps := by
  unfold crashPs
  simp only [stage_one]
  have e : ps.map (fun p => crPg [x] 0 p) = ps := by
    conv => rhs; rw [← List.map_id ps]
    refine List.map_congr_left fun p hp => ?_
    simp [crPg, pickAt_one, hx]
  rw [e, trimPs_all _ (fun p hp => by rw [h p hp]; decide), List.take_length]
theorem crash_tear (x : UInt8) (ps : List Pg) (hx : x.toNat % 3 = 2) : crashPs [x] 0 ps = ps.map fun _ => ⟨2, none, 0, []⟩ := by
  unfold crashPs
  simp only [stage_one]
  have e : ps.map (fun p => crPg [x] 0 p) = ps.map fun _ => ⟨2, none, 0, []⟩ := List.map_congr_left fun p hp => by simp [crPg, pickAt_one, hx]
  rw [e, trimPs_all _ (fun p hp => by simp at hp; obtain ⟨_, rfl⟩ := hp; decide), List.take_length]
theorem wh_all (ps : List Pg) (h : ∀ p ∈ ps, p.is = 1) : wh ps = ps := List.filter_eq_self.2 fun p hp => by simp [h p hp]
theorem wh_none (ps : List Pg) (h : ∀ p ∈ ps, p.is ≠ 1) : wh ps = [] := List.filter_eq_nil_iff.2 fun p hp => by simp [h p hp]

/-- What a crash with one pick leaves: how many pages there are, and how many whole ones. -/
theorem crash_one (x : UInt8) (ps : List Pg) (h : ∀ p ∈ ps, p.is = 1) :
    (crashPs [x] 0 ps).length = (if x.toNat % 3 = 0 then 0 else ps.length) ∧ (wh (crashPs [x] 0 ps)).length = (if x.toNat % 3 = 1 then ps.length else 0) := by
  rcases (by omega : x.toNat % 3 = 0 ∨ x.toNat % 3 = 1 ∨ x.toNat % 3 = 2) with e | e | e
  · rw [crash_free x ps e]; simp [e, wh]
  · rw [crash_keep x ps e h]; simp [e, wh_all ps h]
  · rw [crash_tear x ps e, wh_none _ (by intro p hp; simp at hp; obtain ⟨_, rfl⟩ := hp; decide)]; simp [e]

set_option maxRecDepth 100000 in
set_option maxHeartbeats 4000000 in
theorem fills_walk (n : Int) (A : Option Addr) (c : Nat) (b : List UInt8) (x : UInt8) (w : World) (hb : Sl w w.heap.size A (bv b)) (hnil : A = none → c = 0) :
    Calls Try.prog 4 #[.int .i64 n, .slice A b.length c, .int .u8 (x.toNat : Int)] w fun e w' => e = .returned (.bool true) ∧ Below w.heap.size w w' := by
  have hnil := Lib.hid hnil
  go_enter Try.func4, Try.ntmps4
  go_wp2_with fail
  refine (dspeak_any w).mono ?_
  rintro e W0 ⟨rfl, B0⟩
  by_cases h1 : n < 1
  · go_wp2_with fail
    go_ret
    exact ⟨rfl, B0⟩
  · by_cases h2 : (300 : Int) < n
    · go_wp2_with fail
      go_ret
      exact ⟨rfl, B0⟩
    · by_cases h3 : (100 : Int) < (b.length : Int)
      · go_wp2_with fail
        go_ret
        exact ⟨rfl, B0⟩
      · obtain ⟨k, rfl⟩ : ∃ k : Nat, n = k := ⟨n.toNat, by omega⟩
        go_wp2_with fail
        have hk1 : 1 ≤ k := by omega
        have hk2 : k ≤ 300 := by omega
        have hb3 : b.length ≤ 100 := by omega
        clear h1 h2 h3
        refine (new_ok k hk1 (by omega) _).mono ?_
        rintro e w' ⟨rfl, rfl⟩
        have D0 := Lib.hid (new_dev W0 w.heap.size k B0.size (by omega))
        obtain ⟨W1, hW1⟩ : ∃ W, W0.alloc (.cells #[.int .i64 (k : Int), .slice none 0 0, .int .i64 0] 74) = W := ⟨_, rfl⟩
        have B1 : Below w.heap.size w W1 := by rw [← hW1]; exact B0.alloc B0.size _
        rw [hW1] at D0 ⊢
        clear hW1
        go_wp2_with fail
        go_loopw [6, 9] (fun s6 s9 wr => ∃ j : Nat, j ≤ k ∧ s9 = .int .i64 (j : Int) ∧ ∃ v ps, Hid (Dev wr w.heap.size W0.heap.size v k ps 0 ∧ ps.length = j ∧ (∀ p ∈ ps, p.is = 1 ∧ p.l.length ≤ 300)) ∧ Below w.heap.size w wr)
          (fun _ s9 _ => k - (intOf s9).toNat)
        case atStart => exact ⟨0, Nat.zero_le _, rfl, _, [], Lib.hid ⟨D0.out, rfl, by simp⟩, B1⟩
        case round =>
          obtain ⟨j, hj, rfl, v, ps, hd, hbr⟩ := hrel
          by_cases hlt : j < k
          · go_wp2_with fail
            refine (free_any hd.out.1).mono ?_
            rintro e w2 ⟨he, nf, rfl⟩
            have he : e = .returned (.int .i64 ((k : Int) - (j : Int))) := by rw [he, hd.out.2.1]; congr 3; omega
            subst he
            go_wp2_with fail
            have hd2 := hd.out.1.below (bdrewN_refl _ wr nf)
            have hb2 := bdrewN hbr nf
            refine (append_s hd2 (by rw [hd.out.2.1]; exact hlt) A c w.heap.size b (hb.below hb2) hnil.out (by omega) hb2.size hb2.size).mono ?_
            rintro e w3 ⟨rfl, v3, p3, hp3, hl3, hd3, hb3⟩
            go_wp2_with fail
            go_roundw
            case rel => exact ⟨j + 1, by omega, by simp, v3, ps ++ [p3], Lib.hid ⟨hd3, by simp [hd.out.2.1], fun p hp => by
              rcases List.mem_append.1 hp with hp | hp
              · exact hd.out.2.2 p hp
              · simp at hp; subst hp; exact ⟨hp3, by rw [hl3]; omega⟩⟩, hb2.trans hb3⟩
            case measure => simp [intOf]; omega
          · obtain rfl : j = k := by omega
            clear D0
            go_wp2_with fail
            refine (append_full hd.out.1 hd.out.2.1 _).mono ?_
            rintro e w2 ⟨rfl, n1, rfl⟩
            go_wp2_with fail
            refine (free_any (hd.out.1.below (bdrewN_refl _ wr n1))).mono ?_
            rintro e w2 ⟨he, n2, rfl⟩
            have he : e = .returned (.int .i64 0) := by rw [he, hd.out.2.1]; simp
            subst he
            go_wp2_with fail
            have hs : Short ps := fun p hp => (hd.out.2.2 p hp).2
            have hw : ∀ p ∈ ps, p.is = 1 := fun p hp => (hd.out.2.2 p hp).1
            refine (pages_s (hd.out.1.below (bdrewN_refl _ wr (n1 + n2))) hs).mono ?_
            rintro e W2 ⟨v2, qs, rfl, hrow, hls, hq, hb2⟩
            have hql : qs.length = j := by have := congrArg List.length hls; rw [List.length_map, List.length_map, wh_all ps hw, hd.out.2.1] at this; exact this
            obtain ⟨A2, c2, rfl⟩ := own_form hrow
            rw [hql]
            have B2 : Below w.heap.size w W2 := (bdrewN hbr (n1 + n2)).trans (hb2.mono hbr.size)
            have D2 := Lib.hid ((hd.out.1.below (bdrewN_refl _ wr (n1 + n2))).below hb2)
            clear hrow hls hq hb2
            have hx := crash_one x ps hw
            have hsc := Short.crash hs [x] 0
            rw [hd.out.2.1] at hx
            have HX := Lib.hid hx
            have HS := Lib.hid hsc
            clear hw hs hd hx hsc hql
            go_wp2_with fail
            have hblk := heap_alloc_new W2 (.cells (bv [x]).toArray 5)
            have D2' := D2.out.below ((Below.refl _ W2).alloc (Nat.le_refl _) (.cells (bv [x]).toArray 5))
            have B2' := B2.alloc B2.size (.cells (bv [x]).toArray 5)
            refine (crash_s D2' B2'.size (some ⟨W2.heap.size, 0, none⟩) 1 (W2.heap.size + 1) [x] (fun W hf => Sl.of_block (hf.cells hblk (D2'.bytes hblk))) (by simp)).mono ?_
            rintro e W3 ⟨rfl, v3, D3, hb3⟩
            have B3 := B2'.trans hb3
            have D3 := Lib.hid D3
            clear D2' D2 hblk hb3
            have hcase : x.toNat % 3 = 0 ∨ x.toNat % 3 = 1 ∨ x.toNat % 3 = 2 := by omega
            rcases hcase with hx3 | hx3 | hx3
            · have hL : (crashPs [x] 0 ps).length = 0 := by rw [HX.out.1, hx3]; simp
              have hWl : (wh (crashPs [x] 0 ps)).length = 0 := by rw [HX.out.2, hx3]; simp
              have HL := Lib.hid hL
              have HW := Lib.hid hWl
              clear hL hWl
              go_wp2_with fail
              have B4 := Lib.hid ((B3.alloc B3.size (.cells #[.int .i64 (j : Int), .int .i64 0, .int .i64 0] 3)).alloc (by simp; have := B3.size; omega) (.cells #[.int .i64 0, .int .i64 (j : Int), .int .i64 0] 3))
              have D4 := Lib.hid (D3.out.below (((Below.refl _ _).alloc (Nat.le_refl _) (.cells #[.int .i64 (j : Int), .int .i64 0, .int .i64 0] 3)).alloc (by simp) (.cells #[.int .i64 0, .int .i64 (j : Int), .int .i64 0] 3)))
              generalize ((W3.alloc (.cells #[.int .i64 (j : Int), .int .i64 0, .int .i64 0] 3)).alloc (.cells #[.int .i64 0, .int .i64 (j : Int), .int .i64 0] 3)) = W4 at B4 D4 ⊢
              clear D3
              refine (free_any D4.out).mono ?_
              rintro e w2 ⟨he, n3, rfl⟩
              have he : e = .returned (.int .i64 (j : Nat)) := by rw [he, HL.out]; simp
              subst he
              go_wp2_with fail
              refine (pages_s (D4.out.below (bdrewN_refl _ W4 n3)) HS.out).mono ?_
              rintro e W5 ⟨v5, qs5, rfl, hrow, hls, hq, hb5⟩
              have hql : qs5.length = 0 := by have := congrArg List.length hls; rw [List.length_map, List.length_map, HW.out] at this; exact this
              obtain ⟨A5, c5, rfl⟩ := own_form hrow
              rw [hql]
              have B5 : Below w.heap.size w W5 := (bdrewN B4.out n3).trans (hb5.mono B4.out.size)
              have D5 := Lib.hid ((D4.out.below (bdrewN_refl _ W4 n3)).below hb5)
              clear hrow hls hq hb5 hql D4
              go_wp2_with fail
              refine (wipe_s D5.out B5.size).mono ?_
              rintro e W6 ⟨rfl, D6, hb6⟩
              have B6 := B5.trans hb6
              have D6 := Lib.hid D6
              clear D5 hb6
              go_wp2_with fail
              refine (crash_s D6.out B6.size none 0 0 [] (fun W hf => Sl.nil) (by simp)).mono ?_
              rintro e W7 ⟨rfl, v7, D7, hb7⟩
              have B7 := B6.trans hb7
              have D7 := Lib.hid D7
              clear D6 hb7
              go_wp2_with fail
              refine (free_any D7.out).mono ?_
              rintro e w2 ⟨he, n4, rfl⟩
              have he : e = .returned (.int .i64 (j : Nat)) := by rw [he]; simp [crashPs, stage]
              subst he
              go_wp2_with fail
              refine (pages_s (D7.out.below (bdrewN_refl _ W7 n4)) (Short.crash Short.nil [] 0)).mono ?_
              rintro e W8 ⟨v8, qs8, rfl, hrow, hls, hq, hb8⟩
              have hql : qs8.length = 0 := by have := congrArg List.length hls; rw [List.length_map, List.length_map] at this; rw [this]; simp [crashPs, stage, wh]
              obtain ⟨A8, c8, rfl⟩ := own_form hrow
              rw [hql]
              have B8 : Below w.heap.size w W8 := (bdrewN B7 n4).trans (hb8.mono B7.size)
              clear hrow hls hq hb8 hql D7
              go_wp2_with fail
              go_ret
              exact ⟨rfl, B8⟩
            · have hL : (crashPs [x] 0 ps).length = j := by rw [HX.out.1, hx3]; simp
              have hWl : (wh (crashPs [x] 0 ps)).length = j := by rw [HX.out.2, hx3]; simp
              have HL := Lib.hid hL
              have HW := Lib.hid hWl
              clear hL hWl
              go_wp2_with fail
              have B4 := Lib.hid ((B3.alloc B3.size (.cells #[.int .i64 (j : Int), .int .i64 0, .int .i64 0] 3)).alloc (by simp; have := B3.size; omega) (.cells #[.int .i64 0, .int .i64 (j : Int), .int .i64 0] 3))
              have D4 := Lib.hid (D3.out.below (((Below.refl _ _).alloc (Nat.le_refl _) (.cells #[.int .i64 (j : Int), .int .i64 0, .int .i64 0] 3)).alloc (by simp) (.cells #[.int .i64 0, .int .i64 (j : Int), .int .i64 0] 3)))
              generalize ((W3.alloc (.cells #[.int .i64 (j : Int), .int .i64 0, .int .i64 0] 3)).alloc (.cells #[.int .i64 0, .int .i64 (j : Int), .int .i64 0] 3)) = W4 at B4 D4 ⊢
              clear D3
              refine (free_any D4.out).mono ?_
              rintro e w2 ⟨he, n3, rfl⟩
              have he : e = .returned (.int .i64 (0 : Nat)) := by rw [he, HL.out]; simp
              subst he
              go_wp2_with fail
              refine (pages_s (D4.out.below (bdrewN_refl _ W4 n3)) HS.out).mono ?_
              rintro e W5 ⟨v5, qs5, rfl, hrow, hls, hq, hb5⟩
              have hql : qs5.length = j := by have := congrArg List.length hls; rw [List.length_map, List.length_map, HW.out] at this; exact this
              obtain ⟨A5, c5, rfl⟩ := own_form hrow
              rw [hql]
              have B5 : Below w.heap.size w W5 := (bdrewN B4.out n3).trans (hb5.mono B4.out.size)
              have D5 := Lib.hid ((D4.out.below (bdrewN_refl _ W4 n3)).below hb5)
              clear hrow hls hq hb5 hql D4
              go_wp2_with fail
              refine (wipe_s D5.out B5.size).mono ?_
              rintro e W6 ⟨rfl, D6, hb6⟩
              have B6 := B5.trans hb6
              have D6 := Lib.hid D6
              clear D5 hb6
              go_wp2_with fail
              refine (crash_s D6.out B6.size none 0 0 [] (fun W hf => Sl.nil) (by simp)).mono ?_
              rintro e W7 ⟨rfl, v7, D7, hb7⟩
              have B7 := B6.trans hb7
              have D7 := Lib.hid D7
              clear D6 hb7
              go_wp2_with fail
              refine (free_any D7.out).mono ?_
              rintro e w2 ⟨he, n4, rfl⟩
              have he : e = .returned (.int .i64 (j : Nat)) := by rw [he]; simp [crashPs, stage]
              subst he
              go_wp2_with fail
              refine (pages_s (D7.out.below (bdrewN_refl _ W7 n4)) (Short.crash Short.nil [] 0)).mono ?_
              rintro e W8 ⟨v8, qs8, rfl, hrow, hls, hq, hb8⟩
              have hql : qs8.length = 0 := by have := congrArg List.length hls; rw [List.length_map, List.length_map] at this; rw [this]; simp [crashPs, stage, wh]
              obtain ⟨A8, c8, rfl⟩ := own_form hrow
              rw [hql]
              have B8 : Below w.heap.size w W8 := (bdrewN B7 n4).trans (hb8.mono B7.size)
              clear hrow hls hq hb8 hql D7
              go_wp2_with fail
              go_ret
              exact ⟨rfl, B8⟩
            · have hL : (crashPs [x] 0 ps).length = j := by rw [HX.out.1, hx3]; simp
              have hWl : (wh (crashPs [x] 0 ps)).length = 0 := by rw [HX.out.2, hx3]; simp
              have HL := Lib.hid hL
              have HW := Lib.hid hWl
              clear hL hWl
              go_wp2_with fail
              have B4 := Lib.hid ((B3.alloc B3.size (.cells #[.int .i64 (j : Int), .int .i64 0, .int .i64 0] 3)).alloc (by simp; have := B3.size; omega) (.cells #[.int .i64 0, .int .i64 (j : Int), .int .i64 0] 3))
              have D4 := Lib.hid (D3.out.below (((Below.refl _ _).alloc (Nat.le_refl _) (.cells #[.int .i64 (j : Int), .int .i64 0, .int .i64 0] 3)).alloc (by simp) (.cells #[.int .i64 0, .int .i64 (j : Int), .int .i64 0] 3)))
              generalize ((W3.alloc (.cells #[.int .i64 (j : Int), .int .i64 0, .int .i64 0] 3)).alloc (.cells #[.int .i64 0, .int .i64 (j : Int), .int .i64 0] 3)) = W4 at B4 D4 ⊢
              clear D3
              refine (free_any D4.out).mono ?_
              rintro e w2 ⟨he, n3, rfl⟩
              have he : e = .returned (.int .i64 (0 : Nat)) := by rw [he, HL.out]; simp
              subst he
              go_wp2_with fail
              refine (pages_s (D4.out.below (bdrewN_refl _ W4 n3)) HS.out).mono ?_
              rintro e W5 ⟨v5, qs5, rfl, hrow, hls, hq, hb5⟩
              have hql : qs5.length = 0 := by have := congrArg List.length hls; rw [List.length_map, List.length_map, HW.out] at this; exact this
              obtain ⟨A5, c5, rfl⟩ := own_form hrow
              rw [hql]
              have B5 : Below w.heap.size w W5 := (bdrewN B4.out n3).trans (hb5.mono B4.out.size)
              have D5 := Lib.hid ((D4.out.below (bdrewN_refl _ W4 n3)).below hb5)
              clear hrow hls hq hb5 hql D4
              go_wp2_with fail
              refine (wipe_s D5.out B5.size).mono ?_
              rintro e W6 ⟨rfl, D6, hb6⟩
              have B6 := B5.trans hb6
              have D6 := Lib.hid D6
              clear D5 hb6
              go_wp2_with fail
              refine (crash_s D6.out B6.size none 0 0 [] (fun W hf => Sl.nil) (by simp)).mono ?_
              rintro e W7 ⟨rfl, v7, D7, hb7⟩
              have B7 := B6.trans hb7
              have D7 := Lib.hid D7
              clear D6 hb7
              go_wp2_with fail
              refine (free_any D7.out).mono ?_
              rintro e w2 ⟨he, n4, rfl⟩
              have he : e = .returned (.int .i64 (j : Nat)) := by rw [he]; simp [crashPs, stage]
              subst he
              go_wp2_with fail
              refine (pages_s (D7.out.below (bdrewN_refl _ W7 n4)) (Short.crash Short.nil [] 0)).mono ?_
              rintro e W8 ⟨v8, qs8, rfl, hrow, hls, hq, hb8⟩
              have hql : qs8.length = 0 := by have := congrArg List.length hls; rw [List.length_map, List.length_map] at this; rw [this]; simp [crashPs, stage, wh]
              obtain ⟨A8, c8, rfl⟩ := own_form hrow
              rw [hql]
              have B8 : Below w.heap.size w W8 := (bdrewN B7 n4).trans (hb8.mono B7.size)
              clear hrow hls hq hb8 hql D7
              go_wp2_with fail
              go_ret
              exact ⟨rfl, B8⟩
end Go.Proofs.Ytbmodlhnkbohhaa
