/- tidelinelaw08.SameList: whether two rows of rows of bytes are one. -/
import Derived.Test.YtbmodlhnkbohhaaSame
import Derived.Test.YtbmodlhnkbohhaaPagesAll
namespace Go.Proofs.Ytbmodlhnkbohhaa
open Go.RowKit
set_option linter.unusedVariables false

theorem map_ne_of_get {ps qs : List Pg} {k : Nat} (h1 : k < ps.length) (h2 : k < qs.length) (h : ps[k].l ≠ qs[k].l) : ps.map (·.l) ≠ qs.map (·.l) := by
  intro e
  have := congrArg (fun l => l[k]?) e
  simp [h1, h2] at this
  exact h this

set_option maxRecDepth 100000 in
set_option maxHeartbeats 2000000 in
theorem slist_any (A1 A2 : Option Addr) (c1 c2 B : Nat) (ps qs : List Pg) (w : World) (h1 : Sl w B A1 (ps.map Pg.sl)) (h2 : Sl w B A2 (qs.map Pg.sl)) (hB : B ≤ w.heap.size)
    (hp : ∀ p ∈ ps, Sl w B p.A (bv p.l) ∧ p.l.length ≤ maxLen) (hq : ∀ q ∈ qs, Sl w B q.A (bv q.l) ∧ q.l.length ≤ maxLen) (hl1 : ps.length ≤ maxLen) (hl2 : qs.length ≤ maxLen) :
    Calls Try.prog 16 #[.slice A1 ps.length c1, .slice A2 qs.length c2] w fun e w' => e = .returned (.bool (decide (ps.map (·.l) = qs.map (·.l)))) ∧ Below w.heap.size w w' := by
  by_cases hl : ps.length = qs.length
  · have hb : (((ps.length : Nat) : Int) != ((qs.length : Nat) : Int)) = false := by simp [hl]
    have HL := Lib.hid hl
    clear hl
    have HP := Lib.hid hp
    have HQ := Lib.hid hq
    have HM := Lib.hid hl1
    clear hp hq
    unfold maxLen at hl1 hl2
    go_enter Try.func16, Try.ntmps16
    go_wp2
    go_loopw [13] (fun i wr => ∃ k : Nat, k ≤ ps.length ∧ i = .int .i64 k ∧ Hid ((ps.map (·.l)).take k = (qs.map (·.l)).take k) ∧ Below w.heap.size w wr) (fun i _ => ps.length - (intOf i).toNat)
    case atStart => exact ⟨0, Nat.zero_le _, rfl, by simp [Hid], Below.refl _ _⟩
    case round =>
      obtain ⟨k, hk, rfl, ht, hbl⟩ := hrel
      by_cases hlt : k < ps.length
      · have hlt2 : k < qs.length := by rw [← HL.out]; exact hlt
        obtain ⟨b1, o1, rfl, hb1, hc1⟩ := (h1.below (hbl.mono hB)).at (k := k) (by simpa using hlt)
        obtain ⟨b2, o2, rfl, hb2, hc2⟩ := (h2.below (hbl.mono hB)).at (k := k) (by simpa using hlt2)
        rw [List.getElem_map, show ps[k].sl = Value.slice ps[k].A ps[k].l.length ps[k].c from rfl] at hc1
        rw [List.getElem_map, show qs[k].sl = Value.slice qs[k].A qs[k].l.length qs[k].c from rfl] at hc2
        have hs := hbl.size
        have hb1' : b1 < wr.heap.size := by omega
        have hb2' : b2 < wr.heap.size := by omega
        have hi1 : (k : Int) < ((ps.length : Nat) : Int) := by omega
        have hi2 : (k : Int) < ((qs.length : Nat) : Int) := by omega
        have HS : Hid (∀ u, Calls Try.prog 48 #[.slice ps[k].A ps[k].l.length ps[k].c, .slice qs[k].A qs[k].l.length qs[k].c] (over wr u) fun e w' => e = .returned (.bool (decide (ps[k].l = qs[k].l))) ∧ ∃ n, w' = (over wr u).drewN n) := by
          intro u
          have hbu := (hbl.mono hB).trans ((over_below wr u).mono (by omega))
          exact same_any _ _ _ _ B _ _ _ ((HP.out _ (List.getElem_mem hlt)).1.below hbu) ((HQ.out _ (List.getElem_mem hlt2)).1.below hbu) (HP.out _ (List.getElem_mem hlt)).2 (HQ.out _ (List.getElem_mem hlt2)).2
        obtain ⟨t, et⟩ : ∃ t, decide (ps[k].l = qs[k].l) = t := ⟨_, rfl⟩
        rw [et] at HS
        clear h1 h2
        cases t
        · have HE := Lib.hid (map_ne_of_get hlt hlt2 (of_decide_eq_false et))
          clear et
          go_wp2_with fail
          refine wp_region_over (by kernel_rfl) (by kernel_rfl) ?_
          repeat (go_big_quiet_step ((go_at_call 48; with_reducible exact over_call_drew (HS.out _))))
          refine wpQuiet_nil ?_
          rintro _ ⟨u, rfl⟩
          go_wp2
          go_ret
          exact ⟨ret_bool (by simpa using HE.out), hbl.trans ((over_below wr u).mono (by omega))⟩
        · have hnext : Hid ((ps.map (·.l)).take (k + 1) = (qs.map (·.l)).take (k + 1)) := by
            show _ = _
            rw [List.take_succ_eq_append_getElem (by simpa using hlt), List.take_succ_eq_append_getElem (by simpa using hlt2), ht.out, List.getElem_map, List.getElem_map, of_decide_eq_true et]
          clear et
          go_wp2_with fail
          refine wp_region_over (by kernel_rfl) (by kernel_rfl) ?_
          repeat (go_big_quiet_step ((go_at_call 48; with_reducible exact over_call_drew (HS.out _))))
          refine wpQuiet_nil ?_
          rintro _ ⟨u, rfl⟩
          go_wp2
          go_roundw
          case rel => exact ⟨k + 1, by omega, by go_num, hnext, hbl.trans ((over_below wr u).mono (by omega))⟩
          case measure => simp [intOf]; omega
      · have HE : Hid (ps.map (·.l) = qs.map (·.l)) := by
          have := ht.out
          rw [List.take_of_length_le (by simp; omega), List.take_of_length_le (by simp; have := HL.out; omega)] at this
          exact this
        go_wp2
        go_ret
        exact ⟨ret_bool (by simpa using HE.out), hbl⟩
  · have hb : (((ps.length : Nat) : Int) != ((qs.length : Nat) : Int)) = true := by rw [bne_iff_ne]; omega
    have HE : Hid (ps.map (·.l) ≠ qs.map (·.l)) := by intro e; exact hl (by simpa using congrArg List.length e)
    clear hl
    go_enter Try.func16, Try.ntmps16
    go_wp2
    go_ret
    exact ⟨ret_bool (by simpa using HE.out), Below.refl _ _⟩
end Go.Proofs.Ytbmodlhnkbohhaa
