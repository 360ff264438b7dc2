/- tidelinelaw08.DeviceLasts: the walk. -/
import Derived.Test.YtbmodlhnkbohhaaDfillw
import Derived.Test.YtbmodlhnkbohhaaSList
import Derived.Test.YtbmodlhnkbohhaaReadL
namespace Go.Proofs.Ytbmodlhnkbohhaa
open Go.RowKit
set_option linter.unusedVariables false

def sAddr : Value → Option Addr
  | .slice A _ _ => A
  | _ => none

theorem Sl.take {w : World} {B : Nat} {A : Option Addr} {xs : List Value} (h : Sl w B A xs) (m : Nat) : Sl w B A (xs.take m) := by
  rcases h with h | ⟨b, o, e, hb, hr⟩
  · exact .inl (by rw [h, List.take_nil])
  · refine .inr ⟨b, o, e, hb, fun k v hv => hr k v ?_⟩
    rw [List.getElem?_take] at hv
    split at hv
    · exact hv
    · cases hv

theorem trimPs_ge (m : Nat) (ps : List Pg) (h : ∀ j (hj : j < ps.length), j < m → ps[j].is ≠ 0) : ∀ n, m ≤ n → n ≤ ps.length → m ≤ trimPs n ps
  | 0, h1, _ => by omega
  | n + 1, h1, h2 => by
    rw [trimPs_step n ps (by omega)]
    rcases Nat.lt_or_ge n m with hn | hn
    · rw [if_neg (h n (by omega) hn)]; omega
    · split
      · exact trimPs_ge m ps h n hn (by omega)
      · omega

/-- What lasts stands behind any crash, ahead of the rest. -/
theorem crash_lasts (pk : List UInt8) (lasts : Nat) (ds : List Pg) (h : ∀ p ∈ ds, p.is = 1) (hl : lasts ≤ ds.length) :
    ∃ r, wh (crashPs pk lasts ds) = ds.take lasts ++ r ∧ r.length ≤ ds.length - lasts := by
  obtain ⟨s, hs⟩ : ∃ s, stage pk lasts (ds.length - lasts) ds = s := ⟨_, rfl⟩
  have hsl : s.length = ds.length := by rw [← hs, stage_len]
  have hst : s.take lasts = ds.take lasts := by
    apply List.ext_getElem
    · simp [hsl]
    · intro i h1 h2
      have hi : i < lasts := by simp at h1; omega
      subst hs
      simp [stage]
      intro h3
      omega
  have hge : lasts ≤ trimPs s.length s := by
    refine trimPs_ge lasts s (fun j hj hjl => ?_) _ (by omega) (Nat.le_refl _)
    have e : (s.take lasts)[j]? = (ds.take lasts)[j]? := by rw [hst]
    rw [List.getElem?_take_of_lt hjl, List.getElem?_take_of_lt hjl, List.getElem?_eq_getElem hj, List.getElem?_eq_getElem (by omega)] at e
    injection e with e
    rw [e, h _ (List.getElem_mem _)]
    decide
  have hc : crashPs pk lasts ds = ds.take lasts ++ (s.take (trimPs s.length s)).drop lasts := by
    unfold crashPs
    simp only [hs]
    conv => lhs; rw [← List.take_append_drop lasts (s.take (trimPs s.length s))]
    rw [List.take_take, Nat.min_eq_left hge, hst]
  refine ⟨wh ((s.take (trimPs s.length s)).drop lasts), ?_, ?_⟩
  · rw [hc, wh_app, wh_all (ds.take lasts) (fun p hp => h p (List.mem_of_mem_take hp))]
  · refine Nat.le_trans (List.length_filter_le _ _) ?_
    simp
    have := trimPs_le s.length s
    omega

set_option maxRecDepth 100000 in
set_option maxHeartbeats 4000000 in
theorem lasts_walk (A1 A2 A3 : Option Addr) (c1 c2 c3 : Nat) (ps qs : List Pg) (pk : List UInt8) (w : World) (h1 : Sl w w.heap.size A1 (ps.map Pg.sl)) (h2 : Sl w w.heap.size A2 (qs.map Pg.sl)) (h3 : Sl w w.heap.size A3 (bv pk))
    (hp : ∀ p ∈ ps, PB0 w p) (hq : ∀ q ∈ qs, PB0 w q) (hpl : ∀ p ∈ ps, p.l.length ≤ maxLen) :
    Calls Try.prog 3 #[.slice A1 ps.length c1, .slice A2 qs.length c2, .slice A3 pk.length c3] w fun e w' => e = .returned (.bool true) ∧ Below w.heap.size w w' := by
  have HP := Lib.hid hp
  have HQ := Lib.hid hq
  have HPL := Lib.hid hpl
  clear hp hq hpl
  go_enter Try.func3, Try.ntmps3
  go_wp2_with fail
  refine (dspeak_any w).mono ?_
  rintro e W0 ⟨rfl, B0⟩
  by_cases t1 : (60 : Int) < (ps.length : Int)
  · go_wp2_with fail
    go_ret
    exact ⟨rfl, B0⟩
  · by_cases t2 : (60 : Int) < (qs.length : Int)
    · go_wp2_with fail
      go_ret
      exact ⟨rfl, B0⟩
    · by_cases t3 : (200 : Int) < (pk.length : Int)
      · go_wp2_with fail
        go_ret
        exact ⟨rfl, B0⟩
      · go_wp2_with fail
        have hk1 : ps.length ≤ 60 := by omega
        have hk2 : qs.length ≤ 60 := by omega
        have hk3 : pk.length ≤ 200 := by omega
        clear t1 t2 t3
        refine (new_ok 200 (by omega) (by omega) _).mono ?_
        rintro e w' ⟨rfl, rfl⟩
        have D0 := Lib.hid (new_dev W0 w.heap.size 200 B0.size (by omega))
        obtain ⟨W1, hW1⟩ : ∃ W, W0.alloc (.cells #[.int .i64 ((200 : Nat) : Int), .slice none 0 0, .int .i64 0] 74) = W := ⟨_, rfl⟩
        have B1 : Below w.heap.size w W1 := by rw [← hW1]; exact B0.alloc B0.size _
        rw [hW1] at D0 ⊢
        clear hW1
        go_wp2_with fail
        go_loopw [41] (fun s wr => ∃ j : Nat, j ≤ ps.length ∧ s = .int .i64 (j : Int) ∧ ∃ v ds, Hid (Dev wr w.heap.size W0.heap.size v 200 ds 0 ∧ ds.map (·.l) = (ps.take j).map (·.l) ∧ (∀ p ∈ ds, p.is = 1 ∧ p.l.length ≤ 300)) ∧ Below w.heap.size w wr)
          (fun s _ => ps.length - (intOf s).toNat)
        case atStart => exact ⟨0, Nat.zero_le _, rfl, _, [], Lib.hid ⟨D0.out, rfl, by simp⟩, B1⟩
        case round =>
          obtain ⟨j, hj, rfl, v, ds, hd, hbr⟩ := hrel
          by_cases hlt : j < ps.length
          · obtain ⟨b1, o1, rfl, hb1, hc1⟩ := (h1.below hbr).at (k := j) (by simpa using hlt)
            rw [List.getElem_map, show ps[j].sl = Value.slice ps[j].A ps[j].l.length ps[j].c from rfl] at hc1
            have hi1 : (j : Int) < ((ps.length : Nat) : Int) := by omega
            by_cases ht : (300 : Int) < ((ps[j].l.length : Nat) : Int)
            · clear D0
              go_wp2_with fail
              go_ret
              exact ⟨rfl, hbr⟩
            · have hlen : ds.length = j := by have := congrArg List.length hd.out.2.1; simpa [Nat.min_eq_left hj] using this
              have HLEN := Lib.hid hlen
              have HT : Hid (ps[j].l.length ≤ 300) := by show _ ≤ _; omega
              clear hlen
              go_wp2_with fail
              refine (append_s hd.out.1 (by rw [HLEN.out]; omega) ps[j].A ps[j].c w.heap.size ps[j].l ((HP.out _ (List.getElem_mem hlt)).1.below hbr) (HP.out _ (List.getElem_mem hlt)).2.1 (by have := HT.out; omega) hbr.size hbr.size).mono ?_
              rintro e w3 ⟨rfl, v3, p3, hp3, hl3, hd3, hb3⟩
              go_wp2_with fail
              go_roundw
              case rel => exact ⟨j + 1, by omega, by simp, v3, ds ++ [p3], Lib.hid ⟨hd3, by rw [List.map_append, hd.out.2.1, List.take_succ_eq_append_getElem hlt, List.map_append]; simp [hl3], fun p hp => by
                rcases List.mem_append.1 hp with hp | hp
                · exact hd.out.2.2 p hp
                · simp at hp; subst hp; exact ⟨hp3, by rw [hl3]; exact HT.out⟩⟩, hbr.trans hb3⟩
              case measure => simp [intOf]; omega
          · obtain rfl : j = ps.length := by omega
            clear D0
            rw [List.take_length] at hd
            have hlen : ds.length = ps.length := by have := congrArg List.length hd.out.2.1; simpa using this
            have HLEN := Lib.hid hlen
            clear hlen
            go_wp2_with fail
            refine (sync_s hd.out.1 hbr.size).mono ?_
            rintro e W2 ⟨rfl, D2, hb2⟩
            have B2 := hbr.trans hb2
            rw [HLEN.out] at D2
            have D2 := Lib.hid D2
            clear hb2
            go_wp2_with fail
            go_loopw [62] (fun s wr => ∃ j : Nat, j ≤ qs.length ∧ s = .int .i64 (j : Int) ∧ ∃ v es, Hid (Dev wr w.heap.size W0.heap.size v 200 (ds ++ es) ps.length ∧ es.length = j ∧ (∀ p ∈ es, p.is = 1 ∧ p.l.length ≤ 300)) ∧ Below w.heap.size w wr)
              (fun s _ => qs.length - (intOf s).toNat)
            case atStart => exact ⟨0, Nat.zero_le _, rfl, _, [], Lib.hid ⟨by rw [List.append_nil]; exact D2.out, rfl, by simp⟩, B2⟩
            case round =>
              obtain ⟨j, hj2, rfl, v2, es, he, hbr2⟩ := hrel
              by_cases hlt2 : j < qs.length
              · obtain ⟨b1, o1, rfl, hb1, hc1⟩ := (h2.below hbr2).at (k := j) (by simpa using hlt2)
                rw [List.getElem_map, show qs[j].sl = Value.slice qs[j].A qs[j].l.length qs[j].c from rfl] at hc1
                have hi1 : (j : Int) < ((qs.length : Nat) : Int) := by omega
                by_cases ht : (300 : Int) < ((qs[j].l.length : Nat) : Int)
                · clear D2
                  go_wp2_with fail
                  go_ret
                  exact ⟨rfl, hbr2⟩
                · have HT : Hid (qs[j].l.length ≤ 300) := by show _ ≤ _; omega
                  go_wp2_with fail
                  refine (append_s he.out.1 (by rw [List.length_append, HLEN.out, he.out.2.1]; omega) qs[j].A qs[j].c w.heap.size qs[j].l ((HQ.out _ (List.getElem_mem hlt2)).1.below hbr2) (HQ.out _ (List.getElem_mem hlt2)).2.1 (by have := HT.out; omega) hbr2.size hbr2.size).mono ?_
                  rintro e w3 ⟨rfl, v3, p3, hp3, hl3, hd3, hb3⟩
                  go_wp2_with fail
                  go_roundw
                  case rel => exact ⟨j + 1, by omega, by simp, v3, es ++ [p3], Lib.hid ⟨by rw [← List.append_assoc]; exact hd3, by simp [he.out.2.1], fun p hp => by
                    rcases List.mem_append.1 hp with hp | hp
                    · exact he.out.2.2 p hp
                    · simp at hp; subst hp; exact ⟨hp3, by rw [hl3]; exact HT.out⟩⟩, hbr2.trans hb3⟩
                  case measure => simp [intOf]; omega
              · obtain rfl : j = qs.length := by omega
                clear D2 B2
                go_wp2_with fail
                refine (crash_s he.out.1 hbr2.size A3 c3 w.heap.size pk (fun W hf => h3.below (hbr2.trans (he.out.1.fr hbr2.size hf))) (by omega)).mono ?_
                rintro e W3 ⟨rfl, v3, D3, hb3⟩
                have B3 := hbr2.trans hb3
                have D3 := Lib.hid D3
                clear hb3
                have hall : ∀ p ∈ ds ++ es, p.is = 1 ∧ p.l.length ≤ 300 := fun p hp => by
                  rcases List.mem_append.1 hp with hp | hp
                  · exact hd.out.2.2 p hp
                  · exact he.out.2.2 p hp
                have hsh : Hid (Short (crashPs pk ps.length (ds ++ es))) := Short.crash (fun p hp => (hall p hp).2) pk ps.length
                obtain ⟨r, hr1, hr2⟩ := crash_lasts pk ps.length (ds ++ es) (fun p hp => (hall p hp).1) (by rw [List.length_append, HLEN.out]; omega)
                have hr1 : Hid ((wh (crashPs pk ps.length (ds ++ es))).map (·.l) = ps.map (·.l) ++ r.map (·.l)) := by
                  show _ = _
                  rw [hr1, List.map_append, List.take_left' HLEN.out, hd.out.2.1]
                have hr2 : Hid (r.length ≤ qs.length) := by show _ ≤ _; rw [List.length_append, HLEN.out, he.out.2.1] at hr2; omega
                clear hall
                go_wp2_with fail
                refine (pages_s D3.out hsh.out).mono ?_
                rintro e W4 ⟨v4, xs, rfl, hrow, hls, hx, hb4⟩
                have B4 := B3.trans (hb4.mono B3.size)
                rw [hr1.out] at hls
                have hxl : xs.length = ps.length + r.length := by have := congrArg List.length hls; simpa using this
                have HLS := Lib.hid hls
                have HR := Lib.hid hr2.out
                have hxs : ∀ q ∈ xs, Sl W4 W4.heap.size q.A (bv q.l) ∧ q.l.length ≤ maxLen := fun q hq => ⟨Sl.of_own (hx q hq), by
                  have hm : q.l ∈ xs.map (·.l) := List.mem_map_of_mem hq
                  rw [HLS.out, ← hr1.out] at hm
                  obtain ⟨p, hpm, hpe⟩ := List.mem_map.1 hm
                  have := hsh.out p (List.mem_filter.1 (show p ∈ List.filter _ _ from hpm)).1
                  rw [← hpe]; unfold maxLen; omega⟩
                have HXS := Lib.hid hxs
                have HXL := Lib.hid hxl
                have q1 : ((ps.length : Nat) : Int) ≤ ((xs.length : Nat) : Int) := by omega
                have q2 : ((xs.length : Nat) : Int) ≤ ((ps.length : Nat) : Int) + ((qs.length : Nat) : Int) := by have := HR.out; omega
                clear hls hxs hxl hb4 D3 hd he hsh hr1 hr2
                have hfin : Hid ((xs.take ps.length).map (·.l) = ps.map (·.l)) := by
                  show _ = _
                  rw [List.map_take, HLS.out, List.take_left' (by simp)]
                have hSx : Hid (Sl W4 W4.heap.size (sAddr v4) ((xs.take ps.length).map Pg.sl)) := by
                  obtain ⟨A4, c4, e4⟩ := own_form hrow
                  subst e4
                  have := (Sl.of_own hrow).take ps.length
                  rw [← List.map_take] at this
                  exact this
                have hSL : Hid (∀ (A4 : Option Addr) (c4 : Nat), (sAddr v4) = A4 → Calls Try.prog 16 #[.slice A4 ps.length c4, .slice A1 ps.length c1] W4 fun e w' => e = .returned (.bool true) ∧ Below W4.heap.size W4 w') := by
                  intro A4 c4 e4
                  have hx4 := hSx.out
                  rw [e4] at hx4
                  have hle : (xs.take ps.length).length = ps.length := by rw [List.length_take, HXL.out]; omega
                  have hc := slist_any A4 A1 c4 c1 W4.heap.size (xs.take ps.length) ps W4 hx4 ((h1.below B4).more B4.size) (Nat.le_refl _)
                    (fun q hq => HXS.out q (List.mem_of_mem_take hq)) (fun q hq => ⟨((HP.out q hq).1.below B4).more B4.size, HPL.out q hq⟩) (by rw [hle]; unfold maxLen; omega) (by unfold maxLen; omega)
                  rw [hle] at hc
                  exact hc.mono fun e w' ⟨he, hb⟩ => ⟨by rw [he, hfin.out]; simp, hb⟩
                rcases hrow.2 with ⟨e4, h0⟩ | ⟨gg, cap, cur, e4, hge, hhb, hncap, -⟩
                · have hz : ps.length = 0 := by have := HXL.out; omega
                  have hz' : ((ps.length : Nat) : Int) = 0 := by omega
                  subst e4
                  clear hrow
                  have hr0 : Hid (xs.length = 0) := h0
                  go_wp2_with fail
                  have hcl := hSL.out none 0 rfl
                  rw [hz] at hcl
                  with_reducible refine hcl.mono ?_
                  rintro e W5 ⟨rfl, hb5⟩
                  go_wp2_with fail
                  go_ret
                  exact ⟨rfl, B4.trans (hb5.mono B4.size)⟩
                · subst e4
                  have q3 : ((ps.length : Nat) : Int) ≤ (cap : Int) := by omega
                  clear hrow
                  go_wp2_with fail
                  have hcl := hSL.out (some ⟨gg, 0, none⟩) cap rfl
                  with_reducible refine hcl.mono ?_
                  rintro e W5 ⟨rfl, hb5⟩
                  go_wp2_with fail
                  go_ret
                  exact ⟨rfl, B4.trans (hb5.mono B4.size)⟩
end Go.Proofs.Ytbmodlhnkbohhaa
