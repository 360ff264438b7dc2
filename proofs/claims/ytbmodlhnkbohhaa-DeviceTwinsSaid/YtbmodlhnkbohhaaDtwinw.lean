/- tidelinelaw08.DeviceTwins: the walk. -/
import Derived.Test.YtbmodlhnkbohhaaPair
namespace Go.Proofs.Ytbmodlhnkbohhaa
open Go.RowKit
set_option linter.unusedVariables false

/-- All pages are whole, none long. -/
def Whole (ps : List Pg) : Prop := ∀ p ∈ ps, p.is = 1 ∧ p.l.length ≤ 300
theorem Whole.app {ps qs : List Pg} (h : Whole ps) (k : Whole qs) : Whole (ps ++ qs) := fun p hp => by
  rcases List.mem_append.1 hp with hp | hp
  · exact h p hp
  · exact k p hp
theorem Whole.one {p : Pg} (h1 : p.is = 1) (h2 : p.l.length ≤ 300) : Whole [p] := fun q hq => by simp at hq; subst hq; exact ⟨h1, h2⟩
theorem Whole.wh {ps : List Pg} (h : Whole ps) : wh ps = ps := wh_all ps fun p hp => (h p hp).1
theorem Whole.short {ps : List Pg} (h : Whole ps) : Short ps := fun p hp => (h p hp).2

theorem bits_one (j : Nat) (hj : j < 1000) : bits BinOp.and IntKind.i64 (j : Int) 1 = ((j % 2 : Nat) : Int) := by
  have h1 : (BitVec.ofInt 64 (j : Int)).toNat = j := by
    rw [BitVec.ofInt_natCast, BitVec.toNat_ofNat]; exact Nat.mod_eq_of_lt (by omega)
  show IntKind.i64.wrap ((BitVec.ofInt 64 (j : Int) &&& BitVec.ofInt 64 ((1 : Nat) : Int)).toNat : Int) = _
  rw [BitVec.toNat_and, h1, show (BitVec.ofInt 64 ((1 : Nat) : Int)).toNat = 1 from rfl, Nat.and_one_is_mod]
  rw [IntKind.wrap_i64]
  omega

/-- One more of the two's pages. -/
theorem Appended.turn {w w' : World} {n0 g g2 room room2 lasts lasts2 : Nat} {v v2 : Value} {ps ps2 : List Pg} {b : List UInt8} {e : Ending} (h : Apart w n0 g v room ps lasts g2 v2 room2 ps2 lasts2) (ha : Appended n0 g v room ps lasts b w e w') (hn0 : n0 ≤ w.heap.size) :
    e = .returned (.int .i64 0) ∧ ∃ v' p, p.is = 1 ∧ p.l = b ∧ Apart w' n0 g v' room (ps ++ [p]) lasts g2 v2 room2 ps2 lasts2 ∧ Below n0 w w' := by
  obtain ⟨he, v', p, h1, h2, h3, h4, h5⟩ := ha
  exact ⟨he, v', p, h1, h2, h.turn h4 h3 h5, h.d.fr hn0 h4⟩

set_option maxRecDepth 100000 in
set_option maxHeartbeats 4000000 in
theorem twins_walk (A1 A2 : Option Addr) (c1 c2 : Nat) (ps qs : List Pg) (w : World) (h1 : Sl w w.heap.size A1 (ps.map Pg.sl)) (h2 : Sl w w.heap.size A2 (qs.map Pg.sl))
    (hp : ∀ p ∈ ps, PB0 w p) (hq : ∀ q ∈ qs, PB0 w q) :
    Calls Try.prog 6 #[.slice A1 ps.length c1, .slice A2 qs.length c2] w fun e w' => e = .returned (.bool true) ∧ Below w.heap.size w w' := by
  have HP := Lib.hid hp
  have HQ := Lib.hid hq
  clear hp hq
  go_enter Try.func6, Try.ntmps6
  go_wp2_with fail
  refine (dspeak_any w).mono ?_
  rintro e W0 ⟨rfl, B0⟩
  by_cases t1 : (40 : Int) < (ps.length : Int)
  · go_wp2_with fail
    go_ret
    exact ⟨rfl, B0⟩
  · by_cases t2 : (40 : Int) < (qs.length : Int)
    · go_wp2_with fail
      go_ret
      exact ⟨rfl, B0⟩
    · go_wp2_with fail
      have hk1 : ps.length ≤ 40 := by omega
      have hk2 : qs.length ≤ 40 := by omega
      clear t1 t2
      refine (new_ok 100 (by omega) (by omega) _).mono ?_
      rintro e w' ⟨rfl, rfl⟩
      have D0 := Lib.hid (new_dev W0 w.heap.size 100 B0.size (by omega))
      obtain ⟨W1, hW1⟩ : ∃ W, W0.alloc (.cells #[.int .i64 ((100 : Nat) : Int), .slice none 0 0, .int .i64 0] 74) = W := ⟨_, rfl⟩
      have B1 : Below w.heap.size w W1 := by rw [← hW1]; exact B0.alloc B0.size _
      rw [hW1] at D0 ⊢
      clear hW1
      go_wp2_with fail
      go_loopw [36] (fun s wr => ∃ j : Nat, j ≤ ps.length ∧ s = .int .i64 (j : Int) ∧ ∃ v ds, Hid (Dev wr w.heap.size W0.heap.size v 100 ds 0 ∧ ds.map (·.l) = (ps.take j).map (·.l) ∧ Whole ds) ∧ Below w.heap.size w wr)
        (fun s _ => ps.length - (intOf s).toNat)
      case atStart => exact ⟨0, Nat.zero_le _, rfl, _, [], Lib.hid ⟨D0.out, rfl, by intro p hp; simp at hp⟩, B1⟩
      case round =>
        obtain ⟨j, hj, rfl, v, ds, hd, hbr⟩ := hrel
        by_cases hlt : j < ps.length
        · obtain ⟨b1, o1, rfl, hb1, hc1⟩ := (h1.below hbr).at (k := j) (by simpa using hlt)
          rw [List.getElem_map, show ps[j].sl = Value.slice ps[j].A ps[j].l.length ps[j].c from rfl] at hc1
          have hi1 : (j : Int) < ((ps.length : Nat) : Int) := by omega
          by_cases ht : (100 : Int) < ((ps[j].l.length : Nat) : Int)
          · clear D0
            go_wp2_with fail
            go_ret
            exact ⟨rfl, hbr⟩
          · have hlen : ds.length = j := by have := congrArg List.length hd.out.2.1; simpa [Nat.min_eq_left hj] using this
            have HLEN := Lib.hid hlen
            have HT : Hid (ps[j].l.length ≤ 100) := by show _ ≤ _; omega
            clear hlen
            go_wp2_with fail
            refine (append_s hd.out.1 (by rw [HLEN.out]; omega) ps[j].A ps[j].c w.heap.size ps[j].l ((HP.out _ (List.getElem_mem hlt)).1.below hbr) (HP.out _ (List.getElem_mem hlt)).2.1 (by have := HT.out; omega) hbr.size hbr.size).mono ?_
            rintro e w3 ⟨rfl, v3, p3, hp3, hl3, hd3, hb3⟩
            go_wp2_with fail
            go_roundw
            case rel => exact ⟨j + 1, by omega, by simp, v3, ds ++ [p3], Lib.hid ⟨hd3, by rw [List.map_append, hd.out.2.1, List.take_succ_eq_append_getElem hlt, List.map_append]; simp [hl3], hd.out.2.2.app (Whole.one hp3 (by rw [hl3]; have := HT.out; omega))⟩, hbr.trans hb3⟩
            case measure => simp [intOf]; omega
        · obtain rfl : j = ps.length := by omega
          clear D0
          rw [List.take_length] at hd
          have hlen : ds.length = ps.length := by have := congrArg List.length hd.out.2.1; simpa using this
          have HLEN := Lib.hid hlen
          clear hlen
          go_wp2_with fail
          refine (twin_any hd.out.1 hbr.size).mono ?_
          rintro e W2 ⟨⟨g2, v2, rfl, hd2, hg2, hv2⟩, hb2⟩
          have B2 := hbr.trans (hb2.mono hbr.size)
          have AP : Hid (Apart W2 w.heap.size W0.heap.size v 100 (ds ++ []) 0 g2 v2 100 (ds ++ []) ds.length) := by
            rw [List.append_nil]
            exact ⟨hd.out.1.below hb2, hd2, by have := hd.out.1.lt; omega, fun k hk hk2 => by have := owns_lt hd.out.1.row hk; have := hv2 k hk2; omega⟩
          clear hd2 hg2 hv2 hb2
          go_wp2_with fail
          go_loopw [51] (fun s wr => ∃ j : Nat, j ≤ qs.length ∧ s = .int .i64 (j : Int) ∧ ∃ v es v2 ts, Hid (Apart wr w.heap.size W0.heap.size v 100 (ds ++ es) 0 g2 v2 100 (ds ++ ts) ds.length ∧ es.length = j / 2 ∧ ts.length = (j + 1) / 2 ∧ Whole es ∧ Whole ts) ∧ Below w.heap.size w wr)
            (fun s _ => qs.length - (intOf s).toNat)
          case atStart => exact ⟨0, Nat.zero_le _, rfl, _, [], _, [], Lib.hid ⟨AP.out, rfl, rfl, by intro p hp; simp at hp, by intro p hp; simp at hp⟩, B2⟩
          case round =>
            obtain ⟨j, hj2, rfl, v', es, v2', ts, he, hbr2⟩ := hrel
            by_cases hlt2 : j < qs.length
            · obtain ⟨b1, o1, rfl, hb1, hc1⟩ := (h2.below hbr2).at (k := j) (by simpa using hlt2)
              rw [List.getElem_map, show qs[j].sl = Value.slice qs[j].A qs[j].l.length qs[j].c from rfl] at hc1
              have hi1 : (j : Int) < ((qs.length : Nat) : Int) := by omega
              by_cases ht : (100 : Int) < ((qs[j].l.length : Nat) : Int)
              · clear AP
                go_wp2_with fail
                go_ret
                exact ⟨rfl, hbr2⟩
              · have HT : Hid (qs[j].l.length ≤ 100) := by show _ ≤ _; omega
                have H64 : Hid (qs[j].l.length ≤ 70368744177664) := by show _ ≤ _; omega
                by_cases hpar : j % 2 = 0
                · have hbit : (bits BinOp.and IntKind.i64 (j : Int) 1 == 0) = true := by rw [bits_one j (by omega), hpar]; rfl
                  go_wp2_with fail
                  refine (append_ok he.out.1.t (by rw [List.length_append, HLEN.out, he.out.2.2.1]; omega) qs[j].A qs[j].c w.heap.size qs[j].l ((HQ.out _ (List.getElem_mem hlt2)).1.below hbr2) (HQ.out _ (List.getElem_mem hlt2)).2.1 H64.out hbr2.size hbr2.size).mono ?_
                  intro e w3 ha
                  obtain ⟨rfl, v3, p3, hp3, hl3, ap, hb3⟩ := Appended.turn he.out.1.swap ha hbr2.size
                  go_wp2_with fail
                  go_roundw
                  case rel => exact ⟨j + 1, by omega, by simp, v', es, v3, ts ++ [p3], Lib.hid ⟨by rw [← List.append_assoc]; exact ap.swap, by rw [he.out.2.1]; omega, by rw [List.length_append, he.out.2.2.1]; simp; omega, he.out.2.2.2.1, he.out.2.2.2.2.app (Whole.one hp3 (by rw [hl3]; have := HT.out; omega))⟩, hbr2.trans hb3⟩
                  case measure => simp [intOf]; omega
                · have hbit : (bits BinOp.and IntKind.i64 (j : Int) 1 == 0) = false := by rw [bits_one j (by omega), show j % 2 = 1 by omega]; rfl
                  go_wp2_with fail
                  refine (append_ok he.out.1.d (by rw [List.length_append, HLEN.out, he.out.2.1]; omega) qs[j].A qs[j].c w.heap.size qs[j].l ((HQ.out _ (List.getElem_mem hlt2)).1.below hbr2) (HQ.out _ (List.getElem_mem hlt2)).2.1 H64.out hbr2.size hbr2.size).mono ?_
                  intro e w3 ha
                  obtain ⟨rfl, v3, p3, hp3, hl3, ap, hb3⟩ := Appended.turn he.out.1 ha hbr2.size
                  go_wp2_with fail
                  go_roundw
                  case rel => exact ⟨j + 1, by omega, by simp, v3, es ++ [p3], v2', ts, Lib.hid ⟨by rw [← List.append_assoc]; exact ap, by rw [List.length_append, he.out.2.1]; simp; omega, by rw [he.out.2.2.1]; omega, he.out.2.2.2.1.app (Whole.one hp3 (by rw [hl3]; have := HT.out; omega)), he.out.2.2.2.2⟩, hbr2.trans hb3⟩
                  case measure => simp [intOf]; omega
            · obtain rfl : j = qs.length := by omega
              clear AP
              have hds : Hid (Whole (ds ++ es)) := hd.out.2.2.app he.out.2.2.2.1
              have hdt : Hid (Whole (ds ++ ts)) := hd.out.2.2.app he.out.2.2.2.2
              have hle : Hid ((ds ++ es).length = ps.length + qs.length / 2) := by show _ = _; rw [List.length_append, HLEN.out, he.out.2.1]
              have hlt : Hid ((ds ++ ts).length = ps.length + (qs.length + 1) / 2) := by show _ = _; rw [List.length_append, HLEN.out, he.out.2.2.1]
              have hpre : Hid (∀ (es : List Pg), ((ds ++ es).map (·.l)).take ps.length = ps.map (·.l)) := by
                intro es
                rw [List.map_append, hd.out.2.1, List.take_left' (by simp)]
              have AP := Lib.hid he.out.1
              clear he hd
              go_wp2_with fail
              refine (pages_s AP.out.d hds.out.short).mono ?_
              rintro e W3 ⟨u1, xs, rfl, hrow, hls, hx, hb3⟩
              have L1 := Lib.hid (Lst.of hrow hls hx hds.out.short)
              rw [hds.out.wh] at hls
              have hlx : Hid (xs.map (·.l) = (ds ++ es).map (·.l)) := hls
              have hxl : xs.length = ps.length + qs.length / 2 := by have := congrArg List.length hls; rw [List.length_map, List.length_map, hle.out] at this; exact this
              have AP3 := Lib.hid (AP.out.below hb3)
              have B3 := hbr2.trans (hb3.mono hbr2.size)
              obtain ⟨X1, k1, rfl⟩ := own_form hrow
              clear hrow hls hx hb3
              go_wp2_with fail
              refine (pages_s AP3.out.t hdt.out.short).mono ?_
              rintro e W4 ⟨u2, ys, rfl, hrow, hls, hx, hb4⟩
              have L2 := Lib.hid (Lst.of hrow hls hx hdt.out.short)
              have L1 := Lib.hid (L1.out.below hb4)
              rw [hdt.out.wh] at hls
              have hly : Hid (ys.map (·.l) = (ds ++ ts).map (·.l)) := hls
              have hyl : ys.length = ps.length + (qs.length + 1) / 2 := by have := congrArg List.length hls; rw [List.length_map, List.length_map, hlt.out] at this; exact this
              have AP4 := Lib.hid (AP3.out.below hb4)
              have B4 := B3.trans (hb4.mono B3.size)
              obtain ⟨X2, k2, rfl⟩ := own_form hrow
              clear hrow hls hx hb4 AP3 AP
              have z2 : (((ys.length : Nat) : Int) != ((ps.length : Nat) : Int) + (((qs.length : Nat) : Int) + 1) / 2) = false := by rw [hyl]; simp
              have HXL := Lib.hid hxl
              have HYL := Lib.hid hyl
              clear hyl
              go_wp2_with fail
              refine (wipe_any AP4.out.t).mono ?_
              rintro e W5 ⟨rfl, D5, hf5⟩
              have L1 := Lib.hid (L1.out.apart AP4.out.t hf5)
              have L2 := Lib.hid (L2.out.apart AP4.out.t hf5)
              have B5 := B4.trans (AP4.out.t.fr B4.size hf5)
              have AP5 := Lib.hid (AP4.out.swap.turn hf5 D5 (by intro k hk; simp [Value.ownBlock] at hk)).swap
              clear D5 hf5 AP4 z2
              go_wp2_with fail
              refine (pages_s AP5.out.d hds.out.short).mono ?_
              rintro e W6 ⟨u3, zs, rfl, hrow, hls, hx, hb6⟩
              rw [hds.out.wh] at hls
              have hzl : zs.length = ps.length + qs.length / 2 := by have := congrArg List.length hls; rw [List.length_map, List.length_map, hle.out] at this; exact this
              have L1 := Lib.hid (L1.out.below hb6)
              have L2 := Lib.hid (L2.out.below hb6)
              have AP6 := Lib.hid (AP5.out.below hb6)
              have B6 := B5.trans (hb6.mono B5.size)
              obtain ⟨X3, k3, rfl⟩ := own_form hrow
              clear hrow hls hx hb6 AP5
              go_wp2_with fail
              refine (pages_s AP6.out.t Short.nil).mono ?_
              rintro e W7 ⟨u4, us, rfl, hrow, hls, hx, hb7⟩
              have hul : us.length = 0 := by have := congrArg List.length hls; simpa [wh] using this
              have L1 := Lib.hid (L1.out.below hb7)
              have L2 := Lib.hid (L2.out.below hb7)
              have B7 := B6.trans (hb7.mono B6.size)
              obtain ⟨X4, k4, rfl⟩ := own_form hrow
              clear hrow hls hx hb7 AP6
              have hS1 : Hid (∀ c4, Calls Try.prog 16 #[.slice X1 ps.length c4, .slice A1 ps.length c1] W7 fun e w' => e = .returned (.bool true) ∧ Below W7.heap.size W7 w') := fun c4 =>
                L1.out.same (by rw [List.map_take, hlx.out]; exact hpre.out es) (h1.below B7) B7.size (fun q hq => ⟨(HP.out q hq).1.below B7, (HP.out q hq).2.2⟩) (by unfold maxLen; omega) (by rw [HXL.out]; omega) c4 c1
              have hS2 : Hid (∀ W c4, Below W7.heap.size W7 W → Calls Try.prog 16 #[.slice X2 ps.length c4, .slice A1 ps.length c1] W fun e w' => e = .returned (.bool true) ∧ Below W.heap.size W w') := fun W c4 hW => by
                have B8 := B7.trans (hW.mono B7.size)
                exact (L2.out.below hW).same (by rw [List.map_take, hly.out]; exact hpre.out ts) (h1.below B8) B8.size (fun q hq => ⟨(HP.out q hq).1.below B8, (HP.out q hq).2.2⟩) (by unfold maxLen; omega) (by rw [HYL.out]; omega) c4 c1
              have s1 := L1.out.shape.2
              have s2 := L2.out.shape.2
              clear L1 L2
              rw [HXL.out] at s1
              rw [HYL.out] at s2
              have l1 : xs.length = ps.length + qs.length / 2 := HXL.out
              have l2 : ys.length = ps.length + (qs.length + 1) / 2 := HYL.out
              rcases s1 with ⟨rfl, n1, rfl⟩ | ⟨b1, rfl, m1⟩
              · rcases s2 with ⟨rfl, n2, rfl⟩ | ⟨b2, rfl, m2⟩
                · have hz : ps.length = 0 := by omega
                  have hz2 : qs.length / 2 = 0 := by omega
                  have hz3 : (qs.length + 1) / 2 = 0 := by omega
                  clear n1
                  clear n2
                  go_wp2_with fail
                  have hc1 := hS1.out 0
                  rw [hz] at hc1
                  with_reducible refine hc1.mono ?_
                  rintro e W8 ⟨rfl, hb8⟩
                  have B8 := B7.trans (hb8.mono B7.size)
                  clear hc1
                  go_wp2_with fail
                  have hc2 := hS2.out W8 0 hb8
                  rw [hz] at hc2
                  with_reducible refine hc2.mono ?_
                  rintro e W9 ⟨rfl, hb9⟩
                  have B9 := B8.trans (hb9.mono B8.size)
                  clear hc2
                  go_wp2_with fail
                  go_ret
                  exact ⟨rfl, B9⟩
                · have hz : ps.length = 0 := by omega
                  have hz2 : qs.length / 2 = 0 := by omega
                  clear n1
                  clear m2
                  go_wp2_with fail
                  have hc1 := hS1.out 0
                  rw [hz] at hc1
                  with_reducible refine hc1.mono ?_
                  rintro e W8 ⟨rfl, hb8⟩
                  have B8 := B7.trans (hb8.mono B7.size)
                  clear hc1
                  go_wp2_with fail
                  have hc2 := hS2.out W8 k2 hb8
                  rw [hz] at hc2
                  with_reducible refine hc2.mono ?_
                  rintro e W9 ⟨rfl, hb9⟩
                  have B9 := B8.trans (hb9.mono B8.size)
                  clear hc2
                  go_wp2_with fail
                  go_ret
                  exact ⟨rfl, B9⟩
              · rcases s2 with ⟨rfl, n2, rfl⟩ | ⟨b2, rfl, m2⟩
                · have q3 : ((ps.length : Nat) : Int) ≤ ((k1 : Nat) : Int) := by omega
                  have hz : ps.length = 0 := by omega
                  have hz3 : (qs.length + 1) / 2 = 0 := by omega
                  clear m1
                  clear n2
                  go_wp2_with fail
                  have hc1 := hS1.out k1
                  rw [hz] at hc1
                  with_reducible refine hc1.mono ?_
                  rintro e W8 ⟨rfl, hb8⟩
                  have B8 := B7.trans (hb8.mono B7.size)
                  clear hc1
                  go_wp2_with fail
                  have hc2 := hS2.out W8 0 hb8
                  rw [hz] at hc2
                  with_reducible refine hc2.mono ?_
                  rintro e W9 ⟨rfl, hb9⟩
                  have B9 := B8.trans (hb9.mono B8.size)
                  clear hc2
                  go_wp2_with fail
                  go_ret
                  exact ⟨rfl, B9⟩
                · have q3 : ((ps.length : Nat) : Int) ≤ ((k1 : Nat) : Int) := by omega
                  have q4 : ((ps.length : Nat) : Int) ≤ ((k2 : Nat) : Int) := by omega
                  clear m1
                  clear m2
                  go_wp2_with fail
                  have hc1 := hS1.out k1
                  with_reducible refine hc1.mono ?_
                  rintro e W8 ⟨rfl, hb8⟩
                  have B8 := B7.trans (hb8.mono B7.size)
                  clear hc1
                  go_wp2_with fail
                  have hc2 := hS2.out W8 k2 hb8
                  with_reducible refine hc2.mono ?_
                  rintro e W9 ⟨rfl, hb9⟩
                  have B9 := B8.trans (hb9.mono B8.size)
                  clear hc2
                  go_wp2_with fail
                  go_ret
                  exact ⟨rfl, B9⟩
end Go.Proofs.Ytbmodlhnkbohhaa
