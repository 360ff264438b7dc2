/- tidelinelaw01.OctetWrong: the walk. -/
import Derived.Test.YtbmodlhnkbohhaaWrongB
import Derived.Test.YtbmodlhnkbohhaaOspeak
namespace Go.Proofs.Ytbmodlhnkbohhaa
open Go.RowKit
set_option linter.unusedVariables false

set_option maxRecDepth 100000 in
set_option maxHeartbeats 4000000 in
theorem wrong_walk (A1 A2 : Option Addr) (c1 c2 : Nat) (b : List UInt8) (l : List Th) (w : World) (h1 : Sl w w.heap.size A1 (bv b)) (n1 : A1 = none → c1 = 0) (h2 : Ths w w.heap.size A2 l) :
    Calls Try.prog 9 #[.slice A1 b.length c1, .slice A2 l.length c2] w fun e w' => e = .returned (.bool true) ∧ Below w.heap.size w w' := by
  have N1 := Lib.hid n1
  clear n1
  go_enter Try.func9, Try.ntmps9
  go_wp2_with fail
  refine (ospeak_any w).mono ?_
  rintro e W0 ⟨rfl, B0⟩
  have T0 : Ths W0 W0.heap.size A2 l := by
    rcases h2.below B0 with h | ⟨bb, o, e, hb, hk⟩
    · exact .inl h
    · exact .inr ⟨bb, o, e, by have := B0.size; omega, hk⟩
  by_cases t1 : (500 : Int) < (b.length : Int)
  · go_wp2_with fail
    go_ret
    exact ⟨rfl, B0⟩
  · have hb500 : b.length ≤ 500 := by omega
    go_wp2_with fail
    refine (great_any A2 c2 l W0 T0).mono ?_
    rintro e W1 ⟨hgr, hb1⟩
    have B1 := B0.trans (hb1.mono B0.size)
    rcases hgr with rfl | ⟨rfl, hl60⟩
    · go_wp2_with fail
      go_ret
      exact ⟨rfl, B1⟩
    · go_wp2_with fail
      refine (read_ok A1 c1 w.heap.size b W1 (h1.below B1) N1.out (by omega) B1.size).mono ?_
      rintro e W2 ⟨g, A5, c5, rfl, hr, hg1, hb2⟩
      have B2 := B1.trans (hb2.mono B1.size)
      go_wp2_with fail
      refine (rbytes_neg hr (by omega)).mono ?_
      rintro e W3 ⟨⟨v3, rfl⟩, hG, hb3⟩
      have hgw : w.heap.size ≤ g := Nat.le_trans B1.size hg1
      have B3 := B2.trans (hb3.mono hgw)
      have HG := Lib.hid hG
      clear hG hr hb1 hb2 hb3 T0 t1 B2
      go_wp2_with fail
      go_loopw [24] (fun s wr => ∃ k : Nat, k ≤ l.length ∧ s = .int .i64 (k : Int) ∧ Hid (Gone wr g) ∧ Below w.heap.size w wr) (fun s _ => l.length - (intOf s).toNat)
      case atStart => exact ⟨0, Nat.zero_le _, rfl, HG, B3⟩
      case round =>
        obtain ⟨k, hk, rfl, hg, hb⟩ := hrel
        clear HG B3
        by_cases hlt : k < l.length
        · obtain ⟨bb, o, rfl, hbB, hc1, hc2, hc3, hc4⟩ := (h2.below hb).at hlt
          have hi : (k : Int) < ((l.length : Nat) : Int) := by omega
          obtain ⟨x, hx⟩ : ∃ x, l[k] = x := ⟨_, rfl⟩
          rw [hx] at hc1 hc2 hc3 hc4
          have hal : Below wr.heap.size wr (wr.alloc (.cells #[.int .i64 x.k, .int .i64 x.n, .int .u64 x.v, .slice x.A x.len x.c] 65)) := (Below.refl _ _).alloc (Nat.le_refl _) _
          have hg2 := Lib.hid (hg.out.below hal)
          have hb2 := hb.trans (hal.mono hb.size)
          have hbx := Lib.hid (Blk.new wr #[.int .i64 x.k, .int .i64 x.n, .int .u64 x.v, .slice x.A x.len x.c] 65)
          have hw1 : (w.heap.size : Nat) ≤ wr.heap.size := hb.size
          clear hx hal
          go_wp2_with fail
          refine (list_wrong hg2.out x.n).mono ?_
          rintro e W5 ⟨rfl, hb5⟩
          have hcx := (hbx.out.belowAll hb5).cell
          have hg5 := hg2.out.below hb5
          have B5 := hb2.trans (hb5.mono hb2.size)
          have HG5 := Lib.hid hg5
          clear hbx hg2 hb2 hb5 hc1 hc2 hc3 hc4 hg5
          go_wp2_with fail
          refine (byte_wrong HG5.out).mono ?_
          rintro e w' ⟨rfl, rfl⟩
          go_wp2_with fail
          refine (number_wrong HG5.out x.n).mono ?_
          rintro e w' ⟨rfl, rfl⟩
          go_wp2_with fail
          refine (int_wrong HG5.out).mono ?_
          rintro e w' ⟨rfl, rfl⟩
          go_wp2_with fail
          refine (rbytes_wrong HG5.out x.n).mono ?_
          rintro e W6 ⟨⟨A6, c6, rfl⟩, hb6⟩
          have HG6 := Lib.hid (HG5.out.below hb6)
          have B6 := B5.trans (hb6.mono B5.size)
          clear hb6 hcx
          go_wp2_with fail
          refine (flag_wrong HG6.out).mono ?_
          rintro e w' ⟨rfl, rfl⟩
          go_wp2_with fail
          refine (left_wrong HG6.out).mono ?_
          rintro e w' ⟨rfl, rfl⟩
          go_wp2_with fail
          refine (end_wrong HG6.out).mono ?_
          rintro e w' ⟨rfl, rfl⟩
          go_wp2_with fail
          go_roundw
          case rel => exact ⟨k + 1, by omega, by simp, HG6, B6⟩
          case measure => simp [intOf]; omega
        · go_wp2_with fail
          refine (end_wrong hg.out).mono ?_
          rintro e w' ⟨rfl, rfl⟩
          go_wp2_with fail
          go_ret
          exact ⟨rfl, hb⟩
end Go.Proofs.Ytbmodlhnkbohhaa
