/- (*device.Device).Pages: clones of the whole pages' bytes, in order. -/
import Derived.RangeFuncNested
import Derived.RangeFuncBound
import Derived.RangeFuncCalls
import Derived.RangeFuncBox
import Derived.RangeFuncLeaves
import Derived.Shelf.Abstract
import Derived.Shelf.RegionOpen
import Derived.WalkKit
import Derived.OwnWalkIn
import Derived.TacticsInMore
import Derived.LoopNIn
import Derived.LoopIn
import Derived.Deep.AppendLies
import Derived.Test.YtbmodlhnkbohhaaDev
namespace Go.Proofs.Ytbmodlhnkbohhaa
open Go.RowKit Go.Shelf
set_option linter.unusedVariables false
attribute [local go_sem] Oper.semAt_some

/-- The whole pages. -/
def wh (ps : List Pg) : List Pg := ps.filter fun p => p.is == 1
theorem wh_app (a b : List Pg) : wh (a ++ b) = wh a ++ wh b := List.filter_append ..
/-- A page's bytes can be read in w. -/
abbrev PB (w : World) (n0 : Nat) (p : Pg) : Prop := Sl w n0 p.A (bv p.l) ∧ (p.A = none → p.c = 0) ∧ p.l.length ≤ 70368744177664
/-- What the iterator hands to a round. -/
abbrev PgB (w : World) (n0 : Nat) := { p : Pg // PB w n0 p }
abbrev PgB.enc {w : World} {n0 : Nat} (x : PgB w n0) : Array Value := #[.slice x.1.A x.1.l.length x.1.c]

theorem pcells_at (ps : List Pg) (k : Nat) (p : Pg) (h : ps[k]? = some p) : (pcells ps)[k * 2]? = some (.int .i64 (p.is : Int)) ∧ (pcells ps)[k * 2 + 1]? = some (.slice p.A p.l.length p.c) := by
  induction ps generalizing k with
  | nil => simp at h
  | cons q ps ih =>
    have e : pcells (q :: ps) = q.cells ++ pcells ps := rfl
    cases k with
    | zero =>
      simp at h
      subst h
      simp [e, Pg.cells]
    | succ k =>
      have h' : ps[k]? = some p := by simpa using h
      have := ih k h'
      rw [e]
      constructor
      · rw [List.getElem?_append_right (by simp [Pg.cells]; omega)]
        rw [show (k + 1) * 2 - (Pg.cells q).length = k * 2 by simp [Pg.cells]; omega]
        exact this.1
      · rw [List.getElem?_append_right (by simp [Pg.cells]; omega)]
        rw [show (k + 1) * 2 + 1 - (Pg.cells q).length = k * 2 + 1 by simp [Pg.cells]; omega]
        exact this.2

set_option maxRecDepth 100000 in
set_option maxHeartbeats 2000000 in
/-- **whole's closure: 'for _, p := range d.pages { if p.is == whole && !yield(p.data) { return } }'.** -/
theorem whole1_in (F : Fence) (n : Nat) (h7 : F.fn 61) (hro : F.round = none) (hn : 1 ≤ n) (l Bs n₀ n0 g b c : Nat) (w0 : World) (ps : List Pg) (hb : b < n₀) (hps : ∀ p ∈ ps, PB w0 n0 p) (hlen : ps.length ≤ 65536) (J Jx : List (PgB w0 n0) → World → Prop)
    (hY : ∀ pre x W, J pre W → pre.length < ps.length → YieldAt F (n - 1) Try.prog l x.enc W fun e W' =>
      (e = .returned (.bool true) ∧ J (pre ++ [x]) W' ∧ Below n₀ W W') ∨ (e = .returned (.bool false) ∧ Jx (pre ++ [x]) W'))
    {Bj : Nat} (hJ : AbidesFrom Bj J)
    (W : World) (hBs : W.cell? ⟨Bs, 0, none⟩ = some (.pointer (some ⟨g, 0, none⟩))) (hd : W.cell? ⟨g, 1, none⟩ = some (.slice (some ⟨b, 0, none⟩) ps.length c)) (hn₀ : n₀ ≤ W.heap.size)
    (hc : ∀ k p, ps[k]? = some p → W.cell? ⟨b, k * 2, none⟩ = some (.int .i64 (p.is : Int)) ∧ W.cell? ⟨b, k * 2 + 1, none⟩ = some (.slice p.A p.l.length p.c)) (h0 : J [] W) :
    CallsIn F n Try.prog 61 #[.func (.yield l) #[] #[], .pointer (some ⟨Bs, 0, none⟩)] W fun e W' => (∃ v, e = .returned v) ∧
      ((∃ ys : List (PgB w0 n0), ys.map (·.1) = wh ps ∧ J ys W') ∨ (∃ pre : List (PgB w0 n0), pre.map (·.1) <+: wh ps ∧ Jx pre W')) := by
  refine callsIn_of_wp Try.func61 rfl h7 ?_ hro
  simp only [Try.ntmps61, List.size_toArray, List.length_cons, List.length_nil, Nat.reduceAdd, Nat.reduceSub, Array.replicate_succ, Array.replicate_zero, List.push_toArray, List.append_toArray, List.nil_append, List.cons_append]
  gi_wp2
  gi_loopw [10] (fun i wr => ∃ k : Nat, k ≤ ps.length ∧ i = .int .i64 k ∧ (∃ pre : List (PgB w0 n0), pre.map (·.1) = wh (ps.take k) ∧ J pre wr) ∧ Below n₀ W wr)
    (fun i _ => ps.length - (intOf i).toNat)
  case atStart => exact ⟨0, Nat.zero_le _, rfl, ⟨[], by simp [wh], h0⟩, Below.refl _ _⟩
  case round =>
    obtain ⟨k, hk, rfl, ⟨pre, hpre, hJs⟩, hnx⟩ := hrel
    by_cases hlt : k < ps.length
    · obtain ⟨p, hp⟩ : ∃ p, ps[k]? = some p := ⟨_, List.getElem?_eq_getElem hlt⟩
      have hpp : PB w0 n0 p := hps p (List.mem_of_getElem? hp)
      have hc1 := (hnx.cell (p := ⟨b, k * 2, none⟩) hb).trans (hc k p hp).1
      have hc2 := (hnx.cell (p := ⟨b, k * 2 + 1, none⟩) hb).trans (hc k p hp).2
      have htake : ps.take (k + 1) = ps.take k ++ [p] := by rw [List.take_add_one, hp]; rfl
      have hgr : wr.grownBy (wr.alloc (.cells #[.int .i64 (p.is : Int), .slice p.A p.l.length p.c] 77)) none := World.grownBy_alloc wr _ none
      have hJa := hJ _ wr _ none hJs hgr (fun r e => by cases e)
      have hbl : Below n₀ W (wr.alloc (.cells #[.int .i64 (p.is : Int), .slice p.A p.l.length p.c] 77)) := hnx.alloc (Nat.le_trans hn₀ hnx.size) _
      by_cases hq : p.is = 1
      · have et : ((p.is : Int) == 1) = true := by simp [hq]
        obtain ⟨fn, tmps, assign, body, hy, hR⟩ := hY pre ⟨p, hpp⟩ _ hJa (by have := congrArg List.length hpre; rw [List.length_map] at this; have h2 : (wh (ps.take k)).length ≤ (ps.take k).length := List.length_filter_le _ _; rw [List.length_take] at h2; omega)
        have hwh : wh (ps.take (k + 1)) = wh (ps.take k) ++ [p] := by rw [htake, wh_app]; simp [wh, hq]
        clear hgr hJa hJ hc hps hd hBs hJs h0 hY hq
        gi_wp2
        refine hR.mono ?_
        rintro e W3 (⟨rfl, hJ3, hk3⟩ | ⟨rfl, hJx3⟩)
        · gi_wp2
          go_roundw
          case rel => exact ⟨k + 1, by omega, by simp, ⟨pre ++ [⟨p, hpp⟩], by rw [List.map_append, hpre, hwh]; rfl, hJ3⟩, hbl.trans hk3⟩
          case measure => simp [intOf]; omega
        · gi_wp2
          refine bodyPost_ret (results_none rfl _ _ _) rfl ?_
          refine ⟨⟨_, rfl⟩, .inr ⟨_, ?_, hJx3⟩⟩
          rw [List.map_append, hpre]
          show wh (ps.take k) ++ [p] <+: wh ps
          rw [← hwh]
          exact (List.take_prefix _ _).filter _
      · have et : ((p.is : Int) == 1) = false := by simp; omega
        have hwh : wh (ps.take (k + 1)) = wh (ps.take k) := by rw [htake, wh_app]; simp [wh, hq]
        clear hgr hJ hc hps hd hBs hJs h0 hY hq
        gi_wp2
        refine ⟨fun _ h => (by cases h), ?_⟩
        gi_wp2
        go_roundw
        case rel => exact ⟨k + 1, by omega, by simp, ⟨pre, by rw [hpre, hwh], hJa⟩, hbl⟩
        case measure => simp [intOf]; omega
    · obtain rfl : k = ps.length := by omega
      gi_wp2
      go_end0
      rw [List.take_length] at hpre
      exact ⟨⟨_, rfl⟩, .inl ⟨_, hpre, hJs⟩⟩

set_option maxRecDepth 100000 in
set_option maxHeartbeats 1000000 in
/-- .. of no pages: no round. -/
theorem whole1_nil_in (F : Fence) (n : Nat) (h7 : F.fn 61) (hro : F.round = none) (l Bs g : Nat) {β : Type} (J : List β → World → Prop) (W : World) (hBs : W.cell? ⟨Bs, 0, none⟩ = some (.pointer (some ⟨g, 0, none⟩))) (hd : W.cell? ⟨g, 1, none⟩ = some (.slice none 0 0)) (h0 : J [] W) :
    CallsIn F n Try.prog 61 #[.func (.yield l) #[] #[], .pointer (some ⟨Bs, 0, none⟩)] W fun e W' => (∃ v, e = .returned v) ∧ J [] W' := by
  refine callsIn_of_wp Try.func61 rfl h7 ?_ hro
  simp only [Try.ntmps61, List.size_toArray, List.length_cons, List.length_nil, Nat.reduceAdd, Nat.reduceSub, Array.replicate_succ, Array.replicate_zero, List.push_toArray, List.append_toArray, List.nil_append, List.cons_append]
  gi_wp2
  gi_loopw [10] (fun i wr => i = .int .i64 0 ∧ J [] wr) (fun _ _ => 0)
  case atStart => exact ⟨rfl, h0⟩
  case round =>
    obtain ⟨rfl, hJs⟩ := hrel
    gi_wp2
    go_end0
    exact ⟨⟨_, rfl⟩, hJs⟩

set_option maxHeartbeats 1000000 in
/-- **whole**: the receiver is boxed; the function value captures the box. -/
theorem whole_in (F : Fence) (n : Nat) (h5 : F.fn 47) (hro : F.round = none) (p0 : Option Addr) (w : World) :
    CallsIn F n Try.prog 47 #[.pointer p0] w fun e w' => e = .returned (.func (.func 61) #[] #[.pointer (some ⟨w.heap.size, 0, none⟩)]) ∧ w' = w.alloc (.cells #[.pointer p0] 25) := by
  refine callsIn_of_wp Try.func47 rfl h5 ?_ hro
  simp only [Try.ntmps47, List.size_toArray, List.length_cons, List.length_nil, Nat.reduceAdd, Nat.reduceSub, Array.replicate_succ, Array.replicate_zero, List.push_toArray, List.append_toArray, List.nil_append, List.cons_append]
  gi_wp2
  go_ret
  exact ⟨rfl, rfl⟩

/-- The device's pages as cells. -/
theorem Dev.page_cells {w : World} {n0 g room lasts : Nat} {v : Value} {ps : List Pg} (h : Dev w n0 g v room ps lasts) :
    (v = .slice none 0 0 ∧ ps = []) ∨ ∃ b c, v = .slice (some ⟨b, 0, none⟩) ps.length c ∧ b < w.heap.size ∧ ∀ k p, ps[k]? = some p → w.cell? ⟨b, k * 2, none⟩ = some (.int .i64 (p.is : Int)) ∧ w.cell? ⟨b, k * 2 + 1, none⟩ = some (.slice p.A p.l.length p.c) := by
  rcases h.row.2 with ⟨e, h0⟩ | ⟨b, c, cur, e, hb, hh, hn, hc, hsz, ht⟩
  · exact .inl ⟨e, List.eq_nil_of_length_eq_zero h0⟩
  · refine .inr ⟨b, c, e, (Array.getElem?_eq_some_iff.1 hh).1, fun k p hp => ?_⟩
    obtain ⟨h1, h2⟩ := pcells_at ps k p hp
    have hcell : ∀ j u, (pcells ps)[j]? = some u → w.cell? ⟨b, j, none⟩ = some u := by
      intro j u hu
      rw [← ht, List.getElem?_take] at hu
      rw [cell_of_row w b j cur _ (0, 0) hh]
      split at hu
      · simpa using hu
      · cases hu
    exact ⟨hcell _ _ h1, hcell _ _ h2⟩

theorem whole_stops (F : Fence) (n : Nat) (h7 : F.fn 61) (hro : F.round = none) (hn : 1 ≤ n) {w0 w : World} {n0 g room lasts n₀ Bs : Nat} {v : Value} {ps : List Pg} (h : Dev w0 n0 g v room ps lasts) (hn0 : w0.heap.size = n₀) (hl : ∀ p ∈ ps, PB w0 n₀ p)
    (hb : Below n₀ w0 w) (hBs : Bs < w.heap.size) (hc : w.cell? ⟨Bs, 0, none⟩ = some (.pointer (some ⟨g, 0, none⟩))) :
    SeqStopsK F n Try.prog 61 #[.pointer (some ⟨Bs, 0, none⟩)] (fun x : PgB w0 n₀ => x.enc) (Below n₀) (fun ys => ys.map (·.1) = wh ps) (fun pre => pre.map (·.1) <+: wh ps) ps.length w := fun l J Jx W hW hJ _ hY h0 => by
  have hc' := (hW.cell (p := ⟨Bs, 0, none⟩) hBs).trans hc
  have hbW : Below n₀ w0 W := hb.trans (hW.mono (by have := hb.size; omega))
  have hd : W.cell? ⟨g, 1, none⟩ = some v := (hbW.cell (p := ⟨g, 1, none⟩) (by show g < n₀; have := h.lt; omega)).trans (h.bk.cell 1)
  rcases h.page_cells with ⟨rfl, rfl⟩ | ⟨b, c, rfl, hbl, hcs⟩
  · exact (whole1_nil_in F n h7 hro l Bs g J W hc' hd h0).mono fun e W' ⟨he, hj⟩ => ⟨he, .inl ⟨_, rfl, hj⟩⟩
  · exact (whole1_in F n h7 hro hn l Bs n₀ n₀ g b c w0 ps (by omega) hl (by have := h.le; have := h.rm; omega) J Jx hY hJ W hc' hd (by have := hbW.size; omega)
      (fun k p hp => ⟨(hbW.cell (p := ⟨b, k * 2, none⟩) (by show b < n₀; omega)).trans (hcs k p hp).1, (hbW.cell (p := ⟨b, k * 2 + 1, none⟩) (by show b < n₀; omega)).trans (hcs k p hp).2⟩) h0)
end Go.Proofs.Ytbmodlhnkbohhaa
