/- slices.Clone at pages; (*device.Device).Twin. -/
import Derived.Test.YtbmodlhnkbohhaaCrashAny
namespace Go.Proofs.Ytbmodlhnkbohhaa
open Go.RowKit
set_option linter.unusedVariables false

def NewPages (base : Nat) (ps : List Pg) (e : Ending) (w' : World) : Prop :=
  ∃ A c, e = .returned (.slice A ps.length c) ∧ w'.ownsRow base 77 2 (.slice A ps.length c) ps.length (pcells ps)

theorem pcells_one (ps : List Pg) : ∀ u ∈ pcells ps, u.oneCell' = true := by
  intro u hu
  simp only [pcells, List.mem_flatMap, Pg.cells, List.mem_cons, List.not_mem_nil, or_false] at hu
  obtain ⟨p, -, rfl | rfl⟩ := hu <;> rfl
theorem newPages_of {base : Nat} {ps : List Pg} {v : Value} {w : World} (h : w.ownsRow base 77 2 v (0 + ps.length) ([] ++ pcells ps)) : NewPages base ps (.returned v) w := by
  rw [Nat.zero_add, List.nil_append] at h
  obtain ⟨A, c, rfl⟩ := own_form h
  exact ⟨A, c, rfl, h⟩

set_option maxHeartbeats 1000000 in
theorem clone_pages {w : World} {n0 : Nat} {v : Value} {ps : List Pg} (h : w.ownsRow n0 77 2 v ps.length (pcells ps)) (hl : ps.length ≤ 65536) :
    Calls Try.prog 49 #[v] w fun e w' => NewPages w.heap.size ps e w' ∧ Below w.heap.size w w' := by
  have hm0 : 0 + ps.length ≤ maxLen := by unfold maxLen; omega
  have hby : (0 + ps.length) * 32 ≤ 140737488355328 := by omega
  have HM0 := Lib.hid hm0
  have HBY := Lib.hid hby
  clear hl hm0 hby
  rcases h.2 with ⟨rfl, h0⟩ | ⟨R, cap, cur, rfl, -⟩
  · have hps : ps = [] := List.eq_nil_of_length_eq_zero h0
    subst hps
    clear h
    have heq := fun (W : World) => Lib.run_eql_slice_nil (P := Try.prog) W 72 77 none 0 0 0 0 Try.underlying72
    go_enter Try.func49, Try.ntmps49
    go_wp2
    go_ret
    exact ⟨⟨none, 0, rfl, World.ownsRow_nil _ _ _ _⟩, Below.refl _ _⟩
  · have hcs := (h.alloc (.cells #[] 77)).cells (g := R) rfl
    have HC := Lib.hid hcs
    clear hcs h
    have heq := fun (W : World) (n c : Nat) => Lib.run_eql_slice_nil (P := Try.prog) W 72 77 (some ⟨R, 0, none⟩) n c 0 0 Try.underlying72
    go_enter Try.func49, Try.ntmps49
    go_wp2_with (at_builtin; obtain ⟨i0, hi, hz0, hz1, hz2⟩ := info_parts Try.info_page; refine wpList_append_own _ rfl _ _ 72 rfl w.heap.size 77 i0 _ 2 32 Try.underlying72 hi hz0 hz1 hz2 rfl (by decide) _ _ _ rfl (World.ownsRow_made w #[] 0 (Nat.le_refl _) (Nat.zero_le _) rfl) ⟨R, 0, none⟩ ps.length cap (pcells ps) rfl (pcells_len ps) HC.out (pcells_one ps) HM0.out HBY.out (by simp) ?_; intro v' w1 hown hgrow _; clear hi hz0 hz1 hz2 i0)
    go_ret
    refine ⟨newPages_of hown, ?_⟩
    exact ((Below.refl _ _).alloc (Nat.le_refl _) _).grown hgrow (by simp) (by intro k hk; simp [Value.ownBlock, Act.eval] at hk; omega)

/-- What a Twin comes to: a device with the same pages, all of which last, in new memory. -/
def Twinned (n0 room : Nat) (ps : List Pg) (w : World) (e : Ending) (w' : World) : Prop :=
  ∃ g' v', e = .returned (.pointer (some ⟨g', 0, none⟩)) ∧ Dev w' n0 g' v' room ps ps.length ∧ w.heap.size ≤ g' ∧ (∀ k, v'.ownBlock = some k → w.heap.size ≤ k)

theorem twinned_close {w w1 : World} {n0 g room lasts c1 : Nat} {v : Value} {ps : List Pg} {A1 : Option Addr} (D : Dev w n0 g v room ps lasts) (hn0 : n0 ≤ w.heap.size) (hbl : Below w.drew.heap.size w.drew w1)
    (hown : w1.ownsRow w.drew.heap.size 77 2 (.slice A1 ps.length c1) ps.length (pcells ps)) :
    Twinned n0 room ps w (.returned (.pointer (some ⟨w1.heap.size, 0, none⟩))) (w1.alloc (.cells #[.int .i64 (room : Int), .slice A1 ps.length c1, .int .i64 (ps.length : Int)] 74)) ∧ Below w.heap.size w (w1.alloc (.cells #[.int .i64 (room : Int), .slice A1 ps.length c1, .int .i64 (ps.length : Int)] 74)) := by
  have hb : Below w.heap.size w w1 := (bdrewN_refl _ w 1).trans hbl
  have hb2 := hb.alloc hb.size (.cells #[.int .i64 (room : Int), .slice A1 ps.length c1, .int .i64 (ps.length : Int)] 74)
  have hk : Below w1.heap.size w1 (w1.alloc (.cells #[.int .i64 (room : Int), .slice A1 ps.length c1, .int .i64 (ps.length : Int)] 74)) := (Below.refl _ _).alloc (Nat.le_refl _) _
  have f1 : Fr (fun _ => False) w1 (w1.alloc (.cells #[.int .i64 (room : Int), .slice A1 ps.length c1, .int .i64 (ps.length : Int)] 74)) := Fr.of_below hk
  have hs := hb.size
  have ho := f1.owns hown (fun _ _ x => x)
  have hge : ∀ k, (Value.slice A1 ps.length c1).ownBlock = some k → w.heap.size ≤ k := by
    intro k hk
    rcases hown.2 with ⟨e, _⟩ | ⟨g', cap, cur, e, hb', _⟩
    · injection e with e1
      rw [e1] at hk
      simp [Value.ownBlock] at hk
    · injection e with e1
      rw [e1] at hk
      simp [Value.ownBlock] at hk
      rw [← hk]
      simpa using hb'
  refine ⟨⟨w1.heap.size, .slice A1 ps.length c1, rfl, ⟨by omega, heap_alloc_new _ _, ?_, ?_, D.le, Nat.le_refl _, D.rm⟩, hs, hge⟩, hb2⟩
  · refine ⟨ho.1, ?_⟩
    rcases ho.2 with h0 | ⟨g', cap', cur, e1, e2, r⟩
    · exact .inl h0
    · have e2' : w.heap.size ≤ g' := by simpa using e2
      exact .inr ⟨g', cap', cur, e1, by omega, r⟩
  · intro p hp
    exact (D.below hb2).pgs p hp

set_option maxRecDepth 100000 in
set_option maxHeartbeats 4000000 in
theorem twin_any {w : World} {n0 g room lasts : Nat} {v : Value} {ps : List Pg} (h : Dev w n0 g v room ps lasts) (hn0 : n0 ≤ w.heap.size) :
    Calls Try.prog 24 #[.pointer (some ⟨g, 0, none⟩)] w fun e w' => Twinned n0 room ps w e w' ∧ Below w.heap.size w w' := by
  have H := Lib.hid h
  have hc := h.bk.cell
  have hlt := h.lt
  obtain ⟨A0, c0, rfl⟩ := h.form
  have hrm : ps.length ≤ 65536 := by have := h.le; have := h.rm; omega
  clear h
  go_enter Try.func24, Try.ntmps24
  go_wp2_with fail
  go_region_law
    (first
      | (go_simp; go_at_call 49; refine (clone_pages (H.out.below (Below.refl _ _).drew).row hrm).mono ?_; rintro e w1 ⟨hN, hbl⟩; obtain ⟨A1, c1, rfl, hown⟩ := hN; have hd1 := (H.out.below ((Below.refl _ _).drew.trans hbl)).bk.cell; have hl1 := (H.out.below ((Below.refl _ _).drew.trans hbl)).lt))
  all_goals
    go_wp2
    go_ret
    exact twinned_close H.out hn0 hbl hown
end Go.Proofs.Ytbmodlhnkbohhaa
