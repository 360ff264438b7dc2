/- octet's Reader: Bytes(-1) goes wrong; List of a reader gone wrong. -/
import Derived.Test.YtbmodlhnkbohhaaWrong
import Derived.RangeFuncNested
import Derived.RangeFuncBound
import Derived.RangeFuncCalls
import Derived.RangeFuncBox
import Derived.RangeFuncLeaves
import Derived.Shelf.Abstract
import Derived.Shelf.RegionOpen
import Derived.OwnWalkIn
import Derived.TacticsInMore
import Derived.LoopNIn
import Derived.LoopIn
namespace Go.Proofs.Ytbmodlhnkbohhaa
open Go.RowKit Go.Shelf
set_option linter.unusedVariables false
attribute [local go_sem] Oper.semAt_some

section
variable {w : World} {g : Nat} {A : Option Addr} {c : Nat} {l : List UInt8}
theorem take_short (h : Rdr w g A c l false) (n : Nat) (hn : l.length < n) :
    Calls Try.prog 56 #[.pointer (some ⟨g, 0, none⟩), .int .i64 (n : Int)] w fun e w' => e = .returned (.slice none 0 0) ∧ Gone w' g ∧ Fr (fun k => k = g) w w' := by
  have hc := (Blk.of_heap h.blk).cell
  have h1 : ((l.length : Nat) : Int) < (n : Int) := by omega
  have HB := Lib.hid h.blk
  clear h
  go_enter Try.func56, Try.ntmps56
  go_wp2_with fail
  refine (fail_ok HB.out).mono ?_
  rintro e w2 ⟨rfl, hg, hf⟩
  go_wp2
  go_ret
  exact ⟨rfl, hg, hf⟩
theorem number_short (h : Rdr w g A c l false) (hn : l.length < 4) :
    Calls Try.prog 41 #[.pointer (some ⟨g, 0, none⟩), .int .i64 4] w fun e w' => e = .returned (.int .u64 0) ∧ Gone w' g ∧ Fr (fun k => k = g) w w' := by
  go_enter Try.func41, Try.ntmps41
  go_wp2_with fail
  refine (width_ok 4 (by decide) w).mono ?_
  rintro e w' ⟨rfl, rfl⟩
  go_wp2_with fail
  refine (take_short h 4 hn).mono ?_
  rintro e w2 ⟨rfl, hg, hf⟩
  have HG := Lib.hid hg
  clear hg
  go_wp2_with fail
  refine wp_loop_once ?_
  go_wp2
  go_ret
  exact ⟨rfl, HG.out, hf⟩
theorem told_neg (h : Rdr w g A c l false) (hl : l.length ≤ 70368744177664) :
    Calls Try.prog 57 #[.pointer (some ⟨g, 0, none⟩), .int .i64 (-1)] w fun e w' => e = .returned (.int .i64 0) ∧ Gone w' g ∧ Fr (fun k => k = g) w w' := by
  by_cases h4 : l.length < 4
  · go_enter Try.func57, Try.ntmps57
    go_wp2_with fail
    refine (number_short h h4).mono ?_
    rintro e w2 ⟨rfl, hg, hf⟩
    have hc := (Blk.of_heap hg).cell
    have HG := Lib.hid hg
    clear hg
    go_wp2
    go_ret
    exact ⟨rfl, HG.out, hf⟩
  · go_enter Try.func57, Try.ntmps57
    go_wp2_with fail
    refine (rnumber_ok (n := 4) h (by decide) (by decide) (by omega) hl).mono ?_
    rintro e w2 ⟨rfl, ⟨A2, c2, hr⟩, hf⟩
    have hc := (Blk.of_heap hr.blk).cell
    have hv := beVal_lt (l.take 4)
    have hv2 : beVal (l.take 4) < 256 ^ 4 := Nat.lt_of_lt_of_le hv (Nat.pow_le_pow_right (by decide) (by simp; omega))
    obtain ⟨v, hve⟩ : ∃ v, beVal (l.take 4) = v := ⟨_, rfl⟩
    rw [hve] at hv2
    rw [hve]
    have hv3 : v < 4294967296 := hv2
    have hgt : (-1 : Int) < (v : Int) := by omega
    have hwr : IntKind.i64.wrap (v : Int) = (v : Int) := by rw [IntKind.wrap_i64]; omega
    have HB := Lib.hid hr.blk
    clear hr hv hv2 hve
    go_wp2_with fail
    refine (fail_ok HB.out).mono ?_
    rintro e w3 ⟨rfl, hg, hf2⟩
    have HG := Lib.hid hg
    clear hg
    go_wp2
    go_ret
    exact ⟨rfl, HG.out, hf.trans hf2 (fun _ _ e => e)⟩
theorem rbytes_neg (h : Rdr w g A c l false) (hl : l.length ≤ 70368744177664) :
    Calls Try.prog 37 #[.pointer (some ⟨g, 0, none⟩), .int .i64 (-1)] w fun e w' => (∃ v, e = .returned v) ∧ Gone w' g ∧ Below g w w' := by
  have hlt : g < w.heap.size := (Array.getElem?_eq_some_iff.1 h.blk).1
  go_enter Try.func37, Try.ntmps37
  go_wp2_with fail
  refine (told_neg h hl).mono ?_
  rintro e w2 ⟨rfl, hg, hf⟩
  have HG := Lib.hid hg
  clear hg
  go_wp2_with fail
  refine (take_wrong HG.out 0).mono ?_
  rintro e w3 ⟨rfl, rfl⟩
  go_wp2_with fail
  refine (clone_nil _).mono ?_
  rintro e w4 ⟨⟨A4, c4, rfl, -⟩, hb⟩
  go_wp2
  go_ret
  have hb2 : Below g w w3 := hf.below (Nat.le_of_lt hlt) (fun k hk => by rw [hk]; exact Nat.le_refl _)
  exact ⟨⟨_, rfl⟩, HG.out.below hb, hb2.trans (hb.mono (Nat.le_trans (Nat.le_of_lt hlt) hf.size))⟩
end

set_option maxRecDepth 100000 in
set_option maxHeartbeats 1000000 in
/-- turns' closure, of no turns. -/
theorem turns1_in (F : Fence) (n : Nat) (h7 : F.fn 65) (hro : F.round = none) (l Bn Br : Nat) {β : Type} (J : List β → World → Prop) (W : World) (hBn : W.cell? ⟨Bn, 0, none⟩ = some (.int .i64 0)) (h0 : J [] W) :
    CallsIn F n Try.prog 65 #[.func (.yield l) #[] #[], .pointer (some ⟨Bn, 0, none⟩), .pointer (some ⟨Br, 0, none⟩)] W fun e W' => (∃ v, e = .returned v) ∧ J [] W' := by
  refine callsIn_of_wp Try.func65 rfl h7 ?_ hro
  simp only [Try.ntmps65, List.size_toArray, List.length_cons, List.length_nil, Nat.reduceAdd, Nat.reduceSub, Array.replicate_succ, Array.replicate_zero, List.push_toArray, List.append_toArray, List.nil_append, List.cons_append]
  gi_wp2
  gi_loopw [6] (fun i wr => i = .int .i64 0 ∧ J [] wr) (fun _ _ => 0)
  case atStart => exact ⟨rfl, h0⟩
  case round =>
    obtain ⟨rfl, hJs⟩ := hrel
    gi_wp2
    go_end0
    exact ⟨⟨_, rfl⟩, hJs⟩
set_option maxHeartbeats 1000000 in
theorem turns_in (F : Fence) (n : Nat) (h5 : F.fn 58) (hro : F.round = none) (p0 : Option Addr) (z : Int) (w : World) :
    CallsIn F n Try.prog 58 #[.pointer p0, .int .i64 z] w fun e w' => e = .returned (.func (.func 65) #[] #[.pointer (some ⟨w.heap.size + 1, 0, none⟩), .pointer (some ⟨w.heap.size, 0, none⟩)]) ∧ w' = (w.alloc (.cells #[.pointer p0] 60)).alloc (.cells #[.int .i64 z] 3) := by
  refine callsIn_of_wp Try.func58 rfl h5 ?_ hro
  simp only [Try.ntmps58, List.size_toArray, List.length_cons, List.length_nil, Nat.reduceAdd, Nat.reduceSub, Array.replicate_succ, Array.replicate_zero, List.push_toArray, List.append_toArray, List.nil_append, List.cons_append]
  gi_wp2
  go_ret
  exact ⟨rfl, rfl⟩

set_option maxRecDepth 100000 in
set_option maxHeartbeats 2000000 in
theorem list_wrong {w : World} {g : Nat} (h : Gone w g) (z : Int) :
    Calls Try.prog 38 #[.pointer (some ⟨g, 0, none⟩), .int .i64 z, .func (.func 39) #[] #[]] w fun e w' => e = .returned (.slice none 0 0) ∧ Below w.heap.size w w' := by
  have heq : ∀ W, Sem.run Try.prog (binOp BinOp.eql 68 (Value.func (Fn.func 39) #[] #[]) Value.nilFunc) W = .ok (.bool false) W := fun W => rfl
  refine (callsIn_wide (n := 6)).1 ?_
  refine callsIn_of_wp_marks Try.func38 rfl trivial ?_ rfl
  simp only [Try.ntmps38, List.size_toArray, List.length_cons, List.length_nil, Nat.reduceAdd, Nat.reduceSub, Array.replicate_succ, Array.replicate_zero, List.push_toArray, List.append_toArray, List.nil_append, List.cons_append]
  gi_wp2_with
    (first
      | (refine ⟨trivial, ?_⟩; gi_at_call 57; refine (callsIn_wide.2 (told_wrong (h.below (((Below.refl _ w).alloc (Nat.le_refl _) _).alloc (by simp) _)) z)).mono ?_; rintro e w' ⟨rfl, rfl⟩)
      | (refine ⟨trivial, ?_⟩; gi_at_call 58; refine (turns_in Fence.wide _ trivial rfl _ _ _).mono ?_; rintro e w' ⟨rfl, rfl⟩))
  clear heq
  obtain ⟨W0, hW0⟩ : ∃ W0, ((((w.alloc (.cells #[.pointer (some ⟨g, 0, none⟩)] 60)).alloc (.cells #[.func (.func 39) #[] #[]] 68)).alloc (.cells #[.slice none 0 0] 23)).alloc (.cells #[.pointer (some ⟨g, 0, none⟩)] 60)).alloc (.cells #[.int .i64 0] 3) = W0 := ⟨_, rfl⟩
  have hB0 : Below w.heap.size w W0 := by
    rw [← hW0]
    exact (((((Below.refl _ w).alloc (Nat.le_refl _) _).alloc (by simp) _).alloc (by simp; omega) _).alloc (by simp; omega) _).alloc (by simp; omega) _
  have hp : Boxed W0 w.heap.size 60 (.pointer (some ⟨g, 0, none⟩)) := by
    rw [← hW0]
    exact ((((Boxed.new w _ _).alloc _).alloc _).alloc _).alloc _
  have hq : W0.cell? ⟨w.heap.size + 1 + 1 + 1 + 1, 0, none⟩ = some (.int .i64 0) := by
    rw [← hW0]
    have h5 := Boxed.new ((((w.alloc (.cells #[.pointer (some ⟨g, 0, none⟩)] 60)).alloc (.cells #[.func (.func 39) #[] #[]] 68)).alloc (.cells #[.slice none 0 0] 23)).alloc (.cells #[.pointer (some ⟨g, 0, none⟩)] 60)) 3 (.int .i64 0)
    simp only [World.size_alloc] at h5
    exact h5.cell
  have hsz : W0.heap.size = w.heap.size + 5 := by rw [← hW0]; simp
  rw [hW0]
  refine wpIn_rangeFunc_ownG (α := Empty) (encs := fun x => x.elim) (Kp := Below w.heap.size) (S := fun _ => True) (Sp := fun _ => False) (N := 0) (w0 := W0) rfl (by omega) (gf := 65) (lb := #[.pointer (some ⟨w.heap.size + 1 + 1 + 1 + 1, 0, none⟩), .pointer (some ⟨w.heap.size + 1 + 1 + 1, 0, none⟩)]) rfl trivial (enters_of Try.func65 (by kernel_rfl) rfl)
    (fun l J Jx W hW _ _ _ h0 => (turns1_in Fence.wide _ trivial rfl l _ _ J W ((hW.cell (p := ⟨w.heap.size + 1 + 1 + 1 + 1, 0, none⟩) (by show w.heap.size + 1 + 1 + 1 + 1 < W0.heap.size; omega)).trans hq) h0).mono fun e W' ⟨he, hj⟩ => ⟨he, .inl ⟨[], trivial, hj⟩⟩)
    belowK_t (belowK_b (by omega)) (Below.refl _ _) (fun x => x.elim)
    (fun _ W => Boxed W w.heap.size 60 (.pointer (some ⟨g, 0, none⟩)) ∧ Below w.heap.size w W) (fun _ _ _ => False)
    (OwnFrom.and (Own.from (boxed_own w.heap.size 60 (fun _ => .pointer (some ⟨g, 0, none⟩))) _) (ownFrom_below (Nat.le_refl _) (by omega)))
    (fun _ _ _ _ _ hs _ _ => hs) ⟨hp, hB0⟩ (fun x => x.elim) (fun _ x => x.elim) (fun _ _ x => x.elim) ?done ?stop
  case done =>
    rintro D ys W hD - ⟨hbx, hB⟩ hK
    have hc1 := hbx.cell
    have hG := (Blk.of_heap (h.below hB)).cell
    gi_wp2
    refine ⟨by simp, .inl ⟨_, _, rfl, run_takeDeferred hK, ?_⟩⟩
    exact ⟨_, results_tmp rfl _ _ _, rfl, hB.trans (belowK_b (w := w) (Nat.le_refl _) W D _ _ (by omega) hK rfl rfl)⟩
  case stop =>
    rintro D c pre W _ h _ _
    exact h.elim
end Go.Proofs.Ytbmodlhnkbohhaa
