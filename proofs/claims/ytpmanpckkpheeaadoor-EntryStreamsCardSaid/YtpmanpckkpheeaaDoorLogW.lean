/- entry.Walk: an iterator that reads by a function. -/
import Derived.RangeFuncNested
import Derived.RangeFuncBound
import Derived.RangeFuncCalls
import Derived.RangeFuncBox
import Derived.RangeFuncLeaves
import Derived.Shelf.Abstract
import Derived.Shelf.RegionOpen
import Derived.WalkKit
import Derived.OwnWalkIn
import Derived.TacticsInMore
import Derived.LoopNIn
import Derived.LoopIn
import Derived.Outline
import Derived.Test.YtpmanpckkpheeaaDoorLogM
import Derived.Test.YtpmanpckkpheeaaDoorClone
namespace Go.Proofs.YtpmanpckkpheeaaDoor
open Go.RowKit Go.Shelf
set_option linter.unusedVariables false
attribute [local go_sem] Oper.semAt_some

/-- What is read: an address, and an entry without payload. -/
structure Ent where
  n : Int
  k : Int
  cl : Int
  bi : Int
  nu : Int
  st : Int
  ba : Int
abbrev Ent.val (e : Ent) : Value := .agg #[.int .i64 e.k, .int .i64 e.cl, .int .i64 e.bi, .int .i64 e.nu, .int .i64 e.st, .int .i64 e.ba, .slice none 0 0]
abbrev Ent.enc (e : Ent) : Array Value := #[.int .i64 e.n, e.val]
/-- Entries, each with the next one's address as its Back, falling, to below 0. -/
def Falls : Int → List Ent → Prop
  | z, [] => z < 0
  | z, e :: es => e.n = z ∧ 0 ≤ z ∧ e.ba < z ∧ Falls e.ba es

/-- All blocks below n₁ but those of M are as they were. -/
structure Kept (n₁ : Nat) (M : Nat → Prop) (w w' : World) : Prop where
  size : w.heap.size ≤ w'.heap.size
  block : ∀ k, k < n₁ → ¬ M k → w'.heap[k]? = w.heap[k]?
section
variable {n₁ : Nat} {M : Nat → Prop} {w w' w'' : World}
theorem Kept.refl (w : World) : Kept n₁ M w w := ⟨Nat.le_refl _, fun _ _ _ => rfl⟩
theorem Kept.trans (h : Kept n₁ M w w') (k : Kept n₁ M w' w'') : Kept n₁ M w w'' := ⟨Nat.le_trans h.size k.size, fun j hj hm => (k.block j hj hm).trans (h.block j hj hm)⟩
theorem Kept.of_below {B : Nat} (h : Below B w w') (hB : n₁ ≤ B) : Kept n₁ M w w' := ⟨h.size, fun j hj _ => h.block j (by omega)⟩
theorem Kept.cell (h : Kept n₁ M w w') {b : Nat} (hb : b < n₁) (hm : ¬ M b) (o : Nat) : w'.cell? ⟨b, o, none⟩ = w.cell? ⟨b, o, none⟩ := World.cell?_of_block (a := ⟨b, o, none⟩) (h.block b hb hm)
theorem Kept.frozen (h : Kept n₁ M w w') {b : Nat} (hb : b < n₁) (hm : ¬ M b) (o : Nat) : w'.frozen? ⟨b, o, none⟩ = w.frozen? ⟨b, o, none⟩ := World.frozen?_of_block (a := ⟨b, o, none⟩) (h.block b hb hm)
theorem Kept.setCell (w : World) (p : Addr) (u : Value) (hp : n₁ ≤ p.block ∨ M p.block) : Kept n₁ M w (w.setCell p u) :=
  ⟨by simp [World.setCell], fun j hj hm => Below.heap_setCell w p u j (fun e => by
    subst e
    rcases hp with h | h
    · omega
    · exact hm h)⟩
theorem Kept.alloc (h : Kept n₁ M w w') (hn : n₁ ≤ w'.heap.size) (o : Obj) : Kept n₁ M w (w'.alloc o) :=
  h.trans (.of_below ((Below.refl w'.heap.size w').alloc (Nat.le_refl _) o) hn)
theorem kept_t {A B C : World} (h : Kept n₁ M A B) (k : Kept n₁ M B C) : Kept n₁ M A C := h.trans k
theorem kept_b (hn : n₁ ≤ w.heap.size) (W : World) (l : Nat) (o o' : Obj) (hl : w.heap.size ≤ l) (h : W.heap[l]? = some o) (h1 : o.isCells = false) (h2 : o.isWalk = false) : Kept n₁ M W (W.putObj l o') :=
  .of_below (belowK_b hn W l o o' hl h h1 h2) (Nat.le_refl _)
end

theorem grownBy_of_below {w w' : World} (h : Below w.heap.size w w') : w.grownBy w' none :=
  ⟨h.os, h.tape, h.output, h.size, fun k hk _ => h.block k hk⟩

theorem clone_none (w : World) :
    Calls Tryd.prog 86 #[.slice none 0 0] w fun e w' => e = .returned (.slice none 0 0) ∧ w' = w := by
  have heq := fun (W : World) => Lib.run_eql_slice_nil (P := Tryd.prog) W 39 5 none 0 0 0 0 Tryd.underlying39
  go_enter Tryd.func86, Tryd.ntmps86
  go_wp2
  go_ret
  exact ⟨rfl, rfl⟩

set_option maxRecDepth 100000 in
set_option maxHeartbeats 2000000 in
theorem ewalk1_in (n : Nat) (hn : 1 ≤ n) (l Ba Br n₁ : Nat) (M : Nat → Prop) (fr : FuncId) (caps : Array Value) (z : Int) (es : List Ent) (hz : Falls z es) (J Jx : List Ent → World → Prop) (W : World)
    (hneq : ∀ W, Sem.run Tryd.prog (binOp BinOp.neq 56 (Value.func (Fn.func fr) #[] caps) Value.nilFunc) W = .ok (.bool true) W)
    (hent : ∀ args w, (callFunc fr args).run Tryd.prog w = .ok (.enter fr args) w)
    (hread : ∀ e ∈ es, ∀ W', Kept n₁ M W W' → Calls Tryd.prog fr (#[.int .i64 e.n] ++ caps) W' fun en w'' => en = .returned (.tuple #[e.val, .bool true]) ∧ Below W'.heap.size W' w'')
    (hY : ∀ pre x W, J pre W → pre.length < es.length → YieldAt Fence.wide (n - 1) Tryd.prog l x.enc W fun e W' =>
      (e = .returned (.bool true) ∧ J (pre ++ [x]) W' ∧ Kept n₁ M W W') ∨ (e = .returned (.bool false) ∧ Jx (pre ++ [x]) W'))
    {Bj : Nat} (hJ : AbidesFrom Bj J) (hBa : W.cell? ⟨Ba, 0, none⟩ = some (.int .i64 z)) (hBr : W.cell? ⟨Br, 0, none⟩ = some (.func (.func fr) #[] caps)) (hBan : Ba < n₁ ∧ ¬ M Ba) (hBrn : Br < n₁ ∧ ¬ M Br) (hn₁ : n₁ ≤ W.heap.size) (h0 : J [] W) :
    CallsIn Fence.wide n Tryd.prog 85 #[.func (.yield l) #[] #[], .pointer (some ⟨Ba, 0, none⟩), .pointer (some ⟨Br, 0, none⟩)] W fun e W' => (∃ v, e = .returned v) ∧
      ((∃ ys : List Ent, ys = es ∧ J ys W') ∨ (∃ pre : List Ent, pre <+: es ∧ Jx pre W')) := by
  refine callsIn_of_wp Tryd.func85 rfl trivial ?_ rfl
  simp only [Tryd.ntmps85, List.size_toArray, List.length_cons, List.length_nil, Nat.reduceAdd, Nat.reduceSub, Array.replicate_succ, Array.replicate_zero, List.push_toArray, List.append_toArray, List.nil_append, List.cons_append]
  gi_wp2
  have HR := Lib.hid hread
  have HY := Lib.hid hY
  have HJ := Lib.hid hJ
  clear hread hY hJ
  gi_loopw [4] (fun s4 wr => ∃ (k : Int) (pre rest : List Ent), s4 = .int .i64 k ∧ Hid (es = pre ++ rest) ∧ Hid (Falls k rest) ∧ Hid (J pre wr) ∧ Hid (Kept n₁ M W wr)) (fun s4 _ => (intOf s4 + 1).toNat)
  case atStart => exact ⟨z, [], es, rfl, Lib.hid rfl, Lib.hid hz, Lib.hid h0, Lib.hid (Kept.refl _)⟩
  case round =>
    obtain ⟨k, pre, rest, rfl, hes, hfall, hJw, hB⟩ := hrel
    have hbr := (hB.out.cell hBrn.1 hBrn.2 0).trans hBr
    cases rest with
    | nil =>
      have hk : k < 0 := hfall.out
      have hk1 : ¬ (0 ≤ k) := by omega
      gi_wp2
      go_end0
      have e0 : es = pre := by rw [hes.out, List.append_nil]
      exact ⟨⟨_, rfl⟩, .inl (by rw [e0]; exact hJw.out)⟩
    | cons e rest =>
      obtain ⟨hen, hk0, hba, hrest⟩ := hfall.out
      have hmem : e ∈ es := by rw [hes.out]; simp
      have hrd := HR.out e hmem wr hB.out
      have HF := Lib.hid hrest
      rw [hen] at hrd
      have HRD := Lib.hid hrd
      clear hrd hrest hfall
      gi_wp2
      refine ⟨trivial, ?_⟩
      refine (callsIn_wide.2 HRD.out).mono ?_
      rintro en W1 ⟨rfl, hb1⟩
      obtain ⟨en, a1, a2, a3, a4, a5, a6⟩ := e
      have hen : en = k := hen
      have hba : a6 < k := hba
      subst hen
      have hsz : n₁ ≤ wr.heap.size := Nat.le_trans hn₁ hB.out.size
      have hB1 : Kept n₁ M W W1 := hB.out.trans (.of_below hb1 hsz)
      have hJ1 := HJ.out _ wr _ none hJw.out (grownBy_of_below hb1) (fun r e => by cases e)
      have hJ2 := HJ.out _ W1 _ none hJ1 (World.grownBy_alloc W1 (.cells #[.int .i64 a1, .int .i64 a2, .int .i64 a3, .int .i64 a4, .int .i64 a5, .int .i64 a6, .slice none 0 0] 45) none) (fun r e => by cases e)
      have hB2 := hB1.alloc (Nat.le_trans hsz hb1.size) (.cells #[.int .i64 a1, .int .i64 a2, .int .i64 a3, .int .i64 a4, .int .i64 a5, .int .i64 a6, .slice none 0 0] 45)
      have hlen : pre.length < es.length := by rw [hes.out]; simp
      obtain ⟨fn, tmps, assign, body, hy, hR⟩ := HY.out pre ⟨en, a1, a2, a3, a4, a5, a6⟩ _ hJ2 hlen
      have HB2 := Lib.hid hB2
      have HES : Hid (es = (pre ++ [⟨en, a1, a2, a3, a4, a5, a6⟩]) ++ rest) := by show _ = _; rw [hes.out]; simp
      have HF2 : Hid (Falls a6 rest) := HF.out
      dsimp only [Ent.enc, Ent.val] at hy
      clear hJ1 hJ2 hB1 hB2 hb1 hlen hsz hes HF hJw hmem HRD hB
      gi_wp2
      refine ⟨trivial, ?_⟩
      refine (callsIn_wide.2 (clone_none _)).mono ?_
      rintro _ _ ⟨rfl, rfl⟩
      have hback : ¬ (en ≤ a6) := by omega
      gi_wp2
      refine hR.mono ?_
      rintro e W3 (⟨rfl, hJ3, hk3⟩ | ⟨rfl, hJx3⟩)
      · have HJ3 := Lib.hid hJ3
        have HB3 := Lib.hid (HB2.out.trans hk3)
        clear hJ3 hk3 hR hy
        gi_wp2
        go_roundw
        case rel => exact ⟨a6, _, rest, rfl, HES, HF2, HJ3, HB3⟩
        case measure => simp [intOf]; omega
      · have HX3 := Lib.hid hJx3
        clear hJx3 hR hy
        gi_wp2
        refine bodyPost_ret (results_none rfl _ _ _) rfl ?_
        refine ⟨⟨_, rfl⟩, .inr ⟨_, ?_, HX3.out⟩⟩
        rw [HES.out]
        exact List.prefix_append _ _

set_option maxHeartbeats 1000000 in
theorem ewalk_in (n : Nat) (z : Int) (fr : FuncId) (caps : Array Value) (w : World) :
    CallsIn Fence.wide n Tryd.prog 33 #[.int .i64 z, .func (.func fr) #[] caps] w fun e w' => e = .returned (.func (.func 85) #[] #[.pointer (some ⟨w.heap.size, 0, none⟩), .pointer (some ⟨w.heap.size + 1, 0, none⟩)]) ∧ w' = (w.alloc (.cells #[.int .i64 z] 3)).alloc (.cells #[.func (.func fr) #[] caps] 56) := by
  refine callsIn_of_wp Tryd.func33 rfl trivial ?_ rfl
  simp only [Tryd.ntmps33, List.size_toArray, List.length_cons, List.length_nil, Nat.reduceAdd, Nat.reduceSub, Array.replicate_succ, Array.replicate_zero, List.push_toArray, List.append_toArray, List.nil_append, List.cons_append]
  gi_wp2
  go_ret
  exact ⟨rfl, rfl⟩

theorem ewalk_stops (n : Nat) (hn : 1 ≤ n) (Ba Br n₁ : Nat) (M : Nat → Prop) (fr : FuncId) (caps : Array Value) (z : Int) (es : List Ent) (hz : Falls z es) (w : World)
    (hneq : ∀ W, Sem.run Tryd.prog (binOp BinOp.neq 56 (Value.func (Fn.func fr) #[] caps) Value.nilFunc) W = .ok (.bool true) W)
    (hent : ∀ args w, (callFunc fr args).run Tryd.prog w = .ok (.enter fr args) w)
    (hread : ∀ e ∈ es, ∀ W', Kept n₁ M w W' → Calls Tryd.prog fr (#[.int .i64 e.n] ++ caps) W' fun en w'' => en = .returned (.tuple #[e.val, .bool true]) ∧ Below W'.heap.size W' w'')
    (hBa : w.cell? ⟨Ba, 0, none⟩ = some (.int .i64 z)) (hBr : w.cell? ⟨Br, 0, none⟩ = some (.func (.func fr) #[] caps)) (hBan : Ba < n₁ ∧ ¬ M Ba) (hBrn : Br < n₁ ∧ ¬ M Br) (hn₁ : n₁ ≤ w.heap.size) :
    SeqStopsK Fence.wide n Tryd.prog 85 #[.pointer (some ⟨Ba, 0, none⟩), .pointer (some ⟨Br, 0, none⟩)] (fun x : Ent => x.enc) (Kept n₁ M) (fun ys => ys = es) (fun pre => pre <+: es) es.length w := fun l J Jx W hW hJ _ hY h0 => by
  have hW' : Kept n₁ M w W := .of_below hW hn₁
  exact ewalk1_in n hn l Ba Br n₁ M fr caps z es hz J Jx W hneq hent (fun e he W' hb => hread e he W' (hW'.trans hb)) hY hJ ((hW'.cell hBan.1 hBan.2 0).trans hBa) ((hW'.cell hBrn.1 hBrn.2 0).trans hBr) hBan hBrn (Nat.le_trans hn₁ hW.size) h0
end Go.Proofs.YtpmanpckkpheeaaDoor
