/- Words for memory: a row of cells that reads as a list, kept over whatever leaves old blocks alone; bytes as values. -/
import Derived.Test.YtjkilpjdgjijiaaDoorChecked
import Derived.WalkKit
import Derived.WalkLawsBesides
import Derived.WalkSpells
import Derived.Below
import Derived.Lib.Hide
import Derived.Deep.QuietTactic
import Derived.BigQuiet
import Derived.Deep.RegionHeld3
namespace Go.Proofs.YtjkilpjdgjijiaaDoor
open Go.RowKit
set_option linter.unusedVariables false

/-- The cells from ⟨b, o⟩ on hold xs. -/
def RowAt (w : World) (b o : Nat) (xs : List Value) : Prop := ∀ k v, xs[k]? = some v → w.cell? ⟨b, o + k, none⟩ = some v

/-- A slice at A, its cells xs, in a block below B (nothing is asked where there is no cell). -/
def Sl (w : World) (B : Nat) (A : Option Addr) (xs : List Value) : Prop := xs = [] ∨ ∃ b o, A = some ⟨b, o, none⟩ ∧ b < B ∧ RowAt w b o xs

/-- Bytes as values. -/
def bv (l : List UInt8) : List Value := l.map fun x => .int .u8 (x.toNat : Int)

theorem bv_get {l : List UInt8} {k : Nat} (h : k < l.length) : (bv l)[k]? = some (.int .u8 (l[k].toNat : Int)) := by simp [bv, h]
theorem bv_len (l : List UInt8) : (bv l).length = l.length := by simp [bv]
theorem bv_app (a b : List UInt8) : bv (a ++ b) = bv a ++ bv b := by simp [bv]

section
variable {w w' : World} {B B' : Nat} {A : Option Addr} {xs : List Value}
theorem RowAt.keep {b o : Nat} (h : RowAt w b o xs) (hk : ∀ p : Addr, p.block = b → w'.cell? p = w.cell? p) : RowAt w' b o xs :=
  fun k v hv => (hk _ rfl).trans (h k v hv)
theorem Sl.nil : Sl w B A [] := .inl rfl
theorem Sl.keep (h : Sl w B A xs) (hk : ∀ p : Addr, p.block < B → w'.cell? p = w.cell? p) : Sl w' B A xs := by
  rcases h with h | ⟨b, o, rfl, hb, hr⟩
  · exact .inl h
  · exact .inr ⟨b, o, rfl, hb, hr.keep fun p hp => hk p (by omega)⟩
theorem Sl.more (h : Sl w B A xs) (hB : B ≤ B') : Sl w B' A xs := by
  rcases h with h | ⟨b, o, rfl, hb, hr⟩
  · exact .inl h
  · exact .inr ⟨b, o, rfl, by omega, hr⟩
theorem Sl.below (h : Sl w B A xs) (hb : Below B w w') : Sl w' B A xs := h.keep fun _ hp => hb.cell hp
theorem Sl.at (h : Sl w B A xs) {k : Nat} (hk : k < xs.length) : ∃ b o, A = some ⟨b, o, none⟩ ∧ b < B ∧ w.cell? ⟨b, o + k, none⟩ = some xs[k] := by
  rcases h with h | ⟨b, o, rfl, hb, hr⟩
  · subst h; simp at hk
  · exact ⟨b, o, rfl, hb, hr k _ (List.getElem?_eq_getElem hk)⟩
theorem Sl.byte {l : List UInt8} (h : Sl w B A (bv l)) {k : Nat} (hk : k < l.length) : ∃ b o, A = some ⟨b, o, none⟩ ∧ b < B ∧ w.cell? ⟨b, o + k, none⟩ = some (.int .u8 (l[k].toNat : Int)) := by
  rcases h with h | ⟨b, o, rfl, hb, hr⟩
  · have : l = [] := by simpa [bv] using h
    subst this; simp at hk
  · exact ⟨b, o, rfl, hb, hr k _ (bv_get hk)⟩
end

theorem Sl.alloc {w : World} {B : Nat} {A : Option Addr} {xs : List Value} (h : Sl w B A xs) (hB : B ≤ w.heap.size) (o : Obj) : Sl (w.alloc o) B A xs := h.keep fun p hp => World.cell?_alloc_lt w o p (by omega)
theorem Sl.drew {w : World} {B : Nat} {A : Option Addr} {xs : List Value} (h : Sl w B A xs) : Sl w.drew B A xs := h
theorem Sl.drewN {w : World} {B : Nat} {A : Option Addr} {xs : List Value} (h : Sl w B A xs) (n : Nat) : Sl (w.drewN n) B A xs := h
theorem Sl.setCell {w : World} {B : Nat} {A : Option Addr} {xs : List Value} (h : Sl w B A xs) {p : Addr} (hp : B ≤ p.block) (u : Value) : Sl (w.setCell p u) B A xs :=
  h.keep fun q hq => World.cell?_setCell_other w p q u (fun e => by subst e; omega)

/-- Below over a number of draws. -/
theorem bdrewN {B : Nat} {a w : World} (h : Below B a w) (n : Nat) : Below B a (w.drewN n) := ⟨h.os, h.tape, h.output, h.size, h.block⟩
theorem bdrewN_refl (B : Nat) (w : World) (n : Nat) : Below B w (w.drewN n) := bdrewN (Below.refl B w) n
/-- All that lay below reads as it did: two rules for the walk. -/
theorem bcell {W w1 : World} {B : Nat} (hb : Below B W w1) : (∀ b o, b < B → w1.cell? ⟨b, o, none⟩ = W.cell? ⟨b, o, none⟩) ∧ (∀ b o, b < B → w1.frozen? ⟨b, o, none⟩ = W.frozen? ⟨b, o, none⟩) :=
  ⟨fun b o h => hb.cell (p := ⟨b, o, none⟩) h, fun b o h => hb.frozen (p := ⟨b, o, none⟩) h⟩

/-- What a region with calls keeps: all that lay before it. -/
theorem sKeep {W0 w1 w2 : World} (h : Below W0.heap.size W0 w1 ∧ ∀ b o, b < W0.heap.size → w1.cell? ⟨b, o, none⟩ = W0.cell? ⟨b, o, none⟩) (hb : Below w1.heap.size w1 w2) :
    Below W0.heap.size W0 w2 ∧ ∀ b o, b < W0.heap.size → w2.cell? ⟨b, o, none⟩ = W0.cell? ⟨b, o, none⟩ :=
  have k := h.1.trans (hb.mono h.1.size)
  ⟨k, fun b o hbo => k.cell (p := ⟨b, o, none⟩) hbo⟩
theorem sKeep0 {W0 w2 : World} (hb : Below W0.heap.size W0 w2) :
    Below W0.heap.size W0 w2 ∧ ∀ b o, b < W0.heap.size → w2.cell? ⟨b, o, none⟩ = W0.cell? ⟨b, o, none⟩ :=
  ⟨hb, fun b o hbo => hb.cell (p := ⟨b, o, none⟩) hbo⟩
theorem sKeepD (W0 : World) : Below W0.heap.size W0 W0.drew ∧ ∀ b o, b < W0.heap.size → W0.drew.cell? ⟨b, o, none⟩ = W0.cell? ⟨b, o, none⟩ :=
  sKeep0 (Below.refl _ _).drew

open Classical in
/-- u, if it is W with more behind it; else W: a world that has grown out of W, in a form that the walk reads through. -/
noncomputable def over (W u : World) : World := if Below W.heap.size W u then u else W
theorem over_below (W u : World) : Below W.heap.size W (over W u) := by
  unfold over; split
  · assumption
  · exact Below.refl _ _
theorem over_of {W u : World} (h : Below W.heap.size W u) : u = over W u := by unfold over; rw [if_pos h]
theorem over_cell (W u : World) (b o : Nat) (s : Option Nat) (h : b < W.heap.size) : (over W u).cell? ⟨b, o, s⟩ = W.cell? ⟨b, o, s⟩ := (over_below W u).cell (p := ⟨b, o, s⟩) h
theorem over_frozen (W u : World) (b o : Nat) (s : Option Nat) (h : b < W.heap.size) : (over W u).frozen? ⟨b, o, s⟩ = W.frozen? ⟨b, o, s⟩ := (over_below W u).frozen (p := ⟨b, o, s⟩) h
theorem over_heap (W u : World) (b : Nat) (h : b < W.heap.size) : (over W u).heap[b]? = W.heap[b]? := (over_below W u).block b h
theorem over_size (W u : World) : W.heap.size ≤ (over W u).heap.size := (over_below W u).size

theorem over_lt (W u : World) (b : Nat) (h : b < W.heap.size) : b < (over W u).heap.size := Nat.lt_of_lt_of_le h (over_size W u)
theorem over_ne (W u : World) (b : Nat) (h : b < W.heap.size) : b ≠ (over W u).heap.size := Nat.ne_of_lt (over_lt W u b h)
/-- A contract's world, read through. -/
theorem ov {P : Program} {f : FuncId} {args : Array Value} {w : World} {R : Ending → Prop} (h : Calls P f args w fun e w' => R e ∧ Below w.heap.size w w') : Calls P f args w fun e w' => R e ∧ ∃ u, w' = over w u :=
  h.mono fun _ w' ⟨he, hb⟩ => ⟨he, w', over_of hb⟩
theorem ovD {P : Program} {f : FuncId} {args : Array Value} {w : World} {R : Ending → Prop} (h : Calls P f args w fun e w' => R e ∧ ∃ n, w' = w.drewN n) : Calls P f args w fun e w' => R e ∧ ∃ u, w' = over w u :=
  h.mono fun _ _ ⟨he, n, hn⟩ => ⟨he, w.drewN n, hn.trans (over_of (bdrewN_refl _ _ n))⟩
/-- A callee's contract, met in a world that has grown out of W. -/
theorem over_call {P : Program} {f : FuncId} {args : Array Value} {W u : World} {v : Value} (h : Calls P f args (over W u) fun e w' => e = .returned v ∧ Below (over W u).heap.size (over W u) w') :
    Calls P f args (over W u) fun e w'' => e = .returned v ∧ ∃ u', w'' = over W u' :=
  h.mono fun _ w' ⟨he, hb⟩ => ⟨he, w', over_of ((over_below W u).trans (hb.mono (over_size W u)))⟩
/-- .. of a callee that only draws. -/
theorem over_call_drew {P : Program} {f : FuncId} {args : Array Value} {W u : World} {v : Value} (h : Calls P f args (over W u) fun e w' => e = .returned v ∧ ∃ n, w' = (over W u).drewN n) :
    Calls P f args (over W u) fun e w'' => e = .returned v ∧ ∃ u', w'' = over W u' :=
  over_call (h.mono fun _ _ ⟨he, n, hn⟩ => ⟨he, by rw [hn]; exact bdrewN_refl _ _ n⟩)
/-- A region that draws its order, whose operations only read, and whose callees make memory at most: one walk in the order of the text. -/
theorem wp_region_over {P : Program} {id : Nat} {Q : Exit → Act → World → Prop} {a : Act} {w : World} {l : List Oper} (hm : P.follows .mixedOrders = true) (hB : Region.lexB .any l.toArray = true)
    (h : wpQuiet P l.toArray (fun w' => ∃ u, w' = over w u) (fun a' => ∀ w', (∃ u, w' = over w u) → Q .normal a' w') l a) : (Code.region id l.toArray true).wp P Q a w :=
  wp_region_quiet (C := fun w' => ∃ u, w' = over w u) hm hB ⟨_, over_of (Below.refl _ w).drew⟩ (by simpa using h)

/-- A block that is known whole: two rules for the walk, and that it is there. -/
structure Blk (w : World) (g : Nat) (cs : Array Value) : Prop where
  cell : ∀ i, w.cell? ⟨g, i, none⟩ = cs[i]?
  free : ∀ i, w.frozen? ⟨g, i, none⟩ = false
  lt : g < w.heap.size
theorem Blk.of_heap {w : World} {g : Nat} {cs : Array Value} {t : TypeId} (h : w.heap[g]? = some (.cells cs t (0, 0))) : Blk w g cs :=
  ⟨fun i => by simp [World.cell?, h], fun i => by simp [World.frozen?, h], (Array.getElem?_eq_some_iff.1 h).1⟩
theorem Blk.new (w : World) (cs : Array Value) (t : TypeId) : Blk (w.alloc (.cells cs t)) w.heap.size cs := .of_heap (heap_alloc_new w _)
theorem Blk.below {w w' : World} {g B : Nat} {cs : Array Value} (h : Blk w g cs) (hb : Below B w w') (hg : g < B) : Blk w' g cs :=
  ⟨fun i => (hb.cell (p := ⟨g, i, none⟩) hg).trans (h.cell i), fun i => (hb.frozen (p := ⟨g, i, none⟩) hg).trans (h.free i), Nat.lt_of_lt_of_le h.lt hb.size⟩
theorem Blk.belowAll {w w' : World} {g : Nat} {cs : Array Value} (h : Blk w g cs) (hb : Below w.heap.size w w') : Blk w' g cs := h.below hb h.lt
theorem Blk.alloc {w : World} {g : Nat} {cs : Array Value} (h : Blk w g cs) (o : Obj) : Blk (w.alloc o) g cs := h.belowAll ((Below.refl _ _).alloc (Nat.le_refl _) o)
theorem Blk.drew {w : World} {g : Nat} {cs : Array Value} (h : Blk w g cs) : Blk w.drew g cs := ⟨h.cell, h.free, h.lt⟩
theorem Blk.far {w : World} {g : Nat} {cs : Array Value} (h : Blk w g cs) {p : Addr} (hp : g ≠ p.block) (u : Value) : Blk (w.setCell p u) g cs :=
  ⟨fun i => by
    have := Below.heap_setCell w p u g hp
    rw [← h.cell i]; exact World.cell?_of_block (a := ⟨g, i, none⟩) this,
   fun i => by
    have := Below.heap_setCell w p u g hp
    rw [← h.free i]; exact World.frozen?_of_block (a := ⟨g, i, none⟩) this,
   by simpa [World.setCell] using h.lt⟩

theorem ret_bool {a b : Bool} (h : a = b) : Ending.returned (.bool a) = .returned (.bool b) := by rw [h]
theorem ret_int {k : IntKind} {a b : Int} (h : a = b) : Ending.returned (.int k a) = .returned (.int k b) := by rw [h]
theorem setRow_alloc (X : World) (c d : Array Value) (t : TypeId) : (X.alloc (.cells c t)).setRow X.heap.size d = X.alloc (.cells d t) := by
  have h : ((X.alloc (.cells c t)).setRow X.heap.size d).heap = (X.alloc (.cells d t)).heap := by
    apply Array.ext_getElem?
    intro k
    show ((X.heap.push (Obj.cells c t)).modify X.heap.size _)[k]? = (X.heap.push (Obj.cells d t))[k]?
    rw [Array.getElem?_modify]
    by_cases hk : X.heap.size = k
    · subst hk; simp
    · rw [if_neg hk, Array.getElem?_push, Array.getElem?_push, if_neg (fun e => hk e.symm), if_neg (fun e => hk e.symm)]
  show World.mk ((X.alloc (.cells c t)).setRow X.heap.size d).heap _ _ _ _ = _
  rw [h]
  rfl
theorem run_store_whole {P : Program} (T : TypeId) (X : World) (xs ys : Array Value) (hs : xs.size = ys.size) (e2 : (sizeOf T).run P (X.alloc (.cells xs T)) = .ok ys.size (X.alloc (.cells xs T)))
    (h1 : ∀ v ∈ ys.toList, v.oneCell' = true) : (storeVar T ⟨X.heap.size, 0, none⟩ (.agg ys)).run P (X.alloc (.cells xs T)) = .ok () (X.alloc (.cells ys T)) := by
  have hst := run_storeCells_at P X.heap.size 0 T ys.toList 0 xs (X.alloc (.cells xs T)) (heap_alloc_new X _) (by simp [hs]) h1
  have hx : (xs.toList.take (0 + 0) ++ ys.toList ++ xs.toList.drop (0 + 0 + ys.toList.length)).toArray = ys := by
    rw [List.drop_eq_nil_of_le (by simp [hs])]; simp
  rw [hx, setRow_alloc] at hst
  unfold storeVar
  simp only [Sem.run_bind, e2, Result.andThen_ok, Value.cells, ne_eq, not_true_eq_false, if_false]
  exact hst
def oneB : Value → Bool
  | .agg _ => false
  | .tuple _ => false
  | _ => true
theorem oneB_eq (v : Value) : v.oneCell' = oneB v := by cases v <;> rfl
theorem oneB_int (k : IntKind) (n : Int) : oneB (.int k n) = true := rfl
theorem oneB_bool (b : Bool) : oneB (.bool b) = true := rfl
theorem oneB_slice (a : Option Addr) (n c : Nat) : oneB (.slice a n c) = true := rfl
theorem oneB_string (s : ByteArray) : oneB (.string s) = true := rfl
theorem oneB_pointer (a : Option Addr) : oneB (.pointer a) = true := rfl
attribute [go_sem] oneB_int oneB_bool oneB_slice oneB_string oneB_pointer

/-- A load, a store, as one step: so that a law for a wide struct can be met before it is taken apart cell by cell. -/
def ldR (P : Program) (T : TypeId) (a : Value) (w : World) : Result Next := ((Instr.loadAt T a).run P w).andThen fun v w' => .ok (.value v) w'
def stR (P : Program) (T : TypeId) (a v : Value) (w : World) : Result Next := ((Instr.storeAt T a v).run P w).andThen fun _ w' => .ok .skip w'
theorem exec_load {P : Program} (ev : Operand → Value) (d : Option Tmp) (T t : TypeId) (x : Operand) (p : String) (af : Array Edge) (g : Option (Nat × Bool)) (w : World) :
    (execOp ev ⟨d, .load T x, t, p, af, g⟩).run P w = ldR P T (ev x) w := by
  simp [execOp, ldR]
theorem exec_store {P : Program} (ev : Operand → Value) (d : Option Tmp) (T t : TypeId) (x y : Operand) (p : String) (af : Array Edge) (g : Option (Nat × Bool)) (w : World) :
    (execOp ev ⟨d, .store T x y, t, p, af, g⟩).run P w = stR P T (ev x) (ev y) w := by
  simp [execOp, stR]
theorem ldR_open (P : Program) (T : TypeId) (a : Value) (w : World) : ldR P T a w = ((Instr.loadAt T a).run P w).andThen fun v w' => .ok (.value v) w' := rfl
theorem stR_open (P : Program) (T : TypeId) (a v : Value) (w : World) : stR P T a v w = ((Instr.storeAt T a v).run P w).andThen fun _ w' => .ok .skip w' := rfl

theorem lt_plus_0_2 (n : Nat) : n < n + 1 + 1 := by omega
theorem lt_plus_1_2 (n : Nat) : n + 1 < n + 1 + 1 := by omega
theorem lt_plus_0_3 (n : Nat) : n < n + 1 + 1 + 1 := by omega
theorem lt_plus_1_3 (n : Nat) : n + 1 < n + 1 + 1 + 1 := by omega
theorem lt_plus_2_3 (n : Nat) : n + 1 + 1 < n + 1 + 1 + 1 := by omega
theorem lt_plus_0_4 (n : Nat) : n < n + 1 + 1 + 1 + 1 := by omega
theorem lt_plus_1_4 (n : Nat) : n + 1 < n + 1 + 1 + 1 + 1 := by omega
theorem lt_plus_2_4 (n : Nat) : n + 1 + 1 < n + 1 + 1 + 1 + 1 := by omega
theorem lt_plus_3_4 (n : Nat) : n + 1 + 1 + 1 < n + 1 + 1 + 1 + 1 := by omega
theorem lt_plus_0_5 (n : Nat) : n < n + 1 + 1 + 1 + 1 + 1 := by omega
theorem lt_plus_1_5 (n : Nat) : n + 1 < n + 1 + 1 + 1 + 1 + 1 := by omega
theorem lt_plus_2_5 (n : Nat) : n + 1 + 1 < n + 1 + 1 + 1 + 1 + 1 := by omega
theorem lt_plus_3_5 (n : Nat) : n + 1 + 1 + 1 < n + 1 + 1 + 1 + 1 + 1 := by omega
theorem lt_plus_4_5 (n : Nat) : n + 1 + 1 + 1 + 1 < n + 1 + 1 + 1 + 1 + 1 := by omega
theorem lt_plus_0_6 (n : Nat) : n < n + 1 + 1 + 1 + 1 + 1 + 1 := by omega
theorem lt_plus_1_6 (n : Nat) : n + 1 < n + 1 + 1 + 1 + 1 + 1 + 1 := by omega
theorem lt_plus_2_6 (n : Nat) : n + 1 + 1 < n + 1 + 1 + 1 + 1 + 1 + 1 := by omega
theorem lt_plus_3_6 (n : Nat) : n + 1 + 1 + 1 < n + 1 + 1 + 1 + 1 + 1 + 1 := by omega
theorem lt_plus_4_6 (n : Nat) : n + 1 + 1 + 1 + 1 < n + 1 + 1 + 1 + 1 + 1 + 1 := by omega
theorem lt_plus_5_6 (n : Nat) : n + 1 + 1 + 1 + 1 + 1 < n + 1 + 1 + 1 + 1 + 1 + 1 := by omega
theorem lt_plus_0_7 (n : Nat) : n < n + 1 + 1 + 1 + 1 + 1 + 1 + 1 := by omega
theorem lt_plus_1_7 (n : Nat) : n + 1 < n + 1 + 1 + 1 + 1 + 1 + 1 + 1 := by omega
theorem lt_plus_2_7 (n : Nat) : n + 1 + 1 < n + 1 + 1 + 1 + 1 + 1 + 1 + 1 := by omega
theorem lt_plus_3_7 (n : Nat) : n + 1 + 1 + 1 < n + 1 + 1 + 1 + 1 + 1 + 1 + 1 := by omega
theorem lt_plus_4_7 (n : Nat) : n + 1 + 1 + 1 + 1 < n + 1 + 1 + 1 + 1 + 1 + 1 + 1 := by omega
theorem lt_plus_5_7 (n : Nat) : n + 1 + 1 + 1 + 1 + 1 < n + 1 + 1 + 1 + 1 + 1 + 1 + 1 := by omega
theorem lt_plus_6_7 (n : Nat) : n + 1 + 1 + 1 + 1 + 1 + 1 < n + 1 + 1 + 1 + 1 + 1 + 1 + 1 := by omega
theorem lt_plus_0_8 (n : Nat) : n < n + 1 + 1 + 1 + 1 + 1 + 1 + 1 + 1 := by omega
theorem lt_plus_1_8 (n : Nat) : n + 1 < n + 1 + 1 + 1 + 1 + 1 + 1 + 1 + 1 := by omega
theorem lt_plus_2_8 (n : Nat) : n + 1 + 1 < n + 1 + 1 + 1 + 1 + 1 + 1 + 1 + 1 := by omega
theorem lt_plus_3_8 (n : Nat) : n + 1 + 1 + 1 < n + 1 + 1 + 1 + 1 + 1 + 1 + 1 + 1 := by omega
theorem lt_plus_4_8 (n : Nat) : n + 1 + 1 + 1 + 1 < n + 1 + 1 + 1 + 1 + 1 + 1 + 1 + 1 := by omega
theorem lt_plus_5_8 (n : Nat) : n + 1 + 1 + 1 + 1 + 1 < n + 1 + 1 + 1 + 1 + 1 + 1 + 1 + 1 := by omega
theorem lt_plus_6_8 (n : Nat) : n + 1 + 1 + 1 + 1 + 1 + 1 < n + 1 + 1 + 1 + 1 + 1 + 1 + 1 + 1 := by omega
theorem lt_plus_7_8 (n : Nat) : n + 1 + 1 + 1 + 1 + 1 + 1 + 1 < n + 1 + 1 + 1 + 1 + 1 + 1 + 1 + 1 := by omega
theorem lt_plus_0_9 (n : Nat) : n < n + 1 + 1 + 1 + 1 + 1 + 1 + 1 + 1 + 1 := by omega
theorem lt_plus_1_9 (n : Nat) : n + 1 < n + 1 + 1 + 1 + 1 + 1 + 1 + 1 + 1 + 1 := by omega
theorem lt_plus_2_9 (n : Nat) : n + 1 + 1 < n + 1 + 1 + 1 + 1 + 1 + 1 + 1 + 1 + 1 := by omega
theorem lt_plus_3_9 (n : Nat) : n + 1 + 1 + 1 < n + 1 + 1 + 1 + 1 + 1 + 1 + 1 + 1 + 1 := by omega
theorem lt_plus_4_9 (n : Nat) : n + 1 + 1 + 1 + 1 < n + 1 + 1 + 1 + 1 + 1 + 1 + 1 + 1 + 1 := by omega
theorem lt_plus_5_9 (n : Nat) : n + 1 + 1 + 1 + 1 + 1 < n + 1 + 1 + 1 + 1 + 1 + 1 + 1 + 1 + 1 := by omega
theorem lt_plus_6_9 (n : Nat) : n + 1 + 1 + 1 + 1 + 1 + 1 < n + 1 + 1 + 1 + 1 + 1 + 1 + 1 + 1 + 1 := by omega
theorem lt_plus_7_9 (n : Nat) : n + 1 + 1 + 1 + 1 + 1 + 1 + 1 < n + 1 + 1 + 1 + 1 + 1 + 1 + 1 + 1 + 1 := by omega
theorem lt_plus_8_9 (n : Nat) : n + 1 + 1 + 1 + 1 + 1 + 1 + 1 + 1 < n + 1 + 1 + 1 + 1 + 1 + 1 + 1 + 1 + 1 := by omega
theorem lt_plus_0_10 (n : Nat) : n < n + 1 + 1 + 1 + 1 + 1 + 1 + 1 + 1 + 1 + 1 := by omega
theorem lt_plus_1_10 (n : Nat) : n + 1 < n + 1 + 1 + 1 + 1 + 1 + 1 + 1 + 1 + 1 + 1 := by omega
theorem lt_plus_2_10 (n : Nat) : n + 1 + 1 < n + 1 + 1 + 1 + 1 + 1 + 1 + 1 + 1 + 1 + 1 := by omega
theorem lt_plus_3_10 (n : Nat) : n + 1 + 1 + 1 < n + 1 + 1 + 1 + 1 + 1 + 1 + 1 + 1 + 1 + 1 := by omega
theorem lt_plus_4_10 (n : Nat) : n + 1 + 1 + 1 + 1 < n + 1 + 1 + 1 + 1 + 1 + 1 + 1 + 1 + 1 + 1 := by omega
theorem lt_plus_5_10 (n : Nat) : n + 1 + 1 + 1 + 1 + 1 < n + 1 + 1 + 1 + 1 + 1 + 1 + 1 + 1 + 1 + 1 := by omega
theorem lt_plus_6_10 (n : Nat) : n + 1 + 1 + 1 + 1 + 1 + 1 < n + 1 + 1 + 1 + 1 + 1 + 1 + 1 + 1 + 1 + 1 := by omega
theorem lt_plus_7_10 (n : Nat) : n + 1 + 1 + 1 + 1 + 1 + 1 + 1 < n + 1 + 1 + 1 + 1 + 1 + 1 + 1 + 1 + 1 + 1 := by omega
theorem lt_plus_8_10 (n : Nat) : n + 1 + 1 + 1 + 1 + 1 + 1 + 1 + 1 < n + 1 + 1 + 1 + 1 + 1 + 1 + 1 + 1 + 1 + 1 := by omega
theorem lt_plus_9_10 (n : Nat) : n + 1 + 1 + 1 + 1 + 1 + 1 + 1 + 1 + 1 < n + 1 + 1 + 1 + 1 + 1 + 1 + 1 + 1 + 1 + 1 := by omega
theorem lt_plus_0_11 (n : Nat) : n < n + 1 + 1 + 1 + 1 + 1 + 1 + 1 + 1 + 1 + 1 + 1 := by omega
theorem lt_plus_1_11 (n : Nat) : n + 1 < n + 1 + 1 + 1 + 1 + 1 + 1 + 1 + 1 + 1 + 1 + 1 := by omega
theorem lt_plus_2_11 (n : Nat) : n + 1 + 1 < n + 1 + 1 + 1 + 1 + 1 + 1 + 1 + 1 + 1 + 1 + 1 := by omega
theorem lt_plus_3_11 (n : Nat) : n + 1 + 1 + 1 < n + 1 + 1 + 1 + 1 + 1 + 1 + 1 + 1 + 1 + 1 + 1 := by omega
theorem lt_plus_4_11 (n : Nat) : n + 1 + 1 + 1 + 1 < n + 1 + 1 + 1 + 1 + 1 + 1 + 1 + 1 + 1 + 1 + 1 := by omega
theorem lt_plus_5_11 (n : Nat) : n + 1 + 1 + 1 + 1 + 1 < n + 1 + 1 + 1 + 1 + 1 + 1 + 1 + 1 + 1 + 1 + 1 := by omega
theorem lt_plus_6_11 (n : Nat) : n + 1 + 1 + 1 + 1 + 1 + 1 < n + 1 + 1 + 1 + 1 + 1 + 1 + 1 + 1 + 1 + 1 + 1 := by omega
theorem lt_plus_7_11 (n : Nat) : n + 1 + 1 + 1 + 1 + 1 + 1 + 1 < n + 1 + 1 + 1 + 1 + 1 + 1 + 1 + 1 + 1 + 1 + 1 := by omega
theorem lt_plus_8_11 (n : Nat) : n + 1 + 1 + 1 + 1 + 1 + 1 + 1 + 1 < n + 1 + 1 + 1 + 1 + 1 + 1 + 1 + 1 + 1 + 1 + 1 := by omega
theorem lt_plus_9_11 (n : Nat) : n + 1 + 1 + 1 + 1 + 1 + 1 + 1 + 1 + 1 < n + 1 + 1 + 1 + 1 + 1 + 1 + 1 + 1 + 1 + 1 + 1 := by omega
theorem lt_plus_10_11 (n : Nat) : n + 1 + 1 + 1 + 1 + 1 + 1 + 1 + 1 + 1 + 1 < n + 1 + 1 + 1 + 1 + 1 + 1 + 1 + 1 + 1 + 1 + 1 := by omega
theorem lt_plus_0_12 (n : Nat) : n < n + 1 + 1 + 1 + 1 + 1 + 1 + 1 + 1 + 1 + 1 + 1 + 1 := by omega
theorem lt_plus_1_12 (n : Nat) : n + 1 < n + 1 + 1 + 1 + 1 + 1 + 1 + 1 + 1 + 1 + 1 + 1 + 1 := by omega
theorem lt_plus_2_12 (n : Nat) : n + 1 + 1 < n + 1 + 1 + 1 + 1 + 1 + 1 + 1 + 1 + 1 + 1 + 1 + 1 := by omega
theorem lt_plus_3_12 (n : Nat) : n + 1 + 1 + 1 < n + 1 + 1 + 1 + 1 + 1 + 1 + 1 + 1 + 1 + 1 + 1 + 1 := by omega
theorem lt_plus_4_12 (n : Nat) : n + 1 + 1 + 1 + 1 < n + 1 + 1 + 1 + 1 + 1 + 1 + 1 + 1 + 1 + 1 + 1 + 1 := by omega
theorem lt_plus_5_12 (n : Nat) : n + 1 + 1 + 1 + 1 + 1 < n + 1 + 1 + 1 + 1 + 1 + 1 + 1 + 1 + 1 + 1 + 1 + 1 := by omega
theorem lt_plus_6_12 (n : Nat) : n + 1 + 1 + 1 + 1 + 1 + 1 < n + 1 + 1 + 1 + 1 + 1 + 1 + 1 + 1 + 1 + 1 + 1 + 1 := by omega
theorem lt_plus_7_12 (n : Nat) : n + 1 + 1 + 1 + 1 + 1 + 1 + 1 < n + 1 + 1 + 1 + 1 + 1 + 1 + 1 + 1 + 1 + 1 + 1 + 1 := by omega
theorem lt_plus_8_12 (n : Nat) : n + 1 + 1 + 1 + 1 + 1 + 1 + 1 + 1 < n + 1 + 1 + 1 + 1 + 1 + 1 + 1 + 1 + 1 + 1 + 1 + 1 := by omega
theorem lt_plus_9_12 (n : Nat) : n + 1 + 1 + 1 + 1 + 1 + 1 + 1 + 1 + 1 < n + 1 + 1 + 1 + 1 + 1 + 1 + 1 + 1 + 1 + 1 + 1 + 1 := by omega
theorem lt_plus_10_12 (n : Nat) : n + 1 + 1 + 1 + 1 + 1 + 1 + 1 + 1 + 1 + 1 < n + 1 + 1 + 1 + 1 + 1 + 1 + 1 + 1 + 1 + 1 + 1 + 1 := by omega
theorem lt_plus_11_12 (n : Nat) : n + 1 + 1 + 1 + 1 + 1 + 1 + 1 + 1 + 1 + 1 + 1 < n + 1 + 1 + 1 + 1 + 1 + 1 + 1 + 1 + 1 + 1 + 1 + 1 := by omega
attribute [go_sem] lt_plus_0_2 lt_plus_1_2 lt_plus_0_3 lt_plus_1_3 lt_plus_2_3 lt_plus_0_4 lt_plus_1_4 lt_plus_2_4 lt_plus_3_4 lt_plus_0_5 lt_plus_1_5 lt_plus_2_5 lt_plus_3_5 lt_plus_4_5 lt_plus_0_6 lt_plus_1_6 lt_plus_2_6 lt_plus_3_6 lt_plus_4_6 lt_plus_5_6 lt_plus_0_7 lt_plus_1_7 lt_plus_2_7 lt_plus_3_7 lt_plus_4_7 lt_plus_5_7 lt_plus_6_7 lt_plus_0_8 lt_plus_1_8 lt_plus_2_8 lt_plus_3_8 lt_plus_4_8 lt_plus_5_8 lt_plus_6_8 lt_plus_7_8 lt_plus_0_9 lt_plus_1_9 lt_plus_2_9 lt_plus_3_9 lt_plus_4_9 lt_plus_5_9 lt_plus_6_9 lt_plus_7_9 lt_plus_8_9 lt_plus_0_10 lt_plus_1_10 lt_plus_2_10 lt_plus_3_10 lt_plus_4_10 lt_plus_5_10 lt_plus_6_10 lt_plus_7_10 lt_plus_8_10 lt_plus_9_10 lt_plus_0_11 lt_plus_1_11 lt_plus_2_11 lt_plus_3_11 lt_plus_4_11 lt_plus_5_11 lt_plus_6_11 lt_plus_7_11 lt_plus_8_11 lt_plus_9_11 lt_plus_10_11 lt_plus_0_12 lt_plus_1_12 lt_plus_2_12 lt_plus_3_12 lt_plus_4_12 lt_plus_5_12 lt_plus_6_12 lt_plus_7_12 lt_plus_8_12 lt_plus_9_12 lt_plus_10_12 lt_plus_11_12

attribute [go_sem] over_cell over_frozen over_lt over_ne
end Go.Proofs.YtjkilpjdgjijiaaDoor
