/- A net in memory; net.New, Len, place. -/
import Derived.Test.YtiglgepbffcdeaaDoorNetT
import Derived.Test.YtiglgepbffcdeaaDoorRpcE
import Derived.Test.YtiglgepbffcdeaaDoorRpcEb
namespace Go.Proofs.YtiglgepbffcdeaaDoor
open Go.RowKit
set_option linter.unusedVariables false

/-- A message in memory: its plain parts, and where its bytes lie. -/
structure Mm where
  m : Msg
  A1 : Option Addr
  c1 : Nat
  A2 : Option Addr
  c2 : Nat
abbrev Mm.val (x : Mm) : Value := x.m.val x.A1 x.c1 x.A2 x.c2
def Mm.cs (x : Mm) : List Value :=
  [.int .i64 x.m.fr, .int .i64 x.m.to, .int .i64 x.m.nu, .bool x.m.re, .int .i64 x.m.ki, .int .i64 x.m.ep, .int .i64 x.m.att, .int .i64 x.m.wh, .slice x.A1 x.m.cd.length x.c1,
    .int .i64 x.m.br, .int .i64 x.m.bw, .slice x.A2 x.m.va.length x.c2, .int .i64 x.m.er, .int .i64 x.m.ta, .int .i64 x.m.lo, .int .i64 x.m.ba]
def Mm.own (x : Mm) (w : World) (n0 : Nat) : Prop := OwnM w n0 x.m x.A1 x.c1 x.A2 x.c2
def mcells (ms : List Mm) : List Value := ms.flatMap Mm.cs
theorem mcells_len (ms : List Mm) : (mcells ms).length = ms.length * 16 := by
  unfold mcells
  induction ms with
  | nil => rfl
  | cons x ms ih => rw [List.flatMap_cons, List.length_append, ih, List.length_cons]; show 16 + _ = _; omega
theorem mcells_app (a b : List Mm) : mcells (a ++ b) = mcells a ++ mcells b := by unfold mcells; rw [List.flatMap_append]
theorem mcells_one (x : Mm) : mcells [x] = x.cs := by unfold mcells; simp
theorem mcells_get : ∀ (ms : List Mm) (i j : Nat) (hi : i < ms.length), j < 16 → (mcells ms)[i * 16 + j]? = ms[i].cs[j]?
  | [], i, j, hi, hj => by simp at hi
  | x :: ms, 0, j, hi, hj => by
    unfold mcells
    rw [List.flatMap_cons, List.getElem?_append_left (by show 0 * 16 + j < 16; omega)]
    simp
  | x :: ms, i + 1, j, hi, hj => by
    have ih := mcells_get ms i j (by simpa using hi) hj
    unfold mcells at ih ⊢
    rw [List.flatMap_cons, List.getElem?_append_right (by show 16 ≤ _; omega)]
    have e : (i + 1) * 16 + j - x.cs.length = i * 16 + j := by show _ - 16 = _; omega
    rw [e, ih]
    rfl

/-- What a net's calls may turn. -/
def NM (g : Nat) (v : Value) (k : Nat) : Prop := k = g ∨ v.ownBlock = some k
structure NetS (w : World) (n0 g : Nat) (v : Value) (ms : List Mm) : Prop where
  ge : n0 ≤ g
  blk : w.heap[g]? = some (.cells #[v] 101 (0, 0))
  row : w.ownsRow n0 34 16 v ms.length (mcells ms)
  dat : ∀ x ∈ ms, x.own w n0
  fit : ∀ x ∈ ms, x.m.cd.length ≤ 65536 ∧ x.m.va.length ≤ 1000
  le : ms.length ≤ 4096

theorem own_keep {x : Mm} {w w' : World} {n0 : Nat} (h : x.own w n0) (hb : Below w.heap.size w w') : x.own w' n0 := ⟨owns_keep h.cd hb, owns_keep h.va hb⟩
section
variable {w w' : World} {n0 g : Nat} {v : Value} {ms : List Mm}
theorem NetS.lt (h : NetS w n0 g v ms) : g < w.heap.size := (Array.getElem?_eq_some_iff.1 h.blk).1
theorem NetS.bk (h : NetS w n0 g v ms) : Blk w g #[v] := .of_heap h.blk
theorem NetS.below (h : NetS w n0 g v ms) (hb : Below w.heap.size w w') : NetS w' n0 g v ms :=
  ⟨h.ge, (hb.block g h.lt).trans h.blk, owns_keep h.row hb, fun x hx => own_keep (h.dat x hx) hb, h.fit, h.le⟩
theorem NetS.form (h : NetS w n0 g v ms) : ∃ A c, v = .slice A ms.length c := own_form h.row
theorem NetS.drewN (h : NetS w n0 g v ms) (q : Nat) : NetS (w.drewN q) n0 g v ms := h.below (bdrewN_refl _ _ _)
end

set_option maxHeartbeats 400000 in
theorem net_new (w : World) : Calls Tryd.prog 13 #[] w fun e w' => e = .returned (.pointer (some ⟨w.heap.size, 0, none⟩)) ∧ NetS w' w.heap.size w.heap.size (.slice none 0 0) [] ∧ Below w.heap.size w w' := by
  go_enter Tryd.func13, Tryd.ntmps13
  go_wp2_with fail
  go_ret
  exact ⟨rfl, ⟨Nat.le_refl _, heap_alloc_new w _, World.ownsRow_nil _ _ _ _, by simp, by simp, by simp⟩, (Below.refl _ _).alloc (Nat.le_refl _) _⟩

set_option maxHeartbeats 400000 in
theorem net_len {w : World} {n0 g : Nat} {v : Value} {ms : List Mm} (h : NetS w n0 g v ms) : Calls Tryd.prog 15 #[.pointer (some ⟨g, 0, none⟩)] w fun e w' => e = .returned (.int .i64 (ms.length : Int)) ∧ w' = w := by
  obtain ⟨A, c, rfl⟩ := h.form
  have hc := h.bk.cell 0
  clear h
  go_enter Tryd.func15, Tryd.ntmps15
  go_wp2_with fail
  go_ret
  exact ⟨rfl, rfl⟩

/-- The place of a message, of as many as there are. -/
theorem net_place {w : World} {n0 g : Nat} {v : Value} {ms : List Mm} (h : NetS w n0 g v ms) (hn : ms ≠ []) (z : Int) :
    Calls Tryd.prog 60 #[.pointer (some ⟨g, 0, none⟩), .int .i64 z] w fun e w' => (∃ i : Nat, i < ms.length ∧ (i : Int) = z % (ms.length : Int) ∧ e = .returned (.int .i64 (i : Int))) ∧ w' = w := by
  obtain ⟨A, c, rfl⟩ := h.form
  have hc := h.bk.cell 0
  have hle := h.le
  obtain ⟨n, hN⟩ : ∃ n, ms.length = n := ⟨_, rfl⟩
  have hn0 : 0 < n := by rw [← hN]; exact List.length_pos_iff.2 hn
  rw [hN] at hc hle ⊢
  have hnz : ¬ (n = 0) := by omega
  obtain ⟨r, hr⟩ : ∃ r, z.tmod (n : Int) = r := ⟨_, rfl⟩
  have hb : -(n : Int) < r ∧ r < n := by
    have h1 := Int.tmod_lt_of_pos z (show (0 : Int) < n by omega)
    have h2 := Int.tmod_lt_of_pos (-z) (show (0 : Int) < n by omega)
    rw [Int.neg_tmod] at h2
    rw [hr] at h1 h2
    exact ⟨by omega, h1⟩
  have he : z % (n : Int) = if r < 0 then r + n else r := by
    have h3 : z = r + (n : Int) * z.tdiv n := by rw [← hr]; exact (Int.tmod_add_mul_tdiv z n).symm
    rw [h3, Int.add_mul_emod_self_left]
    split
    · rw [← Int.add_emod_right r n]; exact Int.emod_eq_of_lt (by omega) (by omega)
    · exact Int.emod_eq_of_lt (by omega) hb.2
  have HB := Lib.hid hb
  have HE := Lib.hid he
  have hn4 : ¬ ((4096 : Int) < (n : Int)) := by omega
  have hlo : ¬ (r < -4096) := by omega
  have hhi : ¬ (4096 < r) := by omega
  clear h hn hN hn0 hb he
  by_cases hr0 : r < 0
  · go_enter Tryd.func60, Tryd.ntmps60
    go_wp2_with fail
    go_ret
    have h1 := HB.out
    refine ⟨⟨(r + n).toNat, by omega, ?_, ?_⟩, rfl⟩
    · rw [HE.out, if_pos hr0]; omega
    · exact ret_int (by omega)
  · go_enter Tryd.func60, Tryd.ntmps60
    go_wp2_with fail
    go_ret
    have h1 := HB.out
    refine ⟨⟨r.toNat, by omega, ?_, ?_⟩, rfl⟩
    · rw [HE.out, if_neg (by omega)]; omega
    · exact ret_int (by omega)
end Go.Proofs.YtiglgepbffcdeaaDoor
