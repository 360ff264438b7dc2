/- Calls to a device: a slice of them in memory, and how it is read. -/
import Derived.Test.YtbmodlhnkbohhaaReadL
import Derived.Test.YtbmodlhnkbohhaaSList
namespace Go.Proofs.Ytbmodlhnkbohhaa
open Go.RowKit Go.ChangeShapes Go.WideShapes Go.ChangeAt
set_option linter.unusedVariables false

/-- A call: what, and its bytes. -/
structure Cl where
  k : Int
  p : Pg
abbrev Cl.cells (x : Cl) : List Value := [.int .i64 x.k, .slice x.p.A x.p.l.length x.p.c]
def clcells (l : List Cl) : List Value := l.flatMap Cl.cells
instance : Inhabited Cl := ⟨⟨0, ⟨0, none, 0, []⟩⟩⟩
theorem clcells_get : ∀ (l : List Cl) (k : Nat), (clcells l)[k]? = (l[k / 2]?).bind fun x => x.cells[k % 2]?
  | [], k => by simp [clcells]
  | q :: l, k => by
    have e : clcells (q :: l) = q.cells ++ clcells l := rfl
    have hq : q.cells.length = 2 := rfl
    rw [e]
    rcases Nat.lt_or_ge k 2 with hk | hk
    · rw [List.getElem?_append_left (by rw [hq]; exact hk), show k / 2 = 0 by omega, show k % 2 = k by omega]
      rfl
    · rw [List.getElem?_append_right (by rw [hq]; exact hk), hq, clcells_get l (k - 2), show k / 2 = (k - 2) / 2 + 1 by omega, show k % 2 = (k - 2) % 2 by omega]
      rfl
theorem clcells_at (l : List Cl) (k : Nat) (h : k < l.length) : (clcells l)[k * 2]? = some (.int .i64 l[k].k) ∧ (clcells l)[k * 2 + 1]? = some (.slice l[k].p.A l[k].p.l.length l[k].p.c) := by
  refine ⟨?_, ?_⟩
  · rw [clcells_get, show k * 2 / 2 = k by omega, show k * 2 % 2 = 0 by omega, List.getElem?_eq_getElem h]; rfl
  · rw [clcells_get, show (k * 2 + 1) / 2 = k by omega, show (k * 2 + 1) % 2 = 1 by omega, List.getElem?_eq_getElem h]; rfl
/-- A slice of calls, in blocks below B. -/
def Cls (w : World) (B : Nat) (A : Option Addr) (l : List Cl) : Prop :=
  l = [] ∨ ∃ b o, A = some ⟨b, o, none⟩ ∧ b < B ∧ ∀ k u, (clcells l)[k]? = some u → w.cell? ⟨b, o + k, none⟩ = some u
theorem Cls.below {w w' : World} {B : Nat} {A : Option Addr} {l : List Cl} (h : Cls w B A l) (hb : Below B w w') : Cls w' B A l := by
  rcases h with h | ⟨b, o, e, hbB, hk⟩
  · exact .inl h
  · exact .inr ⟨b, o, e, hbB, fun k u hu => (hb.cell (p := ⟨b, o + k, none⟩) hbB).trans (hk k u hu)⟩
theorem Cls.at {w : World} {B : Nat} {A : Option Addr} {l : List Cl} (h : Cls w B A l) {k : Nat} (hk : k < l.length) : ∃ b o, A = some ⟨b, o, none⟩ ∧ b < B ∧ w.cell? ⟨b, o + k * 2, none⟩ = some (.int .i64 l[k].k) ∧ w.cell? ⟨b, o + k * 2 + 1, none⟩ = some (.slice l[k].p.A l[k].p.l.length l[k].p.c) := by
  rcases h with h | ⟨b, o, e, hb, hr⟩
  · rw [h] at hk; simp at hk
  · obtain ⟨h1, h2⟩ := clcells_at l k hk
    exact ⟨b, o, e, hb, hr _ _ h1, by rw [Nat.add_assoc]; exact hr _ _ h2⟩

theorem cl_cells_int : Try.prog.cellsOf 3 = 1 := by kernel_rfl
theorem cl_cells_bs : Try.prog.cellsOf 23 = 1 := by kernel_rfl
theorem cl_cells : Try.prog.cellsOf 41 = 2 := by kernel_rfl
theorem list2 {l : List Value} (h : l.length = 2) : ∃ a b, l = [a, b] := by
  match l, h with
  | [a, b], _ => exact ⟨a, b, rfl⟩

section
variable {H : Type} {enc : TypeId × Value → H} {w : World} {base : Nat} {spare : Nat → Bool} {held : Bool}
set_option maxRecDepth 100000 in
theorem rd_cl {fuel : Nat} {cs : List Value} {x : DataW H × List MemPlace} (hl : cs.length = 2) (h : DataW.trod enc Try.prog w base spare held fuel 41 cs = some x) : ∃ t : Cl, cs = t.cells ∧ PB0 w t.p := by
  obtain ⟨x0, x1, rfl⟩ := list2 hl
  obtain ⟨n0, y0, t0⟩ := rd_fieldAt Try.underlying41 h 0 3 0 1 rfl cl_cells_int
  obtain ⟨z0, e0, -, w0⟩ := DataW.trod_int Try.underlying3 t0
  obtain ⟨n1, y1, t1⟩ := rd_fieldAt Try.underlying41 h 1 23 1 1 rfl cl_cells_bs
  obtain ⟨A, c, l, e1, hl1, hl2, hs, hz⟩ := rd_bytes2 Try.underlying23 Try.underlying5 (by kernel_rfl) t1
  simp at e0 e1
  exact ⟨⟨z0, ⟨1, A, c, l⟩⟩, by simp [Cl.cells, e0, e1], hs, hz, Nat.le_trans hl1 hl2⟩

theorem addr_plain {b o j : Nat} : (⟨b, o, none⟩ : Addr).add j = ⟨b, o + j, none⟩ := by unfold Addr.add; split <;> simp_all

set_option maxRecDepth 100000 in
theorem rd_cls {fuel : Nat} {cs : List Value} {x : DataW H × List MemPlace} (h : DataW.trod enc Try.prog w base spare held fuel 37 cs = some x) :
    ∃ (A : Option Addr) (c : Nat) (l : List Cl), cs = [.slice A l.length c] ∧ Cls w w.heap.size A l ∧ ∀ x ∈ l, PB0 w x.p := by
  rcases Go.Deep.open_slice Try.underlying37 h with ⟨rfl, -⟩ | ⟨a, len, cap, m, n, D, Pl, rfl, hb, hl, hm, hmm, -, hx⟩
  · exact ⟨none, 0, [], rfl, .inl rfl, by simp⟩
  · have hlm : len ≤ m := by rw [hmm]; split <;> omega
    rw [cl_cells] at hx
    obtain ⟨F, hF⟩ := Go.Deep.choose_lt (α := Cl) (n := m) (p := fun i t => (∀ j, j < 2 → w.cell? ((a.add (i * 2)).add j) = t.cells[j]?) ∧ PB0 w t.p) (fun i hi => by
      obtain ⟨cs', h1, h2⟩ := hx i hi
      obtain ⟨_, hlen, hc⟩ := World.cells?_some h1
      obtain ⟨t, rfl, hp⟩ := rd_cl hlen h2
      exact ⟨t, hc, hp⟩)
    refine ⟨some a, cap, (List.range len).map F, by simp, ?_, ?_⟩
    · rcases Nat.eq_zero_or_pos len with h0 | h0
      · subst h0; exact .inl rfl
      · obtain ⟨b, o, s⟩ := a
        have h1 : w.cell? (((⟨b, o, s⟩ : Addr).add (0 * 2)).add 0) = some (.int .i64 (F 0).k) := (hF 0 (by omega)).1 0 (by omega)
        have hs : s = none := by
          have := World.cell?_spot h1
          simpa [Addr.add] using this
        subst hs
        refine .inr ⟨b, o, rfl, ?_, ?_⟩
        · have := World.block_lt_of_cell? w _ h1
          simpa [Addr.add] using this
        · intro k u hu
          rw [clcells_get, List.getElem?_map] at hu
          by_cases hk : k / 2 < len
          · rw [List.getElem?_range hk] at hu
            have h2 := (hF (k / 2) (by omega)).1 (k % 2) (Nat.mod_lt _ (by decide))
            rw [addr_plain, addr_plain, show o + k / 2 * 2 + k % 2 = o + k by omega] at h2
            rw [h2]
            exact hu
          · rw [List.getElem?_eq_none (by simp; omega)] at hu
            cases hu
    · intro x hx'
      obtain ⟨i, hi, rfl⟩ := List.mem_map.1 hx'
      exact (hF i (by have := List.mem_range.1 hi; omega)).2
end
end Go.Proofs.Ytbmodlhnkbohhaa
