/- Reading a slice of things. -/
import Derived.Test.YtbmodlhnkbohhaaReadN
import Derived.Test.YtbmodlhnkbohhaaOspeak
namespace Go.Proofs.Ytbmodlhnkbohhaa
open Go.RowKit Go.ChangeShapes Go.WideShapes Go.ChangeAt
set_option linter.unusedVariables false

theorem cells_int1 : Try.prog.cellsOf 3 = 1 := by kernel_rfl
theorem cells_u64 : Try.prog.cellsOf 63 = 1 := by kernel_rfl
theorem cells_bs : Try.prog.cellsOf 23 = 1 := by kernel_rfl
theorem cells_thing : Try.prog.cellsOf 65 = 4 := by kernel_rfl
theorem list4 {l : List Value} (h : l.length = 4) : ∃ a b c d, l = [a, b, c, d] := by
  match l, h with
  | [a, b, c, d], _ => exact ⟨a, b, c, d, rfl⟩

section
variable {H : Type} {enc : TypeId × Value → H} {w : World} {base : Nat} {spare : Nat → Bool} {held : Bool}
set_option maxRecDepth 100000 in
theorem rd_thing {fuel : Nat} {cs : List Value} {x : DataW H × List MemPlace} (hl : cs.length = 4) (h : DataW.trod enc Try.prog w base spare held fuel 65 cs = some x) : ∃ t : Th, cs = t.cells := by
  obtain ⟨x0, x1, x2, x3, rfl⟩ := list4 hl
  obtain ⟨n0, y0, t0⟩ := rd_fieldAt Try.underlying65 h 0 3 0 1 rfl cells_int1
  obtain ⟨z0, e0, -, w0⟩ := DataW.trod_int Try.underlying3 t0
  obtain ⟨n1, y1, t1⟩ := rd_fieldAt Try.underlying65 h 1 3 1 1 rfl cells_int1
  obtain ⟨z1, e1, -, w1⟩ := DataW.trod_int Try.underlying3 t1
  obtain ⟨n2, y2, t2⟩ := rd_fieldAt Try.underlying65 h 2 63 2 1 rfl cells_u64
  obtain ⟨z2, e2, -, w2⟩ := DataW.trod_int Try.underlying63 t2
  obtain ⟨n3, y3, t3⟩ := rd_fieldAt Try.underlying65 h 3 23 3 1 rfl cells_bs
  obtain ⟨A, c, l, e3, -⟩ := rd_bytes2 Try.underlying23 Try.underlying5 (by kernel_rfl) t3
  simp at e0 e1 e2 e3
  exact ⟨⟨z0, z1, z2, A, c, l.length⟩, by simp [Th.cells, e0, e1, e2, e3]⟩

instance : Inhabited Th := ⟨⟨0, 0, 0, none, 0, 0⟩⟩
theorem thcells_get : ∀ (l : List Th) (k : Nat), (thcells l)[k]? = (l[k / 4]?).bind fun x => x.cells[k % 4]?
  | [], k => by simp [thcells]
  | q :: l, k => by
    have e : thcells (q :: l) = q.cells ++ thcells l := rfl
    have hq : q.cells.length = 4 := rfl
    rw [e]
    rcases Nat.lt_or_ge k 4 with hk | hk
    · rw [List.getElem?_append_left (by rw [hq]; exact hk), show k / 4 = 0 by omega, show k % 4 = k by omega]
      rfl
    · rw [List.getElem?_append_right (by rw [hq]; exact hk), hq, thcells_get l (k - 4), show k / 4 = (k - 4) / 4 + 1 by omega, show k % 4 = (k - 4) % 4 by omega]
      rfl
theorem add_plain {b o j : Nat} : (⟨b, o, none⟩ : Addr).add j = ⟨b, o + j, none⟩ := by unfold Addr.add; split <;> simp_all

set_option maxRecDepth 100000 in
theorem rd_things {fuel : Nat} {cs : List Value} {x : DataW H × List MemPlace} (h : DataW.trod enc Try.prog w base spare held fuel 58 cs = some x) :
    ∃ (A : Option Addr) (c : Nat) (l : List Th), cs = [.slice A l.length c] ∧ Ths w w.heap.size A l := by
  rcases Go.Deep.open_slice Try.underlying58 h with ⟨rfl, -⟩ | ⟨a, len, cap, m, n, D, Pl, rfl, hb, hl, hm, hmm, -, hx⟩
  · exact ⟨none, 0, [], rfl, .inl rfl⟩
  · have hlm : len ≤ m := by rw [hmm]; split <;> omega
    rw [cells_thing] at hx
    obtain ⟨F, hF⟩ := Go.Deep.choose_lt (α := Th) (n := m) (p := fun i t => ∀ j, j < 4 → w.cell? ((a.add (i * 4)).add j) = t.cells[j]?) (fun i hi => by
      obtain ⟨cs', h1, h2⟩ := hx i hi
      obtain ⟨_, hlen, hc⟩ := World.cells?_some h1
      obtain ⟨t, rfl⟩ := rd_thing hlen h2
      exact ⟨t, hc⟩)
    refine ⟨some a, cap, (List.range len).map F, by simp, ?_⟩
    rcases Nat.eq_zero_or_pos len with h0 | h0
    · subst h0; exact .inl rfl
    · obtain ⟨b, o, s⟩ := a
      have h1 : w.cell? (((⟨b, o, s⟩ : Addr).add (0 * 4)).add 0) = some (.int .i64 (F 0).k) := hF 0 (by omega) 0 (by omega)
      have hs : s = none := by
        have := World.cell?_spot h1
        simpa [Addr.add] using this
      subst hs
      refine .inr ⟨b, o, rfl, ?_, ?_⟩
      · have := World.block_lt_of_cell? w _ h1
        simpa [Addr.add] using this
      · intro k u hu
        rw [thcells_get, List.getElem?_map] at hu
        by_cases hk : k / 4 < len
        · rw [List.getElem?_range hk] at hu
          have h2 := hF (k / 4) (by omega) (k % 4) (Nat.mod_lt _ (by decide))
          rw [add_plain, add_plain, show o + k / 4 * 4 + k % 4 = o + k by omega] at h2
          rw [h2]
          exact hu
        · rw [List.getElem?_eq_none (by simp; omega)] at hu
          cases hu
end
end Go.Proofs.Ytbmodlhnkbohhaa
