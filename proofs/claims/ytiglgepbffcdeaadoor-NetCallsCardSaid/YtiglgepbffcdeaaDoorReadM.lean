/- Reading a slice of messages. -/
import Derived.Test.YtiglgepbffcdeaaDoorMsgRead
import Derived.Test.YtiglgepbffcdeaaDoorNetS
namespace Go.Proofs.YtiglgepbffcdeaaDoor
open Go.RowKit Go.ChangeShapes Go.WideShapes Go.ChangeAt
set_option linter.unusedVariables false

/-- A message that came in: its bytes can be read. -/
structure InM (w : World) (B : Nat) (x : Mm) : Prop where
  s1 : Sl w B x.A1 (bv x.m.cd)
  s2 : Sl w B x.A2 (bv x.m.va)
  n1 : x.A1 = none → x.c1 = 0
  n2 : x.A2 = none → x.c2 = 0
  k1 : x.m.cd.length ≤ maxLen
  k2 : x.m.va.length ≤ maxLen
theorem InM.below {w w' : World} {B : Nat} {x : Mm} (h : InM w B x) (hb : Below B w w') : InM w' B x := ⟨h.s1.below hb, h.s2.below hb, h.n1, h.n2, h.k1, h.k2⟩
theorem mcells_at : ∀ (l : List Mm) (k : Nat), (mcells l)[k]? = (l[k / 16]?).bind fun x => x.cs[k % 16]?
  | [], k => by simp [mcells]
  | q :: l, k => by
    have e : mcells (q :: l) = q.cs ++ mcells l := by unfold mcells; rw [List.flatMap_cons]
    have hq : q.cs.length = 16 := rfl
    rw [e]
    rcases Nat.lt_or_ge k 16 with hk | hk
    · rw [List.getElem?_append_left (by rw [hq]; exact hk), show k / 16 = 0 by omega, show k % 16 = k by omega]
      rfl
    · rw [List.getElem?_append_right (by rw [hq]; exact hk), hq, mcells_at l (k - 16), show k / 16 = (k - 16) / 16 + 1 by omega, show k % 16 = (k - 16) % 16 by omega]
      rfl
theorem addr_plain {b o j : Nat} : (⟨b, o, none⟩ : Addr).add j = ⟨b, o + j, none⟩ := by unfold Addr.add; split <;> simp_all
instance : Inhabited Mm := ⟨⟨⟨0, 0, 0, false, 0, 0, 0, 0, [], 0, 0, [], 0, 0, 0, 0⟩, none, 0, none, 0⟩⟩

section
variable {H : Type} {enc : TypeId × Value → H} {w : World} {base : Nat} {spare : Nat → Bool} {held : Bool}
set_option maxRecDepth 100000 in
theorem rd_msgs0 {fuel : Nat} {cs : List Value} {x : DataW H × List MemPlace} (h : DataW.trod enc Tryd.prog w base spare held fuel 56 cs = some x) :
    ∃ (A : Option Addr) (c : Nat) (l : List Mm), cs = [.slice A l.length c] ∧ Sl w w.heap.size A (mcells l) ∧ ∀ x ∈ l, InM w w.heap.size x := by
  rcases Go.Deep.open_slice Tryd.underlying56 h with ⟨rfl, -⟩ | ⟨a, len, cap, m, n, D, Pl, rfl, hb, hl, hm, hmm, -, hx⟩
  · exact ⟨none, 0, [], rfl, .inl rfl, by simp⟩
  · have hlm : len ≤ m := by rw [hmm]; split <;> omega
    rw [cells_msg] at hx
    obtain ⟨F, hF⟩ := Go.Deep.choose_lt (α := Mm) (n := m) (p := fun i t => (∀ j, j < 16 → w.cell? ((a.add (i * 16)).add j) = t.cs[j]?) ∧ InM w w.heap.size t) (fun i hi => by
      obtain ⟨cs', h1, h2⟩ := hx i hi
      obtain ⟨_, hlen, hc⟩ := World.cells?_some h1
      obtain ⟨mm, A1, c1, A2, c2, e, k1, k2, s1, s2, -, -, -, n1, n2⟩ := rd_msg_cells hlen h2
      refine ⟨⟨mm, A1, c1, A2, c2⟩, fun j hj => ?_, ⟨s1, s2, n1, n2, k1, k2⟩⟩
      rw [hc j hj, e]
      rfl)
    refine ⟨some a, cap, (List.range len).map F, by simp, ?_, ?_⟩
    · rcases Nat.eq_zero_or_pos len with h0 | h0
      · subst h0; exact .inl rfl
      · obtain ⟨b, o, s⟩ := a
        have h1 : w.cell? (((⟨b, o, s⟩ : Addr).add (0 * 16)).add 0) = some (.int .i64 (F 0).m.fr) := (hF 0 (by omega)).1 0 (by omega)
        have hs : s = none := by
          have := World.cell?_spot h1
          simpa [Addr.add] using this
        subst hs
        refine .inr ⟨b, o, rfl, ?_, ?_⟩
        · have := World.block_lt_of_cell? w _ h1
          simpa [Addr.add] using this
        · intro k u hu
          rw [mcells_at, List.getElem?_map] at hu
          by_cases hk : k / 16 < len
          · rw [List.getElem?_range hk] at hu
            have h2 := (hF (k / 16) (by omega)).1 (k % 16) (Nat.mod_lt _ (by decide))
            rw [addr_plain, addr_plain, show o + k / 16 * 16 + k % 16 = o + k by omega] at h2
            rw [h2]
            exact hu
          · rw [List.getElem?_eq_none (by simp; omega)] at hu
            cases hu
    · intro y hy
      obtain ⟨i, hi, rfl⟩ := List.mem_map.1 hy
      have := List.mem_range.1 hi
      exact (hF i (by omega)).2
set_option maxRecDepth 100000 in
/-- A slice of messages. -/
theorem rd_msgs {v : Value} {d : DataW H} {ps : List MemPlace} {okb : Nat}
    (hv : Value.okWide Tryd.prog w .any okb 56 v) (h : DataW.Trod enc Tryd.prog w base spare held 56 v d ps) :
    ∃ (A : Option Addr) (c : Nat) (l : List Mm), v = .slice A l.length c ∧ Sl w w.heap.size A (mcells l) ∧ ∀ x ∈ l, InM w w.heap.size x := by
  obtain ⟨a, n, c, rfl⟩ := okWide_slice Tryd.underlying56 hv
  obtain ⟨m, hm⟩ := h
  obtain ⟨A, c', l, hcs, h1, h2⟩ := rd_msgs0 hm
  obtain ⟨rfl, rfl, rfl⟩ : a = A ∧ n = l.length ∧ c = c' := by simpa [Value.cells] using hcs
  exact ⟨a, c, l, rfl, h1, h2⟩
end
/-- A message out of a row that came in. -/
theorem ld_msg_sl {W : World} {B b o i : Nat} {ms : List Mm} (h : RowAt W b o (mcells ms)) (hi : i < ms.length) :
    ldR Tryd.prog 34 (.pointer (some ⟨b, o + i * 16, none⟩)) W = .ok (.value ms[i].val) W := by
  have hc : ∀ j, j < 16 → ∃ u, ms[i].cs[j]? = some u ∧ W.cell? ⟨b, o + i * 16 + j, none⟩ = some u := by
    intro j hj
    have hl : j < ms[i].cs.length := hj
    refine ⟨ms[i].cs[j], List.getElem?_eq_getElem hl, ?_⟩
    have := h (i * 16 + j) ms[i].cs[j] (by rw [mcells_get ms i j hi hj]; exact List.getElem?_eq_getElem hl)
    rw [Nat.add_assoc]
    exact this
  have hl := run_load_msg b (o + i * 16) W (fun j hj => by obtain ⟨u, _, h2⟩ := hc j hj; rw [h2]; rfl)
  have hv : ∀ j (hj : j < 16), (W.cell? ⟨b, o + i * 16 + j, none⟩).getD undef = ms[i].cs[j]'hj := by
    intro j hj
    obtain ⟨u, h1, h2⟩ := hc j hj
    rw [h2]
    have : ms[i].cs[j]? = some (ms[i].cs[j]'hj) := List.getElem?_eq_getElem hj
    rw [this] at h1
    exact (Option.some.inj h1).symm
  simp only [ldR, Instr.loadAt, Instr.sureAddr, Sem.run_bind, Sem.run_pure, Result.andThen_ok, hl]
  have h0 := hv 0 (by decide)
  rw [Nat.add_zero] at h0
  rw [h0, hv 1 (by decide), hv 2 (by decide), hv 3 (by decide), hv 4 (by decide), hv 5 (by decide), hv 6 (by decide), hv 7 (by decide), hv 8 (by decide), hv 9 (by decide), hv 10 (by decide), hv 11 (by decide), hv 12 (by decide), hv 13 (by decide), hv 14 (by decide), hv 15 (by decide)]
  rfl
end Go.Proofs.YtiglgepbffcdeaaDoor
