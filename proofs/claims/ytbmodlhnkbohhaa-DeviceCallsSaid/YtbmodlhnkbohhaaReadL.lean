/- From the reading of an argument to words for memory: bytes that may be nil, lists of bytes, calls to a device. -/
import Derived.Test.YtbmodlhnkbohhaaRead
import Derived.Test.YtbmodlhnkbohhaaPagesAll
namespace Go.Proofs.Ytbmodlhnkbohhaa
open Go.RowKit Go.ChangeShapes Go.WideShapes Go.ChangeAt
set_option linter.unusedVariables false

section
variable {H : Type} {enc : TypeId × Value → H} {P : Program} {w : World} {base : Nat} {spare : Nat → Bool} {held : Bool}

theorem rd_nil {t e : TypeId} {fuel : Nat} {A : Option Addr} {n c : Nat} {x : DataW H × List MemPlace} (ht : P.underlying t = some (.slice e)) (h : DataW.trod enc P w base spare held fuel t [.slice A n c] = some x) : A = none → c = 0 ∧ n = 0 := by
  rintro rfl
  rcases Go.Deep.open_slice ht h with ⟨e', -⟩ | ⟨a, len, cap, m, n', D, Pl, e', -⟩
  · simp at e'; exact ⟨e'.2, e'.1⟩
  · simp at e'

/-- Bytes, nil or not. -/
theorem rd_bytes2 {t e : TypeId} {fuel : Nat} {cs : List Value} {x : DataW H × List MemPlace} (ht : P.underlying t = some (.slice e)) (he : P.underlying e = some (.int .u8)) (hc : P.cellsOf e = 1)
    (h : DataW.trod enc P w base spare held fuel t cs = some x) :
    ∃ (A : Option Addr) (c : Nat) (l : List UInt8), cs = [.slice A l.length c] ∧ l.length ≤ c ∧ c ≤ maxLen ∧ Sl w w.heap.size A (bv l) ∧ (A = none → c = 0) := by
  obtain ⟨A, c, l, rfl, h1, h2, h3⟩ := rd_bytes ht he hc h
  exact ⟨A, c, l, rfl, h1, h2, h3, fun e => (rd_nil ht h e).1⟩

/-- One of the byte slices of a list. -/
abbrev PB0 (w : World) (p : Pg) : Prop := Sl w w.heap.size p.A (bv p.l) ∧ (p.A = none → p.c = 0) ∧ p.l.length ≤ maxLen
theorem sls_of : ∀ (vs : List Value), (∀ (i : Nat) (v : Value), vs[i]? = some v → ∃ p : Pg, v = p.sl ∧ PB0 w p) → ∃ qs : List Pg, vs = qs.map Pg.sl ∧ ∀ q ∈ qs, PB0 w q
  | [], _ => ⟨[], rfl, by simp⟩
  | v :: vs, h => by
    obtain ⟨p, hp, hb⟩ := h 0 v rfl
    obtain ⟨qs, hq, hqs⟩ := sls_of vs (fun i u hu => h (i + 1) u (by simpa using hu))
    exact ⟨p :: qs, by simp [hp, hq], by intro q hm; rcases List.mem_cons.1 hm with rfl | hm; exact hb; exact hqs q hm⟩

/-- A list of bytes. -/
theorem rd_lists {t e u : TypeId} {fuel : Nat} {cs : List Value} {x : DataW H × List MemPlace} (ht : P.underlying t = some (.slice e)) (hc : P.cellsOf e = 1) (he : P.underlying e = some (.slice u)) (hu : P.underlying u = some (.int .u8)) (hcu : P.cellsOf u = 1)
    (h : DataW.trod enc P w base spare held fuel t cs = some x) :
    ∃ (A : Option Addr) (c : Nat) (qs : List Pg), cs = [.slice A qs.length c] ∧ qs.length ≤ c ∧ c ≤ maxLen ∧ Sl w w.heap.size A (qs.map Pg.sl) ∧ (A = none → c = 0) ∧ ∀ q ∈ qs, PB0 w q := by
  obtain ⟨A, n, c, vs, rfl, hn, h1, h2, h3, h4⟩ := rd_slice1 ht hc h
  obtain ⟨qs, rfl, hq⟩ := sls_of (w := w) vs (fun i v hv => by
    obtain ⟨m, y, hm⟩ := h4 i v hv
    obtain ⟨A', c', l, e', hl1, hl2, hs, hz⟩ := rd_bytes2 he hu hcu hm
    exact ⟨⟨1, A', c', l⟩, by simpa using e', hs, hz, Nat.le_trans hl1 hl2⟩)
  rw [List.length_map] at hn
  subst hn
  exact ⟨A, c, qs, rfl, h1, h2, h3, fun e' => (rd_nil ht h e').1, hq⟩
end
end Go.Proofs.Ytbmodlhnkbohhaa
