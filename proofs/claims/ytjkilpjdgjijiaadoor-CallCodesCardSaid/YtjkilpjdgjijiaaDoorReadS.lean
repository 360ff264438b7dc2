/- Reading texts. -/
import Derived.Test.YtjkilpjdgjijiaaDoorRead
namespace Go.Proofs.YtjkilpjdgjijiaaDoor
open Go.RowKit Go.ChangeShapes Go.WideShapes Go.ChangeAt
set_option linter.unusedVariables false

section
variable {H : Type} {enc : TypeId × Value → H} {P : Program} {w : World} {base : Nat} {spare : Nat → Bool} {held : Bool}

theorem strs_of : ∀ (vs : List Value), (∀ (i : Nat) (v : Value), vs[i]? = some v → ∃ s : ByteArray, v = .string s ∧ s.size ≤ maxLen) → ∃ zs : List ByteArray, vs = zs.map Value.string ∧ ∀ z ∈ zs, z.size ≤ maxLen
  | [], _ => ⟨[], rfl, by simp⟩
  | v :: vs, h => by
    obtain ⟨s, hs, hl⟩ := h 0 v rfl
    obtain ⟨zs, hz, hzs⟩ := strs_of vs (fun i u hu => h (i + 1) u (by simpa using hu))
    exact ⟨s :: zs, by simp [hs, hz], by intro z hm; rcases List.mem_cons.1 hm with rfl | hm; exact hl; exact hzs z hm⟩

/-- A slice of texts. -/
theorem rd_strs {t e : TypeId} {v : Value} {d : DataW H} {ps : List MemPlace} {okb : Nat} (ht : P.underlying t = some (.slice e)) (he : P.underlying e = some .string) (hc : P.cellsOf e = 1)
    (hv : Value.okWide P w .any okb t v) (h : DataW.Trod enc P w base spare held t v d ps) :
    ∃ (A : Option Addr) (c : Nat) (zs : List ByteArray), v = .slice A zs.length c ∧ zs.length ≤ c ∧ c ≤ maxLen ∧ Sl w w.heap.size A (zs.map Value.string) ∧ ∀ z ∈ zs, z.size ≤ maxLen := by
  obtain ⟨a, n, c, rfl⟩ := okWide_slice ht hv
  obtain ⟨m, hm⟩ := h
  obtain ⟨A, n', c', vs, hcs, hn, h1, h2, h3, h4⟩ := rd_slice1 ht hc hm
  obtain ⟨zs, rfl, hz⟩ := strs_of vs (fun i v hv => by
    obtain ⟨m, y, hy⟩ := h4 i v hv
    obtain ⟨s, hs, hr⟩ := DataW.trod_string he hy
    exact ⟨s, by simpa using hs, hr.2⟩)
  rw [List.length_map] at hn
  subst hn
  obtain ⟨rfl, rfl, rfl⟩ : a = A ∧ n = zs.length ∧ c = c' := by simpa [Value.cells] using hcs
  exact ⟨a, c, zs, rfl, h1, h2, h3, hz⟩
end
end Go.Proofs.YtjkilpjdgjijiaaDoor
