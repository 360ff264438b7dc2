/- From the reading of an argument to words for memory: bytes, slices of cells, fields of a struct. -/
import Derived.Test.YtjkilpjdgjijiaaDoorBase
import Derived.ProofKit
import Derived.OpenShut
import Derived.ShutString
import Derived.ChangeOld
import Derived.Deep.Slices
import Derived.JoinedCond
namespace Go.Proofs.YtjkilpjdgjijiaaDoor
open Go.RowKit Go.ChangeShapes Go.WideShapes Go.ChangeAt
set_option linter.unusedVariables false

section
variable {H : Type} {enc : TypeId × Value → H} {P : Program} {w : World} {base : Nat} {spare : Nat → Bool} {held : Bool}

/-- A slice whose elements are one cell each. -/
theorem rd_slice1 {t e : TypeId} {fuel : Nat} {cs : List Value} {x : DataW H × List MemPlace} (ht : P.underlying t = some (.slice e)) (hc : P.cellsOf e = 1) (h : DataW.trod enc P w base spare held fuel t cs = some x) :
    ∃ (A : Option Addr) (n c : Nat) (vs : List Value), cs = [.slice A n c] ∧ vs.length = n ∧ n ≤ c ∧ c ≤ maxLen ∧ Sl w w.heap.size A vs ∧ ∀ (i : Nat) (v : Value), vs[i]? = some v → ∃ m y, DataW.trod enc P w base spare held m e [v] = some y := by
  rcases Go.Deep.open_slice1 ht hc h with ⟨rfl, -⟩ | ⟨a, len, cap, m, n, V, D, Pl, rfl, hb, hl, hm, hmm, -, hx⟩
  · exact ⟨none, 0, 0, [], rfl, rfl, Nat.le_refl _, Nat.zero_le _, Sl.nil, fun i v hv => by simp at hv⟩
  · have hlm : len ≤ m := by rw [hmm]; split <;> omega
    refine ⟨some a, len, cap, (List.range len).map V, rfl, by simp, hl, hm, ?_, ?_⟩
    · rcases Nat.eq_zero_or_pos len with h0 | h0
      · subst h0; exact .inl rfl
      · obtain ⟨b, o, s⟩ := a
        have h1 := (hx 0 (by omega)).1
        have hs : s = none := by
          have := World.cell?_spot h1
          simpa [Addr.add] using this
        subst hs
        refine .inr ⟨b, o, rfl, ?_, ?_⟩
        · have := World.block_lt_of_cell? w _ h1
          simpa [Addr.add] using this
        · intro k v hv
          rw [List.getElem?_map] at hv
          by_cases hk : k < len
          · rw [List.getElem?_range hk] at hv
            have e1 : V k = v := by simpa using hv
            have h2 := (hx k (by omega)).1
            rw [e1] at h2
            have hadd : (⟨b, o, none⟩ : Addr).add k = ⟨b, o + k, none⟩ := by unfold Addr.add; split <;> simp_all
            rwa [hadd] at h2
          · rw [List.getElem?_eq_none (by simp; omega)] at hv
            cases hv
    · intro i v hv
      rw [List.getElem?_map] at hv
      by_cases hk : i < len
      · rw [List.getElem?_range hk] at hv
        have e1 : V i = v := by simpa using hv
        have h2 := (hx i (by omega)).2
        rw [e1] at h2
        exact ⟨_, _, h2⟩
      · rw [List.getElem?_eq_none (by simp; omega)] at hv
        cases hv

theorem byte_of {n : Int} (h : (Lit.int .u8 n).wf = true) : ∃ b : UInt8, n = (b.toNat : Int) := by
  have hx : 0 ≤ n ∧ n ≤ 255 := by simpa [Lit.wf, IntKind.min, IntKind.max, IntKind.signed, IntKind.bits] using h
  refine ⟨UInt8.ofNat n.toNat, ?_⟩
  simp only [UInt8.toNat_ofNat']
  omega

theorem bytes_of : ∀ (vs : List Value), (∀ (i : Nat) (v : Value), vs[i]? = some v → ∃ b : UInt8, v = .int .u8 (b.toNat : Int)) → ∃ l : List UInt8, vs = bv l
  | [], _ => ⟨[], rfl⟩
  | v :: vs, h => by
    obtain ⟨b, hb⟩ := h 0 v rfl
    obtain ⟨l, hl⟩ := bytes_of vs (fun i u hu => h (i + 1) u (by simpa using hu))
    exact ⟨b :: l, by rw [hb, hl]; rfl⟩

/-- Bytes. -/
theorem rd_bytes {t e : TypeId} {fuel : Nat} {cs : List Value} {x : DataW H × List MemPlace} (ht : P.underlying t = some (.slice e)) (he : P.underlying e = some (.int .u8)) (hc : P.cellsOf e = 1)
    (h : DataW.trod enc P w base spare held fuel t cs = some x) :
    ∃ (A : Option Addr) (c : Nat) (l : List UInt8), cs = [.slice A l.length c] ∧ l.length ≤ c ∧ c ≤ maxLen ∧ Sl w w.heap.size A (bv l) := by
  obtain ⟨A, n, c, vs, rfl, hn, h1, h2, h3, h4⟩ := rd_slice1 ht hc h
  obtain ⟨l, rfl⟩ := bytes_of vs (fun i v hv => by
    obtain ⟨m, y, hy⟩ := h4 i v hv
    obtain ⟨k, hk, -, hw⟩ := DataW.trod_int he hy
    obtain ⟨b, rfl⟩ := byte_of hw
    exact ⟨b, by simpa using hk⟩)
  rw [bv_len] at hn
  subst hn
  exact ⟨A, c, l, rfl, h1, h2, h3⟩

/-- A struct's field. -/
theorem rd_field {t : TypeId} {fs : Array Field} {fuel : Nat} {cs : List Value} {x : DataW H × List MemPlace} (ht : P.underlying t = some (.struct fs)) (h : DataW.trod enc P w base spare held fuel t cs = some x)
    (i : Nat) (f : Field) (hf : fs[i]? = some f) : ∃ n y, DataW.trod enc P w base spare held n f.type ((cs.drop f.offset).take (P.cellsOf f.type)) = some y := by
  obtain ⟨xs, n, -, -, -, hl, hx⟩ := DataW.trod_struct ht h
  have hi : i < fs.size := (Array.getElem?_eq_some_iff.1 hf).1
  have := hx i f hf
  rw [List.getElem?_eq_getElem (by omega)] at this
  exact ⟨n, _, this⟩

/-- A struct's field, by its type, its place, and how many cells it has. -/
theorem rd_fieldAt {t : TypeId} {fs : Array Field} {fuel : Nat} {cs : List Value} {x : DataW H × List MemPlace} (ht : P.underlying t = some (.struct fs)) (h : DataW.trod enc P w base spare held fuel t cs = some x)
    (i ty off k : Nat) (hf : (fs[i]?).map (fun f => (f.type, f.offset)) = some (ty, off)) (hk : P.cellsOf ty = k) : ∃ n y, DataW.trod enc P w base spare held n ty ((cs.drop off).take k) = some y := by
  cases hq : fs[i]? with
  | none => rw [hq] at hf; simp at hf
  | some f =>
    rw [hq] at hf
    simp only [Option.map_some, Option.some.injEq, Prod.mk.injEq] at hf
    obtain ⟨rfl, rfl⟩ := hf
    subst hk
    exact rd_field ht h i f hq

theorem list16 {l : List Value} (h : l.length = 16) : ∃ x0 x1 x2 x3 x4 x5 x6 x7 x8 x9 x10 x11 x12 x13 x14 x15, l = [x0, x1, x2, x3, x4, x5, x6, x7, x8, x9, x10, x11, x12, x13, x14, x15] := by
  match l, h with
  | [x0, x1, x2, x3, x4, x5, x6, x7, x8, x9, x10, x11, x12, x13, x14, x15], _ => exact ⟨_, _, _, _, _, _, _, _, _, _, _, _, _, _, _, _, rfl⟩
end
end Go.Proofs.YtjkilpjdgjijiaaDoor

namespace Go.Proofs.YtjkilpjdgjijiaaDoor
open Go.RowKit Go.ChangeShapes Go.WideShapes Go.ChangeAt
set_option linter.unusedVariables false

section
variable {H : Type} {enc : TypeId × Value → H} {P : Program} {w : World} {base : Nat} {spare : Nat → Bool} {held : Bool}

theorem rd_nil {t e : TypeId} {fuel : Nat} {A : Option Addr} {n c : Nat} {x : DataW H × List MemPlace} (ht : P.underlying t = some (.slice e)) (h : DataW.trod enc P w base spare held fuel t [.slice A n c] = some x) : A = none → c = 0 ∧ n = 0 := by
  rintro rfl
  rcases Go.Deep.open_slice ht h with ⟨e', -⟩ | ⟨a, len, cap, m, n', D, Pl, e', -⟩
  · simp at e'; exact ⟨e'.2, e'.1⟩
  · simp at e'

/-- Bytes, nil or not. -/
theorem rd_bytes2 {t e : TypeId} {fuel : Nat} {cs : List Value} {x : DataW H × List MemPlace} (ht : P.underlying t = some (.slice e)) (he : P.underlying e = some (.int .u8)) (hc : P.cellsOf e = 1)
    (h : DataW.trod enc P w base spare held fuel t cs = some x) :
    ∃ (A : Option Addr) (c : Nat) (l : List UInt8), cs = [.slice A l.length c] ∧ l.length ≤ c ∧ c ≤ maxLen ∧ Sl w w.heap.size A (bv l) ∧ (A = none → c = 0) := by
  obtain ⟨A, c, l, rfl, h1, h2, h3⟩ := rd_bytes ht he hc h
  exact ⟨A, c, l, rfl, h1, h2, h3, fun e => (rd_nil ht h e).1⟩

end
end Go.Proofs.YtjkilpjdgjijiaaDoor
