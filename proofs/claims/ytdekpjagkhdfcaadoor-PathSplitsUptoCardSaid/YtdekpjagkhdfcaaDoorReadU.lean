/- Reading texts, with their bulk. -/
import Derived.Test.YtdekpjagkhdfcaaDoorRows
import Derived.Test.YtdekpjagkhdfcaaDoorReadS
import Derived.Test.YtdekpjagkhdfcaaDoorReadN
import Derived.Test.YtdekpjagkhdfcaaDoorPathJ
import Derived.SliceStrings
namespace Go.Proofs.YtdekpjagkhdfcaaDoor
open Go.RowKit Go.ChangeShapes Go.WideShapes Go.ChangeAt
set_option linter.unusedVariables false

section
variable {H : Type} {enc : TypeId × Value → H} {P : Program} {w : World} {base : Nat} {spare : Nat → Bool} {held : Bool}

theorem bulk_strs : ∀ (zs : List ByteArray), Rows.uptoBulkAll (H := H) (zs.map fun s => .lit (.string s.data.toList)) = (joinL zs).length
  | [] => rfl
  | z :: zs => by
    have ih := bulk_strs zs
    simp only [List.map_cons, Rows.uptoBulkAll, Rows.uptoBulk, ih, joinL, List.flatMap_cons, List.length_append, List.length_cons]

/-- A slice of texts, and its bulk. -/
theorem rd_strsU {t e : TypeId} {v : Value} {d : DataW H} {ps : List MemPlace} {okb : Nat} (ht : P.underlying t = some (.slice e)) (he : P.underlying e = some .string) (hc : P.cellsOf e = 1)
    (hv : Value.okWide P w .any okb t v) (h : DataW.Trod enc P w base spare held t v d ps) :
    ∃ (A : Option Addr) (c : Nat) (zs : List ByteArray), v = .slice A zs.length c ∧ zs.length ≤ c ∧ c ≤ maxLen ∧ Sl w w.heap.size A (zs.map Value.string) ∧ (∀ z ∈ zs, z.size ≤ maxLen) ∧ (A = none → c = 0) ∧ (joinL zs).length ≤ Rows.uptoBulk d := by
  obtain ⟨A, c, zs, rfl, h1, h2, h3, h4⟩ := rd_strs ht he hc hv h
  refine ⟨A, c, zs, rfl, h1, h2, h3, h4, ?_, ?_⟩
  · obtain ⟨m, hm⟩ := h
    exact fun e' => (rd_nil ht hm e').1
  · obtain ⟨m, hm⟩ := h
    rcases open_strings ht he hc hm with ⟨hcs, hx⟩ | ⟨a, len, cap, ss, hcs, _, hl, hmx, hlen, hx, hcell, _⟩
    · have h0 : A = none ∧ zs = [] ∧ c = 0 := by simpa [Value.cells] using hcs
      have : zs = [] := h0.2.1
      rw [this]
      simp [joinL]
    · obtain ⟨rfl, hzl, rfl⟩ : A = some a ∧ zs.length = len ∧ c = cap := by simpa [Value.cells] using hcs
      have hle : len ≤ ss.length := by rw [hlen]; split <;> omega
      have hz : zs = ss.take len := by
        refine List.ext_getElem (by rw [List.length_take]; omega) fun i hi hi2 => ?_
        obtain ⟨b, o, e1, hb, hc1⟩ := h3.at (k := i) (by simpa using hi)
        injection e1 with e1
        subst e1
        have hc2 := hcell i (by omega)
        have hadd : (⟨b, o, none⟩ : Addr).add i = ⟨b, o + i, none⟩ := by unfold Addr.add; split <;> simp_all
        rw [hadd, hc1] at hc2
        have hc3 := Option.some.inj hc2
        rw [List.getElem_map] at hc3
        injection hc3 with hc3
        rw [hc3, List.getElem_take]
        simp [List.getD, (show i < ss.length by omega)]
      have hd : d = .slice (Go.ChangeShapes.strs (ss.take len)) (Go.ChangeShapes.strs (ss.drop len)) := congrArg Prod.fst hx
      rw [hd, ← hz]
      have hb := bulk_strs (H := H) zs
      have hs : Go.ChangeShapes.strs (H := H) zs = zs.map fun s => .lit (.string s.data.toList) := rfl
      rw [Rows.uptoBulk, hs, hb]
      omega
end
end Go.Proofs.YtdekpjagkhdfcaaDoor
