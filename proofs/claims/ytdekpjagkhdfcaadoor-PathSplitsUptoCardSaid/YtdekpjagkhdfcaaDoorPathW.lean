/- path.Join. -/
import Derived.Test.YtdekpjagkhdfcaaDoorPathB
import Derived.Test.YtdekpjagkhdfcaaDoorPathQ
namespace Go.Proofs.YtdekpjagkhdfcaaDoor
open Go.RowKit
set_option linter.unusedVariables false

theorem cells_snoc (zs : List ByteArray) (z : ByteArray) : Lib.byteCells (joinL zs) ++ [.int .u8 47] ++ Lib.strCells z = Lib.byteCells (joinL (zs ++ [z])) := by
  rw [joinL_snoc, Lib.strCells_eq, Lib.byteCells_append]
  simp [Lib.byteCells]
theorem joinL_joinP {zs : List ByteArray} (h : zs ≠ []) : joinL zs = joinP (zs.map (·.data.toList)) := by
  unfold joinP
  rw [if_neg (by simpa using h)]
  simp [joinL, List.flatMap_map]

set_option maxRecDepth 100000 in
set_option maxHeartbeats 2000000 in
theorem pjoin_any (A : Option Addr) (c B : Nat) (zs : List ByteArray) (w : World) (hs : Sl w B A (zs.map Value.string)) (hBw : B ≤ w.heap.size) (hb : (joinL zs).length ≤ 140737488355328) (hn : zs.length ≤ 9223372036854775806) :
    Calls Tryd.prog 16 #[.slice A zs.length c] w fun e w' => e = .returned (.string ⟨(joinP (zs.map (·.data.toList))).toArray⟩) ∧ Below w.heap.size w w' := by
  have HB := Lib.hid hb
  clear hb
  by_cases hz0 : zs = []
  · subst hz0
    go_enter Tryd.func16, Tryd.ntmps16
    go_wp2_with fail
    go_ret
    exact ⟨rfl, Below.refl _ _⟩
  obtain ⟨t, ht⟩ : ∃ t, joinP (zs.map (·.data.toList)) = t := ⟨_, rfl⟩
  rw [ht]
  have HJ : Hid (joinL zs = t) := by show _ = _; rw [← ht, joinL_joinP hz0]
  have HE : Hid (joinL zs ≠ []) := by
    show _ ≠ _
    cases zs with
    | nil => exact absurd rfl hz0
    | cons z zs => simp [joinL]
  clear ht
  obtain ⟨n, hz⟩ : ∃ n, zs.length = n := ⟨_, rfl⟩
  have HN := Lib.hid hz
  rw [hz] at hn ⊢
  have hn0 : ((n : Int) == 0) = false := by
    rw [beq_eq_false_iff_ne]
    have : zs.length ≠ 0 := by simpa using hz0
    omega
  have hn1 : ¬ ((n : Int) = 0) := by simpa using hn0
  have hn2 : ¬ (n = 0) := by omega
  clear hz hz0
  go_enter Tryd.func16, Tryd.ntmps16
  go_wp2_with fail
  have hD0 : IsB w.heap.size w.heap.size (Lib.byteCells (joinL (zs.take 0))) (w.alloc (.cells #[.pointer none, .slice none 0 0] 43)) :=
    .inl ⟨Nat.le_refl _, _, heap_alloc_new w _, World.ownsRow_nil _ _ _ _, by simp [Value.ownBlock]⟩
  have HD0 := Lib.hid hD0
  have HW0 : Hid (Below w.heap.size w (w.alloc (.cells #[.pointer none, .slice none 0 0] 43))) := (Below.refl _ _).alloc (Nat.le_refl _) _
  clear hD0
  have HS := Lib.hid hs
  clear hs
  go_loopw [11] (fun s11 wr => ∃ k : Nat, k ≤ n ∧ s11 = .int .i64 (k : Int) ∧ Hid (IsB w.heap.size w.heap.size (Lib.byteCells (joinL (zs.take k))) wr) ∧ Hid (Below w.heap.size w wr)) (fun s11 _ => n - (intOf s11).toNat)
  case atStart => exact ⟨0, Nat.zero_le _, rfl, HD0, HW0⟩
  case round =>
    obtain ⟨k, hk, rfl, hD, hBW⟩ := hrel
    by_cases hlt : k < n
    · have hi : (k : Int) < (n : Int) := by omega
      have hkz : k < zs.length := by rw [HN.out]; exact hlt
      obtain ⟨b, o, rfl, hbb, hcell0⟩ := HS.out.at (k := k) (by simpa using hkz)
      rw [List.getElem_map] at hcell0
      have hcell := (hBW.out.cell (p := ⟨b, o + k, none⟩) (Nat.lt_of_lt_of_le hbb hBw)).trans hcell0
      have htk : zs.take (k + 1) = zs.take k ++ [zs[k]] := List.take_succ_eq_append_getElem hkz
      have hJ := cells_snoc (zs.take k) zs[k]
      rw [← htk] at hJ
      have hsz := joinL_take zs (k + 1)
      have hsz2 := hsz
      rw [htk, joinL_snoc, List.length_append, List.length_cons] at hsz2
      have hbo := HB.out
      obtain ⟨z, hz⟩ : ∃ z, zs[k] = z := ⟨_, rfl⟩
      rw [hz] at hcell hJ hsz2
      have e2 : z.data.toList.length = z.size := by simp
      have L1 : Hid ((Lib.byteCells (joinL (zs.take k))).length + 1 ≤ 140737488355328) := by show _ ≤ _; rw [Lib.byteCells_length]; omega
      have L2 : Hid ((Lib.byteCells (joinL (zs.take k)) ++ [Value.int .u8 47]).length + z.size ≤ 140737488355328) := by show _ ≤ _; rw [List.length_append, Lib.byteCells_length]; simp; omega
      have HJ2 := Lib.hid hJ
      clear hcell0 htk hsz hsz2 hbo e2 hz hJ hlt
      go_wp2_with fail
      refine (bbyte_any w.heap.size w.heap.size _ 47 wr hD.out L1.out hBW.out.size).mono ?_
      rintro e w1 ⟨rfl, h1, hb1⟩
      have H1 := Lib.hid h1
      have HB1 := Lib.hid (hBW.out.trans hb1)
      clear h1 hb1
      go_wp2_with fail
      refine (bstr_any w.heap.size w.heap.size _ z w1 (.inr H1.out) L2.out HB1.out.size).mono ?_
      rintro e w2 ⟨rfl, h2, hb2⟩
      rw [HJ2.out] at h2
      have H2 := Lib.hid h2
      have HB2 := Lib.hid (HB1.out.trans hb2)
      clear h2 hb2
      go_wp2_with fail
      go_roundw
      case rel => exact ⟨k + 1, by omega, by simp, Lib.hid (.inr H2.out), HB2⟩
      case measure => simp [intOf] <;> omega
    · have hi : ¬ ((k : Int) < (n : Int)) := by omega
      have hkn : k = n := by omega
      subst hkn
      have hDf := hD.out
      rw [List.take_of_length_le (by rw [HN.out]; exact Nat.le_refl _), HJ.out] at hDf
      have HDF := Lib.hid hDf
      have HT : Hid (t ≠ []) := by show _ ≠ _; rw [← HJ.out]; exact HE.out
      clear hD hDf hlt
      go_wp2_with fail
      refine (bout_any w.heap.size w.heap.size t wr HDF.out HT.out).mono ?_
      rintro e w1 ⟨rfl, hb1⟩
      have HB1 := Lib.hid (hBW.out.trans hb1)
      clear hb1
      go_wp2_with fail
      go_ret
      exact ⟨rfl, HB1.out⟩
end Go.Proofs.YtdekpjagkhdfcaaDoor
