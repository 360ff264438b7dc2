/- check.More, check.Sum. -/
import Derived.Test.YtjkilpjdgjijiaaDoorCrcP
import Derived.Laws.BitsAllLaws
namespace Go.Proofs.YtjkilpjdgjijiaaDoor
open Go.RowKit
set_option linter.unusedVariables false

/-- The table's cells. -/
def Tab (w : World) : Prop := 0 < w.heap.size ∧ ∀ i : Nat, i < 16 → w.cell? ⟨0, i, none⟩ = some (.int .u32 (four i : Int))
theorem Tab.below {w w' : World} {B : Nat} (h : Tab w) (hB : 0 < B) (hb : Below B w w') : Tab w' :=
  ⟨Nat.lt_of_lt_of_le h.1 hb.size, fun i hi => (hb.cell (p := ⟨0, i, none⟩) hB).trans (h.2 i hi)⟩
def nibs : Nat → Nat → Nat
  | 0, v => v
  | k + 1, v => nib (nibs k v)
theorem nibs_lt {v : Nat} (h : v < 4294967296) : ∀ k, nibs k v < 4294967296
  | 0 => h
  | k + 1 => nib_lt (nibs_lt h k)

theorem flip_bits {n : Nat} (h : n < 4294967296) : bits BinOp.xor IntKind.u32 IntKind.u32.max (n : Int) = (flip32 n : Int) := by
  have h1 := flip_xor h (by decide : 0 < 4294967296)
  rw [Nat.xor_zero, show flip32 0 = 4294967295 from rfl] at h1
  rw [show IntKind.u32.max = ((4294967295 : Nat) : Int) from rfl, u32_xor_nat _ _ (by decide) h]
  congr 1
  conv => lhs; rw [← h1]
  rw [Nat.xor_comm, Nat.xor_assoc, Nat.xor_self, Nat.xor_zero]

set_option maxRecDepth 100000 in
set_option maxHeartbeats 1000000 in
theorem more_any (s : Nat) (hs : s < 4294967296) (A : Option Addr) (c B : Nat) (l : List UInt8) (w : World) (hT : Tab w) (h : Sl w B A (bv l)) (hl : l.length ≤ maxLen) :
    Calls Tryd.prog 62 #[.int .u32 (s : Int), .slice A l.length c] w fun e w' => e = .returned (.int .u32 (more s l : Int)) ∧ w' = w := by
  have HT := Lib.hid hT
  clear hT
  unfold maxLen at hl
  have hf0 := flip_bits hs
  go_enter Tryd.func62, Tryd.ntmps62
  go_wp2_with fail
  go_loopw [0, 11] (fun s0 i wr => ∃ k : Nat, k ≤ l.length ∧ i = .int .i64 k ∧ s0 = .int .u32 (crc (flip32 s) (l.take k) : Int) ∧ wr = w) (fun _ i _ => l.length - (intOf i).toNat)
  case atStart => exact ⟨0, Nat.zero_le _, rfl, rfl, rfl⟩
  case round =>
    obtain ⟨k, hk, rfl, rfl, rfl⟩ := hrel
    by_cases hlt : k < l.length
    · obtain ⟨b1, o1, rfl, hb1, hc1⟩ := h.byte hlt
      have hi : (k : Int) < ((l.length : Nat) : Int) := by omega
      obtain ⟨m, hm⟩ : ∃ m, crc (flip32 s) (l.take k) = m := ⟨_, rfl⟩
      have hml : m < 4294967296 := by rw [← hm]; exact crc_lt _ (flip_lt _)
      have hx : bits .xor .u32 (m : Int) (((l[k].toNat : Nat) : Int) % 4294967296) = ((m ^^^ l[k].toNat : Nat) : Int) := by
        rw [show ((l[k].toNat : Nat) : Int) % 4294967296 = ((l[k].toNat : Nat) : Int) by have := l[k].toNat_lt; omega]
        exact u32_xor_nat _ _ hml (by have := l[k].toNat_lt; omega)
      have hxl : m ^^^ l[k].toNat < 4294967296 := Nat.xor_lt_two_pow (n := 32) hml (by have := l[k].toNat_lt; omega)
      have HM := Lib.hid hm
      rw [hm]
      clear hm h
      go_wp2_with fail
      go_loopw [0, 19] (fun s0 i wr' => ∃ k2 : Nat, k2 ≤ 2 ∧ i = .int .i64 k2 ∧ s0 = .int .u32 (nibs k2 (m ^^^ l[k].toNat) : Int) ∧ wr' = wr) (fun _ i _ => 2 - (intOf i).toNat)
      case atStart => exact ⟨0, by omega, rfl, rfl, rfl⟩
      case round =>
        obtain ⟨k2, hk2, rfl, rfl, rfl⟩ := hrel
        by_cases hlt2 : k2 < 2
        · have hv := nibs_lt hxl k2
          obtain ⟨v, hve⟩ : ∃ v, nibs k2 (m ^^^ l[k].toNat) = v := ⟨_, rfl⟩
          have HV := Lib.hid hve
          rw [hve] at hv
          rw [hve]
          clear hve
          have hi2 : (k2 : Int) < 2 := by omega
          have ha : bits .and .u32 (v : Int) 15 = ((v % 16 : Nat) : Int) := by
            rw [show (15 : Int) = ((15 : Nat) : Int) from rfl, u32_and_nat _ _ hv (by omega), show (15 : Nat) = 2 ^ 4 - 1 from rfl, Nat.and_two_pow_sub_one_eq_mod]
          have hcell := HT.out.2 (v % 16) (by omega)
          go_wp2_with fail
          go_roundw
          case rel =>
            refine ⟨k2 + 1, by omega, by simp, ?_, trivial⟩
            congr 1
            rw [show (v : Int) / 16 = ((v / 16 : Nat) : Int) by omega, u32_xor_nat _ _ (by omega) (four_lt _ (by omega))]
            congr 1
            show _ = nib (nibs k2 _)
            rw [HV.out]
            unfold nib
            rw [Nat.shiftRight_eq_div_pow]
          case measure => simp [intOf]; omega
        · obtain rfl : k2 = 2 := by omega
          clear hx
          go_wp2_with fail
          go_roundw
          case rel => exact ⟨k + 1, by omega, by simp, by rw [List.take_succ_eq_append_getElem hlt, crc_snoc, HM.out]; rfl, trivial⟩
          case measure => simp [intOf]; omega
    · obtain rfl : k = l.length := by omega
      rw [List.take_length]
      have hf1 := flip_bits (crc_lt l (flip_lt s))
      go_wp2
      go_ret
      exact ⟨rfl, rfl⟩
end Go.Proofs.YtjkilpjdgjijiaaDoor
