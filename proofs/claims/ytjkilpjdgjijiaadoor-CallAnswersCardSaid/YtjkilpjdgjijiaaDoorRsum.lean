/- tidelineref02.Sum: eight steps a byte are two of the table's. -/
import Derived.Test.YtjkilpjdgjijiaaDoorMore
namespace Go.Proofs.YtjkilpjdgjijiaaDoor
open Go.RowKit
set_option linter.unusedVariables false

def bs (s : Nat) : Nat := if s % 2 = 1 then (s / 2) ^^^ 3988292384 else s / 2
def bsn : Nat → Nat → Nat
  | 0, v => v
  | k + 1, v => bs (bsn k v)
theorem bs_lt {s : Nat} (h : s < 4294967296) : bs s < 4294967296 := by
  unfold bs
  split
  · exact Nat.xor_lt_two_pow (n := 32) (by omega) (by decide)
  · omega
theorem bsn_lt {v : Nat} (h : v < 4294967296) : ∀ k, bsn k v < 4294967296
  | 0 => h
  | k + 1 => bs_lt (bsn_lt h k)
theorem bs_eq (s : Nat) : bs s = (s / 2) ^^^ (if s % 2 = 1 then 3988292384 else 0) := by
  unfold bs; split <;> simp
theorem bs_lin (s t : Nat) : bs (s ^^^ t) = bs s ^^^ bs t := by
  rw [bs_eq, bs_eq, bs_eq]
  have h1 : (s ^^^ t) / 2 = s / 2 ^^^ t / 2 := by
    have := Nat.shiftRight_xor_distrib (a := s) (b := t) (i := 1)
    simpa [Nat.shiftRight_eq_div_pow] using this
  have h2 : (s ^^^ t) % 2 = (s % 2) ^^^ (t % 2) := by
    have := Nat.xor_mod_two_pow (a := s) (b := t) (n := 1)
    simpa using this
  have h3 : (if (s ^^^ t) % 2 = 1 then (3988292384 : Nat) else 0) = (if s % 2 = 1 then 3988292384 else 0) ^^^ (if t % 2 = 1 then 3988292384 else 0) := by
    rw [h2]
    rcases Nat.mod_two_eq_zero_or_one s with a | a <;> rcases Nat.mod_two_eq_zero_or_one t with b | b <;> rw [a, b] <;> decide
  rw [h1, h3, Nat.xor_assoc, Nat.xor_assoc]
  congr 1
  rw [← Nat.xor_assoc, ← Nat.xor_assoc, Nat.xor_comm (t / 2)]
theorem bs4_low : ∀ i, i < 16 → bs (bs (bs (bs i))) = four i := by decide +kernel
theorem bs_even (q : Nat) : bs (2 * q) = q := by unfold bs; rw [if_neg (by omega)]; omega
theorem bs4 (s : Nat) : bs (bs (bs (bs s))) = nib s := by
  have e : s = 16 * (s / 16) ^^^ s % 16 := by
    have h := Nat.two_pow_add_eq_or_of_lt (i := 4) (b := s % 16) (by omega) (s / 16)
    have h2 : 16 * (s / 16) ^^^ s % 16 = 16 * (s / 16) ||| s % 16 := by
      apply Nat.eq_of_testBit_eq
      intro i
      rw [Nat.testBit_xor, Nat.testBit_or, show (16 : Nat) * (s / 16) = 2 ^ 4 * (s / 16) from rfl, Nat.testBit_two_pow_mul, show s % 16 = s % 2 ^ 4 from rfl, Nat.testBit_mod_two_pow]
      by_cases hi : 4 ≤ i
      · simp [hi, show ¬ i < 4 by omega]
      · simp [hi]
    rw [h2]
    rw [show (2 : Nat) ^ 4 = 16 from rfl] at h
    rw [← h]
    omega
  conv => lhs; rw [e]
  rw [bs_lin, bs_lin, bs_lin, bs_lin, bs4_low (s % 16) (Nat.mod_lt _ (by decide))]
  rw [show 16 * (s / 16) = 2 * (2 * (2 * (2 * (s / 16)))) by omega, bs_even, bs_even, bs_even, bs_even]
  unfold nib
  rw [Nat.shiftRight_eq_div_pow]
theorem bs8 (s : Nat) : bsn 8 s = nib (nib s) := by
  show bs (bs (bs (bs (bs (bs (bs (bs s))))))) = _
  rw [bs4, bs4]

set_option maxRecDepth 100000 in
set_option maxHeartbeats 1000000 in
theorem rsum_any (A : Option Addr) (c B : Nat) (l : List UInt8) (w : World) (h : Sl w B A (bv l)) (hl : l.length ≤ 4611686018427387904) :
    Calls Tryd.prog 52 #[.slice A l.length c] w fun e w' => e = .returned (.int .u32 (more 0 l : Int)) ∧ w' = w := by
  go_enter Tryd.func52, Tryd.ntmps52
  go_wp2_with fail
  go_loopw [3, 4] (fun s0 i wr => ∃ k : Nat, k ≤ l.length ∧ i = .int .i64 k ∧ s0 = .int .u32 (crc 4294967295 (l.take k) : Int) ∧ wr = w) (fun _ i _ => l.length - (intOf i).toNat)
  case atStart => exact ⟨0, Nat.zero_le _, rfl, rfl, rfl⟩
  case round =>
    obtain ⟨k, hk, rfl, rfl, rfl⟩ := hrel
    by_cases hlt : k < l.length
    · obtain ⟨b1, o1, rfl, hb1, hc1⟩ := h.byte hlt
      have hi : (k : Int) < ((l.length : Nat) : Int) := by omega
      obtain ⟨m, hm⟩ : ∃ m, crc 4294967295 (l.take k) = m := ⟨_, rfl⟩
      have hml : m < 4294967296 := by rw [← hm]; exact crc_lt _ (by decide)
      have hx : bits .xor .u32 (m : Int) (((l[k].toNat : Nat) : Int) % 4294967296) = ((m ^^^ l[k].toNat : Nat) : Int) := by
        rw [show ((l[k].toNat : Nat) : Int) % 4294967296 = ((l[k].toNat : Nat) : Int) by have := l[k].toNat_lt; omega]
        exact u32_xor_nat _ _ hml (by have := l[k].toNat_lt; omega)
      have hxl : m ^^^ l[k].toNat < 4294967296 := Nat.xor_lt_two_pow (n := 32) hml (by have := l[k].toNat_lt; omega)
      have HM := Lib.hid hm
      rw [hm]
      clear hm h
      go_wp2_with fail
      go_loopw [3, 5] (fun s0 i wr' => ∃ k2 : Nat, k2 ≤ 8 ∧ i = .int .i64 k2 ∧ s0 = .int .u32 (bsn k2 (m ^^^ l[k].toNat) : Int) ∧ wr' = wr) (fun _ i _ => 8 - (intOf i).toNat)
      case atStart => exact ⟨0, by omega, rfl, by first | rfl | (rw [hx]; rfl), rfl⟩
      case round =>
        obtain ⟨k2, hk2, rfl, rfl, rfl⟩ := hrel
        by_cases hlt2 : k2 < 8
        · have hv := bsn_lt hxl k2
          obtain ⟨v, hve⟩ : ∃ v, bsn k2 (m ^^^ l[k].toNat) = v := ⟨_, rfl⟩
          have hst : bsn (k2 + 1) (m ^^^ l[k].toNat) = bs v := by show bs (bsn k2 _) = _; rw [hve]
          rw [hve] at hv
          rw [hve]
          have HST := Lib.hid hst
          clear hve hst hx
          have hi2 : (k2 : Int) < 8 := by omega
          rcases Nat.mod_two_eq_zero_or_one v with hp | hp
          · have hpar : ((v : Int) % 2 == 1) = false := by rw [beq_eq_false_iff_ne]; omega
            go_wp2_with fail
            go_roundw
            case rel => exact ⟨k2 + 1, by omega, by simp, by rw [HST.out]; unfold bs; rw [if_neg (by omega)]; congr 1, trivial⟩
            case measure => simp [intOf]; omega
          · have hpar : ((v : Int) % 2 == 1) = true := by rw [beq_iff_eq]; omega
            go_wp2_with fail
            go_roundw
            case rel =>
              refine ⟨k2 + 1, by omega, by simp, ?_, trivial⟩
              rw [HST.out]
              unfold bs
              rw [if_pos hp, show (v : Int) / 2 = ((v / 2 : Nat) : Int) by omega, show (3988292384 : Int) = ((3988292384 : Nat) : Int) from rfl, u32_xor_nat _ _ (by omega) (by decide)]
            case measure => simp [intOf]; omega
        · have hk8 : k2 = 8 := by omega
          subst hk8
          clear hx
          go_wp2_with fail
          go_roundw
          case rel => exact ⟨k + 1, by omega, by simp, by rw [List.take_succ_eq_append_getElem hlt, crc_snoc, HM.out, bs8]; rfl, trivial⟩
          case measure => simp [intOf]; omega
    · obtain rfl : k = l.length := by omega
      rw [List.take_length]
      have hcl := crc_lt l (s := 4294967295) (by decide)
      have hmo : ((4294967295 : Int) - (crc 4294967295 l : Int)) = (more 0 l : Int) := by
        show _ = ((4294967295 - crc 4294967295 l : Nat) : Int)
        omega
      go_wp2
      go_ret
      exact ⟨by rw [← hmo]; rfl, rfl⟩
end Go.Proofs.YtjkilpjdgjijiaaDoor
