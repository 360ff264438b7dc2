/- The plain sum of bytes: a table of sixteen, linear. -/
import Derived.Test.YtjkilpjdgjijiaaDoorBase
namespace Go.Proofs.YtjkilpjdgjijiaaDoor
set_option linter.unusedVariables false

def fourL : List Nat := [0x00000000, 0x1db71064, 0x3b6e20c8, 0x26d930ac, 0x76dc4190, 0x6b6b51f4, 0x4db26158, 0x5005713c, 0xedb88320, 0xf00f9344, 0xd6d6a3e8, 0xcb61b38c, 0x9b64c2b0, 0x86d3d2d4, 0xa00ae278, 0xbdbdf21c]
def four (i : Nat) : Nat := fourL.getD i 0
def nib (s : Nat) : Nat := (s >>> 4) ^^^ four (s % 16)
def crcStep (s x : Nat) : Nat := nib (nib (s ^^^ x))
def crc (s : Nat) (l : List UInt8) : Nat := l.foldl (fun s x => crcStep s x.toNat) s
def flip32 (n : Nat) : Nat := 4294967295 - n
def more (s : Nat) (l : List UInt8) : Nat := flip32 (crc (flip32 s) l)

theorem four_lin : ∀ i, i < 16 → ∀ j, j < 16 → four (i ^^^ j) = four i ^^^ four j := by decide +kernel
theorem four_lt : ∀ i, i < 16 → four i < 4294967296 := by decide +kernel
theorem nib_lin (s t : Nat) : nib (s ^^^ t) = nib s ^^^ nib t := by
  unfold nib
  rw [Nat.shiftRight_xor_distrib, show (16 : Nat) = 2 ^ 4 from rfl, Nat.xor_mod_two_pow, four_lin _ (Nat.mod_lt _ (by decide)) _ (Nat.mod_lt _ (by decide))]
  rw [Nat.xor_assoc, Nat.xor_assoc]
  congr 1
  rw [← Nat.xor_assoc, ← Nat.xor_assoc, Nat.xor_comm (four (s % 2 ^ 4))]
theorem nib_lt {s : Nat} (h : s < 4294967296) : nib s < 4294967296 := by
  unfold nib
  exact Nat.xor_lt_two_pow (n := 32) (by rw [Nat.shiftRight_eq_div_pow]; omega) (four_lt _ (by omega))
theorem crcStep_lt {s x : Nat} (h : s < 4294967296) (hx : x < 4294967296) : crcStep s x < 4294967296 := nib_lt (nib_lt (Nat.xor_lt_two_pow (n := 32) h hx))
theorem crc_lt : ∀ (l : List UInt8) {s : Nat}, s < 4294967296 → crc s l < 4294967296
  | [], s, h => h
  | x :: l, s, h => crc_lt l (crcStep_lt h (by have := x.toNat_lt; omega))
theorem crc_app (s : Nat) (a b : List UInt8) : crc s (a ++ b) = crc (crc s a) b := List.foldl_append ..
theorem crc_snoc (s : Nat) (a : List UInt8) (x : UInt8) : crc s (a ++ [x]) = crcStep (crc s a) x.toNat := by rw [crc_app]; rfl
theorem flip_lt (n : Nat) : flip32 n < 4294967296 := by unfold flip32; omega
theorem flip_flip {n : Nat} (h : n < 4294967296) : flip32 (flip32 n) = n := by unfold flip32; omega
theorem more_lt (s : Nat) (l : List UInt8) : more s l < 4294967296 := flip_lt _
theorem more_app (s : Nat) (a b : List UInt8) : more (more s a) b = more s (a ++ b) := by
  unfold more
  rw [flip_flip (crc_lt _ (flip_lt _)), crc_app]
theorem more_nil {s : Nat} (h : s < 4294967296) : more s [] = s := flip_flip h

theorem step_lin (s t x y : Nat) : crcStep (s ^^^ t) (x ^^^ y) = crcStep s x ^^^ crcStep t y := by
  unfold crcStep
  rw [← nib_lin, ← nib_lin]
  congr 2
  rw [Nat.xor_assoc, Nat.xor_assoc]
  congr 1
  rw [← Nat.xor_assoc, ← Nat.xor_assoc, Nat.xor_comm t]
theorem crc_lin : ∀ (a b : List UInt8), a.length = b.length → ∀ s t, crc (s ^^^ t) (List.zipWith (· ^^^ ·) a b) = crc s a ^^^ crc t b
  | [], [], _, s, t => rfl
  | x :: a, y :: b, h, s, t => by
    have hs := step_lin s t x.toNat y.toNat
    have ih := crc_lin a b (by simpa using h) (crcStep s x.toNat) (crcStep t y.toNat)
    rw [← hs] at ih
    show crc (crcStep (s ^^^ t) (x ^^^ y).toNat) (List.zipWith (· ^^^ ·) a b) = _
    rw [UInt8.toNat_xor]
    exact ih
  | [], _ :: _, h, _, _ => by simp at h
  | _ :: _, [], h, _, _ => by simp at h
theorem flip_xor {u v : Nat} (hu : u < 4294967296) (hv : v < 4294967296) : flip32 u ^^^ flip32 v = u ^^^ v := by
  apply Nat.eq_of_testBit_eq
  intro i
  have e : ∀ n, n < 4294967296 → flip32 n = 2 ^ 32 - (n + 1) := fun n hn => by unfold flip32; omega
  rw [Nat.testBit_xor, Nat.testBit_xor, e u hu, e v hv, Nat.testBit_two_pow_sub_succ hu, Nat.testBit_two_pow_sub_succ hv]
  by_cases hi : i < 32
  · simp [hi]
  · have h1 : u.testBit i = false := Nat.testBit_lt_two_pow (Nat.lt_of_lt_of_le hu (Nat.pow_le_pow_right (n := 2) (by decide) (by omega : 32 ≤ i)))
    have h2 : v.testBit i = false := Nat.testBit_lt_two_pow (Nat.lt_of_lt_of_le hv (Nat.pow_le_pow_right (n := 2) (by decide) (by omega : 32 ≤ i)))
    simp [hi, h1, h2]
theorem zip_zero : ∀ (b : List UInt8), List.zipWith (· ^^^ ·) (List.replicate b.length (0 : UInt8)) b = b
  | [] => rfl
  | y :: b => by
    show ((0 : UInt8) ^^^ y) :: List.zipWith (· ^^^ ·) (List.replicate b.length (0 : UInt8)) b = _
    rw [zip_zero b]
    simp
/-- Sums of rows of one length hang together. -/
theorem more_linear (a b : List UInt8) (h : a.length = b.length) (s : Nat) :
    more s (List.zipWith (· ^^^ ·) a b) ^^^ more s (List.replicate a.length 0) = more s a ^^^ more s b := by
  have hl := flip_lt s
  unfold more
  rw [flip_xor (crc_lt _ hl) (crc_lt _ hl), flip_xor (crc_lt _ hl) (crc_lt _ hl)]
  have h1 := crc_lin a b h (flip32 s) 0
  have h2 := crc_lin (List.replicate b.length (0 : UInt8)) b (by simp) (flip32 s) 0
  rw [zip_zero] at h2
  rw [Nat.xor_zero] at h1 h2
  rw [h1, h2, h, Nat.xor_assoc, Nat.xor_comm (crc 0 b)]
end Go.Proofs.YtjkilpjdgjijiaaDoor
