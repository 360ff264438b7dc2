/- Bytes with their sum behind, one of them turned: plain. -/
import Derived.Test.YtjkilpjdgjijiaaDoorWrap
namespace Go.Proofs.YtjkilpjdgjijiaaDoor
set_option linter.unusedVariables false

theorem four_high : ∀ i, i < 16 → four i < 268435456 → i = 0 := by decide +kernel
theorem nib_zero {u : Nat} (hu : u < 4294967296) (h : nib u = 0) : u = 0 := by
  unfold nib at h
  rw [Nat.shiftRight_eq_div_pow] at h
  have h1 : u / 2 ^ 4 = four (u % 16) := by
    have h2 : u / 2 ^ 4 ^^^ four (u % 16) ^^^ four (u % 16) = 0 ^^^ four (u % 16) := by rw [h]
    rwa [Nat.xor_assoc, Nat.xor_self, Nat.xor_zero, Nat.zero_xor] at h2
  have h3 : u % 16 = 0 := four_high _ (Nat.mod_lt _ (by decide)) (by rw [← h1]; omega)
  rw [h3, show four 0 = 0 from rfl] at h1
  omega
theorem xor_cancel {a b c : Nat} (h : a ^^^ c = b ^^^ c) : a = b := by
  have h2 : a ^^^ c ^^^ c = b ^^^ c ^^^ c := by rw [h]
  rwa [Nat.xor_assoc, Nat.xor_assoc, Nat.xor_self, Nat.xor_zero, Nat.xor_zero] at h2
theorem nib_inj {s t : Nat} (hs : s < 4294967296) (ht : t < 4294967296) (h : nib s = nib t) : s = t := by
  have h1 : nib (s ^^^ t) = 0 := by rw [nib_lin, h, Nat.xor_self]
  have h2 := nib_zero (Nat.xor_lt_two_pow (n := 32) hs ht) h1
  exact xor_cancel (c := t) (by rw [h2, Nat.xor_self])
theorem step_inj {s t x : Nat} (hs : s < 4294967296) (ht : t < 4294967296) (hx : x < 4294967296) (h : crcStep s x = crcStep t x) : s = t := by
  have h1 := nib_inj (nib_lt (Nat.xor_lt_two_pow (n := 32) hs hx)) (nib_lt (Nat.xor_lt_two_pow (n := 32) ht hx)) h
  exact xor_cancel (nib_inj (Nat.xor_lt_two_pow (n := 32) hs hx) (Nat.xor_lt_two_pow (n := 32) ht hx) h1)
theorem step_inj2 {s x y : Nat} (hs : s < 4294967296) (hx : x < 4294967296) (hy : y < 4294967296) (h : crcStep s x = crcStep s y) : x = y := by
  have h1 := nib_inj (nib_lt (Nat.xor_lt_two_pow (n := 32) hs hx)) (nib_lt (Nat.xor_lt_two_pow (n := 32) hs hy)) h
  have h2 := nib_inj (Nat.xor_lt_two_pow (n := 32) hs hx) (Nat.xor_lt_two_pow (n := 32) hs hy) h1
  rw [Nat.xor_comm s, Nat.xor_comm s] at h2
  exact xor_cancel h2
theorem b_lt (x : UInt8) : x.toNat < 4294967296 := by have := x.toNat_lt; omega
theorem crc_inj : ∀ (l : List UInt8) {s t : Nat}, s < 4294967296 → t < 4294967296 → crc s l = crc t l → s = t
  | [], s, t, _, _, h => h
  | x :: l, s, t, hs, ht, h => step_inj hs ht (b_lt x) (crc_inj l (crcStep_lt hs (b_lt x)) (crcStep_lt ht (b_lt x)) h)
theorem crc_turn (p q : List UInt8) (x y : UInt8) {s : Nat} (hs : s < 4294967296) (h : crc s (p ++ x :: q) = crc s (p ++ y :: q)) : x = y := by
  rw [crc_app, crc_app] at h
  have hp := crc_lt p hs
  have h1 := crc_inj q (crcStep_lt hp (b_lt x)) (crcStep_lt hp (b_lt y)) h
  exact UInt8.toNat_inj.1 (step_inj2 hp (b_lt x) (b_lt y) h1)
theorem more_turn (p q : List UInt8) (x y : UInt8) (h : more 0 (p ++ x :: q) = more 0 (p ++ y :: q)) : x = y := by
  unfold more at h
  have h1 := congrArg flip32 h
  rw [flip_flip (crc_lt _ (flip_lt _)), flip_flip (crc_lt _ (flip_lt _))] at h1
  exact crc_turn p q x y (flip_lt _) h1

theorem beVal_go : ∀ (l : List UInt8) (v : Nat), l.foldl (fun v b => v * 256 + b.toNat) v = v * 256 ^ l.length + beVal l
  | [], v => by simp [beVal]
  | b :: l, v => by
    have h1 := beVal_go l (v * 256 + b.toNat)
    have h2 := beVal_go l b.toNat
    show l.foldl _ (v * 256 + b.toNat) = v * 256 ^ (l.length + 1) + l.foldl _ (0 * 256 + b.toNat)
    rw [h1, Nat.zero_mul, Nat.zero_add, h2, Nat.add_mul, Nat.pow_succ, Nat.mul_assoc v 256, Nat.mul_comm 256, Nat.add_assoc]
theorem beVal_cons (b : UInt8) (l : List UInt8) : beVal (b :: l) = b.toNat * 256 ^ l.length + beVal l := by
  have := beVal_go l b.toNat
  show l.foldl _ (0 * 256 + b.toNat) = _
  rw [Nat.zero_mul, Nat.zero_add, this]
theorem beVal_inj : ∀ (l m : List UInt8), l.length = m.length → beVal l = beVal m → l = m
  | [], [], _, _ => rfl
  | a :: l, b :: m, hl, h => by
    have hl' : l.length = m.length := by simpa using hl
    rw [beVal_cons, beVal_cons, ← hl'] at h
    have h1 := beVal_lt l
    have h2 := beVal_lt m
    rw [← hl'] at h2
    have e1 : (a.toNat * 256 ^ l.length + beVal l) / 256 ^ l.length = a.toNat := by
      rw [Nat.mul_comm, Nat.mul_add_div (by omega), Nat.div_eq_of_lt h1, Nat.add_zero]
    have e2 : (b.toNat * 256 ^ l.length + beVal m) / 256 ^ l.length = b.toNat := by
      rw [Nat.mul_comm, Nat.mul_add_div (by omega), Nat.div_eq_of_lt h2, Nat.add_zero]
    have e3 : a.toNat = b.toNat := by rw [← e1, ← e2, h]
    rw [e3] at h
    rw [UInt8.toNat_inj.1 e3, beVal_inj l m hl' (by omega)]
  | [], _ :: _, h, _ => by simp at h
  | _ :: _, [], h, _ => by simp at h
theorem be_len (m n : Nat) : (beBytes m n).length = n := by simp [beBytes]
theorem beVal_be (m : Nat) (h : m < 4294967296) : beVal (beBytes m 4) = m := by
  have e : beBytes m 4 = [UInt8.ofNat (m / 16777216), UInt8.ofNat (m / 65536), UInt8.ofNat (m / 256), UInt8.ofNat m] := by
    simp [beBytes, List.range_succ]
  rw [e]
  simp [beVal]
  omega
theorem wrapped_len (b : List UInt8) : (wrapped b).length = b.length + 4 := by simp [wrapped, be_len]

theorem xor_ne {x t : UInt8} (h : x = x ^^^ t) : t = 0 := by
  have h1 : x ^^^ x = x ^^^ (x ^^^ t) := by rw [← h]
  rw [UInt8.xor_self, ← UInt8.xor_assoc, UInt8.xor_self, UInt8.zero_xor] at h1
  exact h1.symm

/-- With one byte turned the sum is the bytes' no more. -/
theorem turned_iff (b : List UInt8) (j : Nat) (t : UInt8) (hj : j < (wrapped b).length) :
    (beVal (((wrapped b).set j ((wrapped b)[j] ^^^ t)).drop b.length) = more 0 (((wrapped b).set j ((wrapped b)[j] ^^^ t)).take b.length)) ↔ t = 0 := by
  have hm := more_lt 0 b
  have hw : wrapped b = b ++ beBytes (more 0 b) 4 := rfl
  rcases Nat.lt_or_ge j b.length with hjb | hjb
  · have hset : (wrapped b).set j ((wrapped b)[j] ^^^ t) = b.set j (b[j] ^^^ t) ++ beBytes (more 0 b) 4 := by
      rw [show (wrapped b)[j] = b[j] from List.getElem_append_left hjb, hw, List.set_append_left _ _ hjb]
    rw [hset, List.drop_left' (by simp), List.take_left' (by simp), beVal_be _ hm]
    have hsp : b = b.take j ++ b[j] :: b.drop (j + 1) := by simp
    have hsp2 : b.set j (b[j] ^^^ t) = b.take j ++ (b[j] ^^^ t) :: b.drop (j + 1) := List.set_eq_take_append_cons_drop .. |>.trans (by rw [if_pos hjb])
    constructor
    · intro h
      rw [hsp2] at h
      have h2 : more 0 (b.take j ++ b[j] :: b.drop (j + 1)) = more 0 (b.take j ++ (b[j] ^^^ t) :: b.drop (j + 1)) := by rw [← hsp]; exact h
      exact xor_ne (more_turn _ _ _ _ h2)
    · rintro rfl
      simp
  · have hjl : j - b.length < (beBytes (more 0 b) 4).length := by rw [wrapped_len] at hj; rw [be_len]; omega
    have hset : (wrapped b).set j ((wrapped b)[j] ^^^ t) = b ++ (beBytes (more 0 b) 4).set (j - b.length) ((beBytes (more 0 b) 4)[j - b.length] ^^^ t) := by
      rw [show (wrapped b)[j] = (beBytes (more 0 b) 4)[j - b.length] from List.getElem_append_right hjb, hw, List.set_append_right _ _ hjb]
    rw [hset, List.drop_left' rfl, List.take_left' rfl]
    constructor
    · intro h
      have h2 := beVal_inj _ _ (by simp) (h.trans (beVal_be (more 0 b) hm).symm)
      have h3 := congrArg (fun l => l[j - b.length]?) h2
      rw [List.getElem?_eq_getElem (by simpa using hjl), List.getElem?_eq_getElem hjl] at h3
      have h4 := Option.some.inj h3
      rw [List.getElem_set_self] at h4
      exact xor_ne h4.symm
    · rintro rfl
      simp [beVal_be _ hm]
end Go.Proofs.YtjkilpjdgjijiaaDoor
