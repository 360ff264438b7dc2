/- octet's Reader: Read, take, Number. -/
import Derived.Test.YtjkilpjdgjijiaaDoorWriter
import Derived.Laws.Bits64b
namespace Go.Proofs.YtjkilpjdgjijiaaDoor
open Go.RowKit
set_option linter.unusedVariables false

/-- Bytes in a block of bytes; nil where there are none. -/
def RB (w : World) (A : Option Addr) (l : List UInt8) (c : Nat) : Prop :=
  (A = none ∧ l = [] ∧ c = 0) ∨ ∃ b o cs fr, A = some ⟨b, o, none⟩ ∧ w.heap[b]? = some (.cells cs 5 fr) ∧ l.length ≤ c ∧ ∀ k u, (bv l)[k]? = some u → cs[o + k]? = some u
theorem RB.sl {w : World} {A : Option Addr} {l : List UInt8} {c : Nat} (h : RB w A l c) : Sl w w.heap.size A (bv l) := by
  rcases h with ⟨_, rfl, _⟩ | ⟨b, o, cs, fr, rfl, hb, _, hk⟩
  · exact .inl rfl
  · refine .inr ⟨b, o, rfl, (Array.getElem?_eq_some_iff.1 hb).1, fun k u hu => ?_⟩
    unfold World.cell?
    simp only [hb]
    exact hk k u hu
theorem RB.keep {w w' : World} {A : Option Addr} {l : List UInt8} {c g : Nat} {cs : Array Value} {t : TypeId} {fr : Nat × Nat} (h : RB w A l c) (hg : w.heap[g]? = some (.cells cs t fr)) (ht : t ≠ 5) (hf : Fr (fun k => k = g) w w') : RB w' A l c := by
  rcases h with h | ⟨b, o, cs', fr', rfl, hb, hl, hk⟩
  · exact .inl h
  · refine .inr ⟨b, o, cs', fr', rfl, hf.cells hb (fun e => ?_), hl, hk⟩
    subst e
    rw [hb] at hg
    simp at hg
    exact ht hg.2.1.symm
theorem RB.below {w w' : World} {A : Option Addr} {l : List UInt8} {c : Nat} (h : RB w A l c) (hb : Below w.heap.size w w') : RB w' A l c := by
  rcases h with h | ⟨b, o, cs', fr', rfl, hbb, hl, hk⟩
  · exact .inl h
  · exact .inr ⟨b, o, cs', fr', rfl, (Fr.of_below (M := fun _ => False) hb).cells hbb (fun x => x), hl, hk⟩
theorem RB.of_own {w : World} {base c : Nat} {A : Option Addr} {l : List UInt8} (h : w.ownsRow base 5 1 (.slice A l.length c) l.length (bv l)) : RB w A l c := by
  rcases h.2 with ⟨e, h0⟩ | ⟨g, cap, cur, e, hb, hh, hn, hc, hsz, ht⟩
  · injection e with e1 e2 e3
    exact .inl ⟨e1, List.eq_nil_of_length_eq_zero h0, e3⟩
  · injection e with e1 e2 e3
    subst e3
    refine .inr ⟨g, 0, cur, (0, 0), e1, hh, hn, fun k u hu => ?_⟩
    rw [← ht, List.getElem?_take] at hu
    rw [Nat.zero_add]
    split at hu
    · simpa using hu
    · cases hu
/-- A reader at block g. -/
structure Rdr (w : World) (g : Nat) (A : Option Addr) (c : Nat) (l : List UInt8) (wrong : Bool) : Prop where
  blk : w.heap[g]? = some (.cells #[.slice A l.length c, .bool wrong] 99 (0, 0))
  bytes : RB w A l c

theorem read_ok (A : Option Addr) (c B : Nat) (l : List UInt8) (w : World) (h : Sl w B A (bv l)) (hn : A = none → c = 0) (hl : l.length ≤ 70368744177664) (hB : B ≤ w.heap.size) :
    Calls Tryd.prog 24 #[.slice A l.length c] w fun e w' => ∃ g A' c', e = .returned (.pointer (some ⟨g, 0, none⟩)) ∧ Rdr w' g A' c' l false ∧ w.heap.size ≤ g ∧ Below w.heap.size w w' := by
  have HC := Lib.hid (clone_bytes A c B l w h hn hl hB)
  go_enter Tryd.func24, Tryd.ntmps24
  go_wp2_with fail
  refine HC.out.mono ?_
  rintro e w1 ⟨⟨A1, c1, rfl, hown⟩, hb⟩
  go_wp2
  go_ret
  exact ⟨w1.heap.size, A1, c1, rfl, ⟨heap_alloc_new _ _, (RB.of_own hown).below ((Below.refl _ _).alloc (Nat.le_refl _) _)⟩, hb.size, hb.alloc hb.size _⟩

theorem bv_drop (l : List UInt8) (k : Nat) : bv (l.drop k) = (bv l).drop k := by simp [bv]
theorem bv_take (l : List UInt8) (k : Nat) : bv (l.take k) = (bv l).take k := by simp [bv]
theorem take_close {w : World} {g n b o c : Nat} {l : List UInt8} {cs : Array Value} {fr : Nat × Nat} (h : Rdr w g (some ⟨b, o, none⟩) c l false) (hb : w.heap[b]? = some (.cells cs 5 fr)) (hle : n ≤ l.length) (o' c' : Nat) (ho : l.length = n ∨ o' = o + n) (hc : l.length - n ≤ c') :
    RB (w.setCell ⟨g, 0, none⟩ (.slice (some ⟨b, o', none⟩) (l.length - n) c')) (some ⟨b, o, none⟩) (l.take n) n ∧ (∃ A2 c2, Rdr (w.setCell ⟨g, 0, none⟩ (.slice (some ⟨b, o', none⟩) (l.length - n) c')) g A2 c2 (l.drop n) false) ∧
      Fr (fun k => k = g) w (w.setCell ⟨g, 0, none⟩ (.slice (some ⟨b, o', none⟩) (l.length - n) c')) := by
  have f : Fr (fun k => k = g) w (w.setCell ⟨g, 0, none⟩ (.slice (some ⟨b, o', none⟩) (l.length - n) c')) := Fr.setCell (M := fun k => k = g) (p := ⟨g, 0, none⟩) (Fr.refl _ _) (fun _ => rfl) _
  rcases h.bytes with ⟨e, _⟩ | ⟨b', o2, cs', fr', e, hb', hl, hk⟩
  · cases e
  · injection e with e
    injection e with e1 e2
    subst e1 e2
    have hbl := cell_set (i := 0) h.blk (.slice (some ⟨b, o', none⟩) (l.length - n) c')
    have hb2 : RB w (some ⟨b, o', none⟩) (l.drop n) c' := by
      refine .inr ⟨b, o', cs', fr', rfl, hb', by simpa using hc, fun k u hu => ?_⟩
      rcases ho with ho | rfl
      · rw [List.drop_of_length_le (by omega)] at hu
        simp [bv] at hu
      · rw [bv_drop, List.getElem?_drop] at hu
        rw [Nat.add_assoc]
        exact hk _ _ hu
    have hb1 : RB w (some ⟨b, o, none⟩) (l.take n) n := by
      refine .inr ⟨b, o, cs', fr', rfl, hb', by simp; omega, fun k u hu => ?_⟩
      rw [bv_take, List.getElem?_take] at hu
      split at hu
      · exact hk _ _ hu
      · cases hu
    refine ⟨hb1.keep h.blk (by decide) f, ⟨_, c', ?_, hb2.keep h.blk (by decide) f⟩, f⟩
    rw [List.length_drop]
    exact hbl

set_option maxHeartbeats 1000000 in
theorem take_ok {w : World} {g n : Nat} {A : Option Addr} {c : Nat} {l : List UInt8} (h : Rdr w g A c l false) (hn : 0 < n) (hle : n ≤ l.length) (hl : l.length ≤ 70368744177664) :
    Calls Tryd.prog 56 #[.pointer (some ⟨g, 0, none⟩), .int .i64 (n : Int)] w fun e w' => e = .returned (.slice A n n) ∧ RB w' A (l.take n) n ∧ (∃ A' c', Rdr w' g A' c' (l.drop n) false) ∧ Fr (fun k => k = g) w w' := by
  rcases h.bytes with ⟨_, h0, _⟩ | ⟨b, o, cs, fr, rfl, hb, hlc, hk⟩
  · rw [h0] at hle; simp at hle; omega
  · have hc := (Blk.of_heap h.blk).cell
    have hf := (Blk.of_heap h.blk).free
    have H := Lib.hid h
    have h1 : ¬ ((l.length : Int) < (n : Int)) := by omega
    have h2 : (n : Int) ≤ (c : Int) := by omega
    have h3 : (n : Int) ≤ (l.length : Int) := by omega
    clear h
    go_enter Tryd.func56, Tryd.ntmps56
    go_wp2_with fail
    · go_ret
      exact ⟨rfl, take_close H.out hb hle o 0 (.inl (by omega)) (by omega)⟩
    · go_ret
      exact ⟨rfl, take_close H.out hb hle (o + n) (c - n) (.inr rfl) (by omega)⟩

def beVal (l : List UInt8) : Nat := l.foldl (fun v b => v * 256 + b.toNat) 0
theorem beVal_snoc (l : List UInt8) (b : UInt8) : beVal (l ++ [b]) = beVal l * 256 + b.toNat := by simp [beVal]
theorem beVal_from : ∀ (l : List UInt8) (v : Nat), l.foldl (fun v b => v * 256 + b.toNat) v < (v + 1) * 256 ^ l.length
  | [], v => by simp
  | b :: l, v => by
    have h := beVal_from l (v * 256 + b.toNat)
    have hb := b.toNat_lt
    refine Nat.lt_of_lt_of_le h ?_
    rw [List.length_cons, Nat.pow_succ, Nat.mul_comm (256 ^ l.length) 256, ← Nat.mul_assoc]
    exact Nat.mul_le_mul_right _ (by omega)
theorem beVal_lt (l : List UInt8) : beVal l < 256 ^ l.length := by
  have := beVal_from l 0
  rw [Nat.zero_add, Nat.one_mul] at this
  exact this
theorem or_byte (m : Nat) (x : UInt8) (hm : m < 256 ^ 7) : bits BinOp.or IntKind.u64 ((m : Int) * 256) (IntKind.u64.wrap (x.toNat : Int)) = ((m * 256 + x.toNat : Nat) : Int) := by
  have hx := x.toNat_lt
  have hm' : m < 72057594037927936 := hm
  rw [show IntKind.u64.wrap (x.toNat : Int) = (x.toNat : Int) by rw [IntKind.wrap_u64]; omega, show (m : Int) * 256 = ((m * 256 : Nat) : Int) by omega, bits_or_u64_nat _ _ (by omega) (by omega)]
  have h := Nat.two_pow_add_eq_or_of_lt (i := 8) (b := x.toNat) (by omega) m
  rw [show (2 : Nat) ^ 8 * m = m * 256 by omega] at h
  rw [h]

set_option maxRecDepth 100000 in
set_option maxHeartbeats 1000000 in
theorem rnumber_ok {w : World} {g n : Nat} {A : Option Addr} {c : Nat} {l : List UInt8} (h : Rdr w g A c l false) (hn : 0 < n) (hn8 : n ≤ 8) (hle : n ≤ l.length) (hl : l.length ≤ 70368744177664) :
    Calls Tryd.prog 54 #[.pointer (some ⟨g, 0, none⟩), .int .i64 (n : Int)] w fun e w' => e = .returned (.int .u64 (beVal (l.take n) : Int)) ∧ (∃ A' c', Rdr w' g A' c' (l.drop n) false) ∧ Fr (fun k => k = g) w w' := by
  have H := Lib.hid h
  clear h
  go_enter Tryd.func54, Tryd.ntmps54
  go_wp2_with fail
  refine (width_ok n hn8 w).mono ?_
  rintro e w' ⟨rfl, rfl⟩
  go_wp2_with fail
  refine (take_ok H.out hn hle hl).mono ?_
  rintro e w1 ⟨rfl, hb, hr, hf⟩
  have hsl := hb.sl
  have hln : (l.take n).length = n := by rw [List.length_take]; omega
  have HR := Lib.hid hr
  have HF := Lib.hid hf
  clear hr hf hb
  go_wp2_with fail
  go_loopw [5, 13] (fun s5 s wr => ∃ k : Nat, k ≤ n ∧ s = .int .i64 (k : Int) ∧ s5 = .int .u64 (beVal ((l.take n).take k) : Int) ∧ wr = w1) (fun _ s _ => n - (intOf s).toNat)
  case atStart => exact ⟨0, Nat.zero_le _, rfl, rfl, rfl⟩
  case round =>
    obtain ⟨k, hk, rfl, rfl, rfl⟩ := hrel
    by_cases hlt : k < n
    · have hkl : k < (l.take n).length := by omega
      obtain ⟨b1, o1, rfl, hb1, hc1⟩ := hsl.byte hkl
      have hi : (k : Int) < (n : Int) := by omega
      obtain ⟨m, hm⟩ : ∃ m, beVal ((l.take n).take k) = m := ⟨_, rfl⟩
      have hml : m < 256 ^ 7 := by
        rw [← hm]
        refine Nat.lt_of_lt_of_le (beVal_lt _) (Nat.pow_le_pow_right (by decide) ?_)
        simp; omega
      have HM := Lib.hid hm
      rw [hm]
      clear hm
      have hkl2 : k < l.length := by omega
      have hor := or_byte m l[k] hml
      go_wp2_with fail
      go_roundw
      case rel =>
        refine ⟨k + 1, by omega, by simp, ?_, trivial⟩
        rw [List.take_succ_eq_append_getElem hkl, beVal_snoc, HM.out, List.getElem_take, Int.natCast_add, Int.natCast_mul]
        rfl
      case measure => simp [intOf]; omega
    · have hkn : k = n := by omega
      subst hkn
      rw [show (l.take k).take k = l.take k from List.take_of_length_le (by omega)]
      go_wp2
      go_ret
      exact ⟨rfl, HR.out, HF.out⟩
end Go.Proofs.YtjkilpjdgjijiaaDoor
