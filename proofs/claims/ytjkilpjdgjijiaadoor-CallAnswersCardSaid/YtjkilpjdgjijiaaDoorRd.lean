/- octet's Reader by what is left of it: take, Number, Byte, Int, Flag, told, Bytes, End. -/
import Derived.Test.YtjkilpjdgjijiaaDoorWrong
import Derived.Test.YtjkilpjdgjijiaaDoorPs
namespace Go.Proofs.YtjkilpjdgjijiaaDoor
open Go.RowKit
set_option linter.unusedVariables false

/-- A reader at block g, of which s is left. -/
def Rd (w : World) (g : Nat) (s : PS) : Prop := (s = none ∧ Gone w g) ∨ ∃ l A c, s = some l ∧ Rdr w g A c l false
theorem Rd.gone {w : World} {g : Nat} (h : Gone w g) : Rd w g none := .inl ⟨rfl, h⟩
theorem Rd.left {w : World} {g c : Nat} {A : Option Addr} {l : List UInt8} (h : Rdr w g A c l false) : Rd w g (some l) := .inr ⟨l, A, c, rfl, h⟩
theorem Rd.lt {w : World} {g : Nat} {s : PS} (h : Rd w g s) : g < w.heap.size := by
  rcases h with ⟨_, h⟩ | ⟨l, A, c, _, h⟩
  · exact h.lt
  · exact (Array.getElem?_eq_some_iff.1 h.blk).1
theorem Rdr.keep {w w' : World} {g c : Nat} {A : Option Addr} {l : List UInt8} (h : Rdr w g A c l false) (hb : Below w.heap.size w w') : Rdr w' g A c l false :=
  ⟨(Fr.of_below (M := fun _ => False) hb).cells h.blk (fun x => x), h.bytes.below hb⟩
theorem Rd.below {w w' : World} {g : Nat} {s : PS} (h : Rd w g s) (hb : Below w.heap.size w w') : Rd w' g s := by
  rcases h with ⟨rfl, h⟩ | ⟨l, A, c, rfl, h⟩
  · exact .gone (h.below hb)
  · exact .left (h.keep hb)
/-- A store into a block that is neither the reader's nor one of bytes. -/
theorem Rd.far {w w' : World} {g b : Nat} {s : PS} {cs : Array Value} {t : TypeId} {fr : Nat × Nat} (h : Rd w g s) (hb : w.heap[b]? = some (.cells cs t fr)) (h1 : t ≠ 5) (h2 : t ≠ 99) (hf : Fr (fun k => k = b) w w') : Rd w' g s := by
  have hgb : ∀ {xs : Array Value}, w.heap[g]? = some (.cells xs 99 (0, 0)) → ¬ g = b := by
    rintro xs hg rfl
    rw [hg] at hb
    simp at hb
    exact h2 hb.2.1.symm
  rcases h with ⟨rfl, h⟩ | ⟨l, A, c, rfl, h⟩
  · exact .gone (hf.cells h (hgb h))
  · exact .left ⟨hf.cells h.blk (hgb h.blk), h.bytes.keep hb h1 hf⟩
theorem RB.nil {w : World} {A : Option Addr} {l : List UInt8} {c : Nat} (h : RB w A l c) : A = none → c = 0 := by
  rintro rfl
  rcases h with ⟨_, _, e⟩ | ⟨b, o, cs, fr, e, _⟩
  · exact e
  · cases e

set_option maxHeartbeats 1000000 in
theorem take_short {w : World} {g n : Nat} {A : Option Addr} {c : Nat} {l : List UInt8} (h : Rdr w g A c l false) (hn : l.length < n) (hn2 : n ≤ 70368744177664) :
    Calls Tryd.prog 56 #[.pointer (some ⟨g, 0, none⟩), .int .i64 (n : Int)] w fun e w' => e = .returned (.slice none 0 0) ∧ Gone w' g ∧ Fr (fun k => k = g) w w' := by
  have hc := (Blk.of_heap h.blk).cell
  have H := Lib.hid h
  have h1 : (l.length : Int) < (n : Int) := by omega
  clear h
  go_enter Tryd.func56, Tryd.ntmps56
  go_wp2_with fail
  refine (fail_ok H.out.blk).mono ?_
  rintro e w1 ⟨rfl, h2, hf⟩
  go_wp2
  go_ret
  exact ⟨rfl, h2, hf⟩

set_option maxHeartbeats 1000000 in
theorem take_zero {w : World} {g : Nat} {A : Option Addr} {c : Nat} {l : List UInt8} (h : Rdr w g A c l false) (hl : l.length ≤ 70368744177664) :
    Calls Tryd.prog 56 #[.pointer (some ⟨g, 0, none⟩), .int .i64 0] w fun e w' => (∃ A' c', e = .returned (.slice A' 0 c') ∧ RB w' A' [] c') ∧ (∃ A' c', Rdr w' g A' c' l false) ∧ Fr (fun k => k = g) w w' := by
  have hc := (Blk.of_heap h.blk).cell
  have hf := (Blk.of_heap h.blk).free
  have H := Lib.hid h
  have h1 : ¬ ((l.length : Int) < 0) := by omega
  have f : ∀ u, Fr (fun k => k = g) w (w.setCell ⟨g, 0, none⟩ u) := fun u => Fr.setCell (M := fun k => k = g) (p := ⟨g, 0, none⟩) (Fr.refl _ _) (fun _ => rfl) _
  have HFR := Lib.hid f
  rcases h.bytes with ⟨rfl, rfl, rfl⟩ | ⟨b, o, cs, fr, rfl, hb, hlc, hk⟩
  · clear h f
    go_enter Tryd.func56, Tryd.ntmps56
    go_wp2
    go_ret
    have hbl := cell_set (i := 0) H.out.blk (.slice none 0 0)
    exact ⟨⟨none, 0, rfl, .inl ⟨rfl, rfl, rfl⟩⟩, ⟨none, 0, hbl, .inl ⟨rfl, rfl, rfl⟩⟩, HFR.out _⟩
  · have h3 : (0 : Int) ≤ (c : Int) := by omega
    have h4 : ((l.length : Nat) : Int) ≤ (c : Int) := by omega
    have HK := Lib.hid hk
    have HLC := Lib.hid hlc
    clear h f hk hlc
    go_enter Tryd.func56, Tryd.ntmps56
    go_wp2
    go_ret
    have hbl := cell_set (i := 0) H.out.blk (.slice (some ⟨b, o, none⟩) l.length c)
    refine ⟨⟨_, _, rfl, ?_⟩, ⟨_, _, hbl, ?_⟩, HFR.out _⟩
    · have e : RB w (some ⟨b, o, none⟩) [] 0 := .inr ⟨b, o, cs, fr, rfl, hb, Nat.le_refl _, fun k u hu => by simp [bv] at hu⟩
      exact e.keep H.out.blk (by decide) (HFR.out _)
    · exact H.out.bytes.keep H.out.blk (by decide) (HFR.out _)

theorem take_any {w : World} {g : Nat} {s : PS} (h : Rd w g s) (n : Nat) (hl : psLen s ≤ 70368744177664) (hn : n ≤ 70368744177664) :
    Calls Tryd.prog 56 #[.pointer (some ⟨g, 0, none⟩), .int .i64 (n : Int)] w fun e w' => (∃ A c, e = .returned (.slice A (ptake n s).1.length c) ∧ RB w' A (ptake n s).1 c) ∧ Rd w' g (ptake n s).2 ∧ Fr (fun k => k = g) w w' := by
  rcases h with ⟨rfl, h⟩ | ⟨l, A, c, rfl, h⟩
  · refine (take_wrong h _).mono ?_
    rintro e w' ⟨rfl, rfl⟩
    exact ⟨⟨none, 0, rfl, .inl ⟨rfl, rfl, rfl⟩⟩, .gone h, Fr.refl _ _⟩
  · by_cases hs : l.length < n
    · have e : ptake n (some l) = ([], none) := if_pos hs
      rw [e]
      refine (take_short h hs hn).mono ?_
      rintro e w' ⟨rfl, h2, hf⟩
      exact ⟨⟨none, 0, rfl, .inl ⟨rfl, rfl, rfl⟩⟩, .gone h2, hf⟩
    · have e : ptake n (some l) = (l.take n, some (l.drop n)) := if_neg hs
      have hln : (l.take n).length = n := by rw [List.length_take]; omega
      rw [e]
      rcases Nat.eq_zero_or_pos n with h0 | h0
      · subst h0
        refine (take_zero h hl).mono ?_
        rintro e w' ⟨⟨A', c', rfl, hr⟩, ⟨A2, c2, h2⟩, hf⟩
        exact ⟨⟨A', c', rfl, hr⟩, .left h2, hf⟩
      · refine (take_ok h h0 (by omega) hl).mono ?_
        rintro e w' ⟨rfl, hr, ⟨A2, c2, h2⟩, hf⟩
        exact ⟨⟨A, n, by rw [hln], hr⟩, .left h2, hf⟩

set_option maxHeartbeats 1000000 in
theorem number_short {w : World} {g n : Nat} {A : Option Addr} {c : Nat} {l : List UInt8} (h : Rdr w g A c l false) (hn8 : n ≤ 8) (hle : l.length < n) :
    Calls Tryd.prog 54 #[.pointer (some ⟨g, 0, none⟩), .int .i64 (n : Int)] w fun e w' => e = .returned (.int .u64 0) ∧ Gone w' g ∧ Fr (fun k => k = g) w w' := by
  have H := Lib.hid h
  have HLE := Lib.hid hle
  clear h hle
  go_enter Tryd.func54, Tryd.ntmps54
  go_wp2_with fail
  refine (width_ok n hn8 w).mono ?_
  rintro e w' ⟨rfl, rfl⟩
  go_wp2_with fail
  refine (take_short H.out HLE.out (by omega)).mono ?_
  rintro e w2 ⟨rfl, h2, hf⟩
  go_wp2_with fail
  refine wp_loop_once ?_
  go_wp2
  go_ret
  exact ⟨rfl, h2, hf⟩

theorem num_any {w : World} {g : Nat} {s : PS} (h : Rd w g s) (n : Nat) (hn : 0 < n) (hn8 : n ≤ 8) (hl : psLen s ≤ 70368744177664) :
    Calls Tryd.prog 54 #[.pointer (some ⟨g, 0, none⟩), .int .i64 (n : Int)] w fun e w' => e = .returned (.int .u64 ((pnum n s).1 : Int)) ∧ Rd w' g (pnum n s).2 ∧ Fr (fun k => k = g) w w' := by
  rcases h with ⟨rfl, h⟩ | ⟨l, A, c, rfl, h⟩
  · refine (number_wrong h _).mono ?_
    rintro e w' ⟨rfl, rfl⟩
    exact ⟨rfl, .gone h, Fr.refl _ _⟩
  · by_cases hs : l.length < n
    · have e : pnum n (some l) = (0, none) := if_pos hs
      rw [e]
      refine (number_short h hn8 hs).mono ?_
      rintro e w' ⟨rfl, h2, hf⟩
      exact ⟨rfl, .gone h2, hf⟩
    · have e : pnum n (some l) = (beVal (l.take n), some (l.drop n)) := if_neg hs
      rw [e]
      refine (rnumber_ok h hn hn8 (by omega) hl).mono ?_
      rintro e w' ⟨rfl, ⟨A2, c2, h2⟩, hf⟩
      exact ⟨rfl, .left h2, hf⟩

/-- The number x is taken, r is left. -/
def IsNum (n : Nat) (s : PS) (x : Nat) (r : PS) : Prop := pnum n s = (x, r)
theorem isNum (n : Nat) (s : PS) : ∃ x r, IsNum n s x r := ⟨_, _, rfl⟩
theorem IsNum.lt {n : Nat} {s r : PS} {x : Nat} (h : IsNum n s x r) : x < 256 ^ n := by have := pnum_lt n s; rw [show pnum n s = (x, r) from h] at this; exact this
theorem IsNum.len {n : Nat} {s r : PS} {x : Nat} (h : IsNum n s x r) : psLen r ≤ psLen s := by have := pnum_len n s; rw [show pnum n s = (x, r) from h] at this; exact this

theorem num_is {w : World} {g n x : Nat} {s r : PS} (h : Rd w g s) (hx : IsNum n s x r) (hn : 0 < n) (hn8 : n ≤ 8) (hl : psLen s ≤ 70368744177664) :
    Calls Tryd.prog 54 #[.pointer (some ⟨g, 0, none⟩), .int .i64 (n : Int)] w fun e w' => e = .returned (.int .u64 (x : Int)) ∧ Rd w' g r ∧ Fr (fun k => k = g) w w' := by
  have hc := num_any h n hn hn8 hl
  rw [show pnum n s = (x, r) from hx] at hc
  exact hc

set_option maxHeartbeats 1000000 in
theorem rbyte_is {w : World} {g x : Nat} {s r : PS} (h : Rd w g s) (hx : IsNum 1 s x r) (hl : psLen s ≤ 70368744177664) :
    Calls Tryd.prog 25 #[.pointer (some ⟨g, 0, none⟩)] w fun e w' => e = .returned (.int .u8 (x : Int)) ∧ Rd w' g r ∧ Fr (fun k => k = g) w w' := by
  have hlt : x < 256 := hx.lt
  have H := Lib.hid h
  have HX := Lib.hid hx
  clear h hx
  go_enter Tryd.func25, Tryd.ntmps25
  go_wp2_with fail
  refine (num_is H.out HX.out (by decide) (by decide) hl).mono ?_
  rintro e w' ⟨rfl, h2, hf⟩
  go_wp2
  go_ret
  exact ⟨ret_int (by first | rfl | omega), h2, hf⟩

/-- The int of eight bytes. -/
def i64of (x : Nat) : Int := wrap64 (x : Int)
set_option maxHeartbeats 1000000 in
theorem rint_is {w : World} {g x : Nat} {s r : PS} (h : Rd w g s) (hx : IsNum 8 s x r) (hl : psLen s ≤ 70368744177664) :
    Calls Tryd.prog 27 #[.pointer (some ⟨g, 0, none⟩)] w fun e w' => e = .returned (.int .i64 (i64of x)) ∧ Rd w' g r ∧ Fr (fun k => k = g) w w' := by
  have H := Lib.hid h
  have HX := Lib.hid hx
  clear h hx
  go_enter Tryd.func27, Tryd.ntmps27
  go_wp2_with fail
  refine (num_is H.out HX.out (by decide) (by decide) hl).mono ?_
  rintro e w' ⟨rfl, h2, hf⟩
  go_wp2
  go_ret
  exact ⟨ret_int (by unfold i64of; rfl), h2, hf⟩

/-- A truth is taken. -/
def IsFlag (s : PS) (x : Bool) (r : PS) : Prop := pflag s = (x, r)
theorem isFlag (s : PS) : ∃ x r, IsFlag s x r := ⟨_, _, rfl⟩
theorem IsFlag.len {s r : PS} {x : Bool} (h : IsFlag s x r) : psLen r ≤ psLen s := by have := pflag_len s; rw [show pflag s = (x, r) from h] at this; exact this

/-- How many there are, is taken. -/
def IsCount (m : Nat) (s : PS) (x : Nat) (r : PS) : Prop := pcount m s = (x, r)
theorem isCount (m : Nat) (s : PS) : ∃ x r, IsCount m s x r := ⟨_, _, rfl⟩
theorem IsCount.len {m x : Nat} {s r : PS} (h : IsCount m s x r) : psLen r ≤ psLen s := by have := pcount_len m s; rw [show pcount m s = (x, r) from h] at this; exact this
theorem IsCount.le {m x : Nat} {s r : PS} (h : IsCount m s x r) : x ≤ m := by have := pcount_le m s; rw [show pcount m s = (x, r) from h] at this; exact this
set_option maxHeartbeats 1000000 in
theorem told_is {w : World} {g m x : Nat} {s r : PS} (h : Rd w g s) (hx : IsCount m s x r) (hl : psLen s ≤ 70368744177664) (hm : m ≤ 1000000) :
    Calls Tryd.prog 57 #[.pointer (some ⟨g, 0, none⟩), .int .i64 (m : Int)] w fun e w' => e = .returned (.int .i64 (x : Int)) ∧ Rd w' g r ∧ Fr (fun k => k = g) w w' := by
  obtain ⟨y, r0, h0⟩ := isNum 4 s
  have hlt : y < 4294967296 := h0.lt
  have hp : pcount m s = if m < y then (0, none) else (y, r0) := by unfold pcount; rw [show pnum 4 s = (y, r0) from h0]
  rw [IsCount, hp] at hx
  have hz : r0 = none → y = 0 := by
    rintro rfl
    have := h0
    unfold IsNum at this
    cases s with
    | none => injection this with e _; exact e.symm
    | some l =>
      change (if l.length < 4 then ((0, none) : Nat × PS) else (beVal (l.take 4), some (l.drop 4))) = _ at this
      split at this
      · injection this with e _; exact e.symm
      · injection this with _ e; cases e
  have H := Lib.hid h
  have HX := Lib.hid hx
  have H0 := Lib.hid h0
  have HZ := Lib.hid hz
  clear h hx h0 hp hz
  go_enter Tryd.func57, Tryd.ntmps57
  go_wp2_with fail
  refine (num_is H.out H0.out (by decide) (by decide) hl).mono ?_
  rintro e w' ⟨rfl, h2, hf⟩
  rcases h2 with ⟨rfl, h2⟩ | ⟨l, A, c, rfl, h2⟩
  · have hy := HZ.out rfl
    subst hy
    have hx := HX.out
    rw [if_neg (by omega)] at hx
    obtain ⟨rfl, rfl⟩ := Prod.mk.inj hx
    have hc := (Blk.of_heap h2).cell
    clear hx HX
    go_wp2
    go_ret
    exact ⟨rfl, .gone h2, hf⟩
  · have hc := (Blk.of_heap h2.blk).cell
    have H2 := Lib.hid h2
    by_cases h1 : m < y
    · have hi : (m : Int) < (y : Int) := by omega
      have hx := HX.out
      rw [if_pos h1] at hx
      obtain ⟨rfl, rfl⟩ := Prod.mk.inj hx
      clear hx HX h2
      go_wp2_with fail
      refine (fail_ok H2.out.blk).mono ?_
      rintro e w2 ⟨rfl, h3, hf2⟩
      go_wp2
      go_ret
      exact ⟨rfl, .gone h3, hf.trans hf2 (fun _ _ e => e)⟩
    · have hi : ¬ ((m : Int) < (y : Int)) := by omega
      have hx := HX.out
      rw [if_neg h1] at hx
      obtain ⟨rfl, rfl⟩ := Prod.mk.inj hx
      clear hx HX h2
      go_wp2
      go_ret
      exact ⟨rfl, .left H2.out, hf⟩

/-- Bytes are taken. -/
def IsBytes (m : Nat) (s : PS) (x : List UInt8) (r : PS) : Prop := pbytes m s = (x, r)
theorem isBytes (m : Nat) (s : PS) : ∃ x r, IsBytes m s x r := ⟨_, _, rfl⟩
theorem IsBytes.len {m : Nat} {x : List UInt8} {s r : PS} (h : IsBytes m s x r) : psLen r ≤ psLen s := by have := pbytes_len m s; rw [show pbytes m s = (x, r) from h] at this; exact this
theorem IsBytes.le {m : Nat} {x : List UInt8} {s r : PS} (h : IsBytes m s x r) : x.length ≤ m := by have := pbytes_le m s; rw [show pbytes m s = (x, r) from h] at this; exact this
set_option maxHeartbeats 1000000 in
theorem rbytes_is {w : World} {g m : Nat} {x : List UInt8} {s r : PS} (h : Rd w g s) (hx : IsBytes m s x r) (hl : psLen s ≤ 70368744177664) (hm : m ≤ 1000000) :
    Calls Tryd.prog 26 #[.pointer (some ⟨g, 0, none⟩), .int .i64 (m : Int)] w fun e w' => NewBytes w.heap.size x e w' ∧ Rd w' g r ∧ Fr (fun k => k = g) w w' := by
  obtain ⟨n, r0, h0⟩ := isCount m s
  have hn : n ≤ m := h0.le
  have hp : pbytes m s = ptake n r0 := by unfold pbytes; rw [show pcount m s = (n, r0) from h0]
  rw [IsBytes, hp] at hx
  have hl0 : psLen r0 ≤ 70368744177664 := Nat.le_trans h0.len hl
  have H := Lib.hid h
  have HX := Lib.hid hx
  have H0 := Lib.hid h0
  clear h hx h0 hp
  go_enter Tryd.func26, Tryd.ntmps26
  go_wp2_with fail
  refine (told_is H.out H0.out hl hm).mono ?_
  rintro e w1 ⟨rfl, h2, hf⟩
  have H2 := Lib.hid h2
  clear h2
  go_wp2_with fail
  refine (take_any H2.out n hl0 (by omega)).mono ?_
  rintro e w2 ⟨⟨A, c, rfl, hb⟩, h3, hf3⟩
  rw [HX.out] at hb h3 ⊢
  dsimp only at hb h3 ⊢
  have hxl : x.length ≤ n := by have := ptake_le n r0; rw [HX.out] at this; exact this
  have H3 := Lib.hid h3
  have HB := Lib.hid hb
  have HNIL := Lib.hid hb.nil
  clear h3 hb
  go_wp2_with fail
  refine (clone_bytes A c w2.heap.size x w2 HB.out.sl HNIL.out (by omega) (Nat.le_refl _)).mono ?_
  rintro e w3 ⟨⟨A1, c1, rfl, hown⟩, hb3⟩
  go_wp2
  go_ret
  have hsz := Nat.le_trans hf.size hf3.size
  refine ⟨⟨A1, c1, rfl, ?_⟩, H3.out.below hb3, (hf.trans hf3 (fun _ _ e => e)).thenBelow hb3⟩
  refine ⟨hown.1, ?_⟩
  rcases hown.2 with h0 | ⟨g', cap', cur, e1, e2, r⟩
  · exact .inl h0
  · exact .inr ⟨g', cap', cur, e1, Nat.le_trans hsz e2, r⟩

set_option maxHeartbeats 1000000 in
theorem rend_any {w : World} {g : Nat} {s : PS} (h : Rd w g s) :
    Calls Tryd.prog 28 #[.pointer (some ⟨g, 0, none⟩)] w fun e w' => e = .returned (.int .i64 (if s = some [] then 0 else 3)) ∧ w' = w := by
  rcases h with ⟨rfl, h⟩ | ⟨l, A, c, rfl, h⟩
  · exact end_wrong h
  · have hc := (Blk.of_heap h.blk).cell
    cases l with
    | nil =>
      rw [if_pos rfl]
      clear h
      go_enter Tryd.func28, Tryd.ntmps28
      go_wp2
      go_ret
      exact ⟨rfl, rfl⟩
    | cons x l =>
      rw [if_neg (by simp)]
      obtain ⟨n, hn⟩ : ∃ n, (x :: l).length = n := ⟨_, rfl⟩
      have hp : (0 : Int) < (n : Int) := by rw [← hn, List.length_cons]; omega
      rw [hn] at hc
      clear h hn
      go_enter Tryd.func28, Tryd.ntmps28
      go_wp2
      go_ret
      exact ⟨rfl, rfl⟩
end Go.Proofs.YtjkilpjdgjijiaaDoor
