/- Text as bytes and back; blocks that bear a mark (what '[]byte(s)' lays) are left alone by the writers. The document's Text: a text's bytes, and how many there are. -/
import Derived.Test.YtjkilpjdgjijiaaDoorRw
import Derived.Laws.IdiomStrings
import Derived.Laws.BytesArg
namespace Go.Proofs.YtjkilpjdgjijiaaDoor
open Go.RowKit
set_option linter.unusedVariables false

theorem own_low {w : World} {b b' : Nat} {e : TypeId} {size n : Nat} {v : Value} {xs : List Value} (h : w.ownsRow b e size v n xs) (hb : b' ≤ b) : w.ownsRow b' e size v n xs := by
  refine ⟨h.1, ?_⟩
  rcases h.2 with hn | ⟨g, cap, cur, rfl, hg, rest⟩
  · exact .inl hn
  · exact .inr ⟨g, cap, cur, rfl, Nat.le_trans hb hg, rest⟩
/-- Bytes as a text. -/
def bstr (l : List UInt8) : ByteArray := ⟨l.toArray⟩
theorem bstr_list (s : ByteArray) : bstr s.data.toList = s := rfl
theorem list_bstr (l : List UInt8) : (bstr l).data.toList = l := rfl
theorem bstr_inj {a b : List UInt8} (h : bstr a = bstr b) : a = b := by rw [← list_bstr a, ← list_bstr b, h]
/-- What '[]byte(s)' lays. -/
def sbC (w : World) (s : ByteArray) : Nat := grownCap w s.size 0 5
def sbO (w : World) (s : ByteArray) : Obj := .cells (bytesRow s (sbC w s)) 5 ((bytesRow s (sbC w s)).size, (bytesRow s (sbC w s)).size + 1)
def sbW (w : World) (s : ByteArray) : World := w.drew.alloc (sbO w s)
theorem sb_run (s : ByteArray) (l : List UInt8) (hl : s.data.toList = l) (w : World) : (convert 9 22 (.string s)).run Tryd.prog w = .ok (.slice (some ⟨w.heap.size, 0, none⟩) l.length (sbC w s)) (sbW w s) := by
  subst hl
  rw [run_bytes_of_string w 9 22 5 s Tryd.underlying9 Tryd.underlying22 Tryd.underlying5]
  rw [Array.length_toList]
  rfl
theorem sb_size (w : World) (s : ByteArray) : (sbW w s).heap.size = w.heap.size + 1 := by unfold sbW; simp
theorem sb_below (w : World) (s : ByteArray) : Below w.heap.size w (sbW w s) := (Below.refl _ _).drew.alloc (Nat.le_refl _) _
theorem sb_new (w : World) (s : ByteArray) : (sbW w s).heap[w.heap.size]? = some (sbO w s) := by
  show (w.drew.heap.push (sbO w s))[w.drew.heap.size]? = _
  exact Array.getElem?_push_size
/-- A marked block of bytes. -/
def Mk (w : World) (b : Nat) (l : List UInt8) : Prop := ∃ (cs : Array Value) (x y : Nat), w.heap[b]? = some (Obj.cells cs 5 (x, y)) ∧ (x, y) ≠ (0, 0) ∧ ∀ (k : Nat) (v : Value), (bv l)[k]? = some v → cs[k]? = some v
theorem sb_mk (w : World) (s : ByteArray) (l : List UInt8) (hl : s.data.toList = l) : Mk (sbW w s) w.heap.size l := by
  refine ⟨_, _, _, sb_new w s, ?_, ?_⟩
  · intro e
    injection e with e1 e2
    omega
  · intro k v hv
    subst hl
    have hk : k < s.data.toList.length := by
      have := (List.getElem?_eq_some_iff.1 hv).1
      rwa [bv_len] at this
    rw [bv_get hk] at hv
    rw [bytesRow_at s _ k (by simpa using hk), ← hv]
    simp
theorem Mk.sl {w : World} {b : Nat} {l : List UInt8} (h : Mk w b l) : Sl w (b + 1) (some ⟨b, 0, none⟩) (bv l) := by
  obtain ⟨cs, x, y, h1, _, h2⟩ := h
  refine .inr ⟨b, 0, rfl, by omega, fun k v hv => ?_⟩
  rw [Nat.zero_add, cell_of_row w b k cs _ (x, y) h1]
  exact h2 k v hv
theorem Mk.lt {w : World} {b : Nat} {l : List UInt8} (h : Mk w b l) : b < w.heap.size := by
  obtain ⟨cs, x, y, h1, _⟩ := h
  exact (Array.getElem?_eq_some_iff.1 h1).1
theorem bs_run {w : World} {B c : Nat} {A : Option Addr} {l : List UInt8} (h : Sl w B A (bv l)) : (convert 22 9 (.slice A l.length c)).run Tryd.prog w = .ok (.string (bstr l)) w := by
  cases A with
  | none =>
    have hl0 : l = [] := by
      rcases h with h | ⟨b, o, e, _⟩
      · simpa [bv] using h
      · cases e
    subst hl0
    exact run_convert_bytes_nil w 22 5 Tryd.underlying22 Tryd.underlying5 _ c _ Tryd.underlying9
  | some a =>
    refine run_convert_bytes_back w 22 9 5 a c l Tryd.underlying22 Tryd.underlying5 Tryd.underlying9 (fun j hj => ?_)
    obtain ⟨b, o, e, _, hc⟩ := h.byte hj
    injection e with e
    subst e
    have hadd : (⟨b, o, none⟩ : Addr).add j = ⟨b, o + j, none⟩ := by unfold Addr.add; split <;> simp_all
    rw [hadd]
    exact hc

/-- Marked blocks are as they were. -/
def KeepM (w w' : World) : Prop := ∀ (k : Nat) (cs : Array Value) (t : TypeId) (x y : Nat), (x, y) ≠ (0, 0) → w.heap[k]? = some (Obj.cells cs t (x, y)) → w'.heap[k]? = some (Obj.cells cs t (x, y))
theorem KeepM.refl (w : World) : KeepM w w := fun _ _ _ _ _ _ h => h
theorem KeepM.trans {a b c : World} (h : KeepM a b) (k : KeepM b c) : KeepM a c := fun i cs t x y hn hi => k i cs t x y hn (h i cs t x y hn hi)
theorem KeepM.fr {M : Nat → Prop} {w w' : World} (hf : Fr M w w') (hM : ∀ k, M k → ∃ cs t, w.heap[k]? = some (.cells cs t (0, 0))) : KeepM w w' := by
  intro k cs t x y hn hk
  refine hf.cells hk (fun hm => ?_)
  obtain ⟨cs', t', h⟩ := hM k hm
  rw [hk] at h
  injection h with h
  injection h with _ _ h
  exact hn h
theorem KeepM.below {w w' : World} (h : Below w.heap.size w w') : KeepM w w' := KeepM.fr (M := fun _ => False) (Fr.of_below h) (fun _ x => x.elim)
theorem KeepM.set {w : World} {g i : Nat} {cs : Array Value} {t : TypeId} (h : w.heap[g]? = some (.cells cs t (0, 0))) (u : Value) : KeepM w (w.setCell ⟨g, i, none⟩ u) :=
  KeepM.fr (fr_set w g i u) (fun k e => by subst e; exact ⟨_, _, h⟩)
theorem KeepM.grown {w w2 : World} {base size n : Nat} {e : TypeId} {v : Value} {xs : List Value} (ho : w.ownsRow base e size v n xs) (hg : w.grownBy w2 v.ownBlock) : KeepM w w2 :=
  KeepM.fr ((Fr.refl (fun k => v.ownBlock = some k) w).grown hg (fun k hk _ => hk)) (fun k hk => by
    rcases ho.2 with ⟨rfl, _⟩ | ⟨g, cap, cur, rfl, _, hh, _⟩
    · simp [Value.ownBlock] at hk
    · have : g = k := by simpa [Value.ownBlock] using hk
      subst this
      exact ⟨_, _, hh⟩)
theorem KeepM.alloc (w : World) (o : Obj) : KeepM w (w.alloc o) := KeepM.below ((Below.refl _ _).alloc (Nat.le_refl _) o)
theorem Mk.keep {w w' : World} {b : Nat} {l : List UInt8} (h : Mk w b l) (k : KeepM w w') : Mk w' b l := by
  obtain ⟨cs, x, y, h1, h2, h3⟩ := h
  exact ⟨cs, x, y, k _ _ _ _ _ h2 h1, h2, h3⟩

set_option maxHeartbeats 1000000 in
theorem byte_okM {w : World} {n0 g : Nat} {v : Value} {l : List UInt8} (h : Wr w n0 g v l) (x : UInt8) (hl : l.length ≤ 70368744177663) (hn0 : n0 ≤ w.heap.size) :
    Calls Tryd.prog 37 #[.pointer (some ⟨g, 0, none⟩), .int .u8 (x.toNat : Int)] w fun e w' => e = .returned (.tuple #[]) ∧ (∃ v', Wr w' n0 g v' (l ++ [x]) ∧ Below n0 w w') ∧ KeepM w w' := by
  have H := Lib.hid h
  have hc := (Blk.of_heap h.blk).cell 0
  have h63 : l.length + 1 ≤ maxLen := by unfold maxLen; omega
  have hby : (l.length + 1) * 1 ≤ 140737488355328 := by omega
  have H63 := Lib.hid h63
  have HBY := Lib.hid hby
  clear h h63 hby
  go_enter Tryd.func37, Tryd.ntmps37
  go_wp2_with (at_builtin; obtain ⟨i0, hi, hz0, hz1, hz2⟩ := info_parts Tryd.info_u8; refine wpList_append_lies _ rfl _ _ 22 rfl n0 5 i0 _ 1 1 Tryd.underlying22 hi hz0 hz1 hz2 rfl (by decide) v l.length (bv l) rfl (H.out.row.alloc _) ⟨w.heap.size, 0, none⟩ 1 1 [.int .u8 (x.toNat : Int)] rfl rfl (World.news_of_block (cs := #[.int .u8 (x.toNat : Int)]) (t := 5) (fr := (0, 0)) (heap_alloc_new w _)) (by simp [Value.oneCell']) (by omega) H63.out HBY.out (by simp; omega) (w.heap.size + 1) (by simp) ?_; intro gg cap w2 hown2 hgrow hat hlt2; clear hi hz0 hz1 hz2 i0; have hne : some g ≠ v.ownBlock := fun e => owns_ne H.out.row H.out.blk (by decide) e.symm; have hblk : w2.heap[g]? = some (.cells #[v] 72 (0, 0)) := (hgrow.block g (by simp; have := H.out.lt; omega) hne).trans ((Below.heap_alloc _ _ g H.out.lt).trans H.out.blk); have hc2 := (Blk.of_heap hblk).cell 0; have hf2 := (Blk.of_heap hblk).free 0)
  go_end0
  exact ⟨rfl, wr_close H.out hn0 hown2 hgrow, ((KeepM.alloc w _).trans (KeepM.grown (H.out.row.alloc _) hgrow)).trans (KeepM.set hblk _)⟩

set_option maxRecDepth 100000 in
set_option maxHeartbeats 1000000 in
theorem number_okM {w : World} {n0 g : Nat} {v : Value} {l : List UInt8} (h : Wr w n0 g v l) (x n : Nat) (hx : x < 18446744073709551616) (hn : n ≤ 8) (hl : l.length ≤ 70368744177000) (hn0 : n0 ≤ w.heap.size) :
    Calls Tryd.prog 59 #[.pointer (some ⟨g, 0, none⟩), .int .u64 (x : Int), .int .i64 (n : Int)] w fun e w' => e = .returned (.tuple #[]) ∧ (∃ v', Wr w' n0 g v' (l ++ beBytes x n) ∧ Below n0 w w') ∧ KeepM w w' := by
  have H := Lib.hid h
  have HK0 := Lib.hid (KeepM.refl w)
  clear h
  go_enter Tryd.func59, Tryd.ntmps59
  go_wp2_with fail
  refine (width_ok n hn w).mono ?_
  rintro e w' ⟨rfl, rfl⟩
  go_wp2_with fail
  go_loopw [10] (fun s wr => ∃ k : Nat, k ≤ n ∧ s = .int .i64 (k : Int) ∧ (∃ v', Hid (Wr wr n0 g v' (l ++ (beBytes x n).take k)) ∧ Below n0 w' wr) ∧ Hid (KeepM w' wr)) (fun s _ => n - (intOf s).toNat)
  case atStart => exact ⟨0, Nat.zero_le _, rfl, ⟨v, by simpa using H, Below.refl _ _⟩, HK0⟩
  case round =>
    obtain ⟨k, hk, rfl, ⟨v', hw, hb⟩, hkm⟩ := hrel
    by_cases hlt : k < n
    · have hi : (k : Int) < (n : Int) := by omega
      have hkl : k < (beBytes x n).length := by simp [beBytes]; exact hlt
      have hval := be_at x n k hkl
      go_wp2_with fail
      rw [hval]
      clear hval
      refine (byte_okM hw.out ((beBytes x n)[k]) (by simp [beBytes]; omega) (Nat.le_trans hn0 hb.size)).mono ?_
      rintro e w3 ⟨rfl, ⟨v3, hw3, hb3⟩, hk3⟩
      have HK3 := Lib.hid (hkm.out.trans hk3)
      clear hk3
      go_wp2_with fail
      go_roundw
      case rel => exact ⟨k + 1, by omega, by simp, ⟨v3, Lib.hid (by rw [List.take_succ_eq_append_getElem hkl, ← List.append_assoc]; exact hw3), hb.trans hb3⟩, HK3⟩
      case measure => simp [intOf]; omega
    · obtain rfl : k = n := by omega
      go_wp2_with fail
      go_end0
      refine ⟨rfl, ⟨v', ?_, hb⟩, hkm.out⟩
      have := hw.out
      rwa [List.take_of_length_le (by simp [beBytes])] at this

set_option maxHeartbeats 1000000 in
/-- Bytes that lie in a marked block. -/
theorem wbytes_mk {w : World} {n0 g bb c : Nat} {v : Value} {l b : List UInt8} (h : Wr w n0 g v l) (hb : Mk w bb b) (hl : l.length + 4 + b.length ≤ 70368744170000) (hn0 : n0 ≤ w.heap.size) :
    Calls Tryd.prog 38 #[.pointer (some ⟨g, 0, none⟩), .slice (some ⟨bb, 0, none⟩) b.length c] w fun e w' => e = .returned (.tuple #[]) ∧ ∃ v', Wr w' n0 g v' (l ++ lenBytes b) ∧ Below n0 w w' := by
  have H := Lib.hid h
  have HM := Lib.hid hb
  have hcv : IntKind.u64.wrap (b.length : Int) = (b.length : Int) := by rw [IntKind.wrap_u64]; omega
  clear h hb
  go_enter Tryd.func38, Tryd.ntmps38
  go_wp2_with fail
  refine (number_okM H.out b.length 4 (by omega) (by decide) (by omega) hn0).mono ?_
  rintro e w1 ⟨rfl, ⟨v1, h1, hb1⟩, hk1⟩
  have H1 := Lib.hid h1
  have hc := (Blk.of_heap h1.blk).cell 0
  have hl1 : (l ++ beBytes b.length 4).length = l.length + 4 := by simp [beBytes]
  have hsl := Lib.hid (HM.out.keep hk1).sl
  have LL : Hid (l.length + 4 + b.length ≤ 70368744177664) := by show _ ≤ _; omega
  have hr1 := h1.row
  rw [hl1] at hr1
  have HR := Lib.hid hr1
  have hs1 : n0 ≤ w1.heap.size := Nat.le_trans hn0 hb1.size
  clear h1 hr1 hk1
  go_wp2_with (at_builtin; refine wpList_append_bytesG rfl _ _ rfl n0 v1 _ (l ++ beBytes b.length 4) rfl HR.out (some ⟨bb, 0, none⟩) c (bb + 1) b rfl (fun e => by cases e) hsl.out LL.out hs1 ?_; intro v2 w2 ho2 hg2; have hne : some g ≠ v1.ownBlock := fun e => owns_ne H1.out.row H1.out.blk (by decide) e.symm; have hblk : w2.heap[g]? = some (.cells #[v1] 72 (0, 0)) := (hg2.block g H1.out.lt hne).trans H1.out.blk; obtain ⟨A2, c2, hv2⟩ := own_form ho2; subst hv2; have hc2 := (Blk.of_heap hblk).cell 0; have hf2 := (Blk.of_heap hblk).free 0)
  go_end0
  have f2 : Fr (fun k => k = g) w2 (w2.setCell ⟨g, 0, none⟩ (.slice A2 (l.length + 4 + b.length) c2)) := Fr.setCell (M := fun k => k = g) (p := ⟨g, 0, none⟩) (Fr.refl _ _) (fun _ => rfl) _
  refine ⟨rfl, _, ⟨H1.out.ge, cell_set hblk _, ?_⟩, ?_⟩
  · rw [show (l ++ lenBytes b).length = l.length + 4 + b.length by simp [lenBytes, beBytes]; omega]
    unfold lenBytes
    rw [← List.append_assoc]
    exact f2.owns ho2 (fun k hk e => owns_ne ho2 hblk (by decide) (by rw [hk, e]))
  · have hb3 : Below n0 w1 w2 := (Below.refl n0 w1).grown hg2 hs1 (fun k hk => owns_ge H1.out.row k hk)
    exact hb1.trans (hb3.setCell (p := ⟨g, 0, none⟩) H1.out.ge _)
end Go.Proofs.YtjkilpjdgjijiaaDoor
namespace Go.Proofs.YtjkilpjdgjijiaaDoor
open Go.RowKit
set_option linter.unusedVariables false

set_option maxRecDepth 100000 in
set_option maxHeartbeats 2000000 in
/-- Put(out, x, n): the number's bytes behind what out holds, out being the call's own. -/
theorem put_okM {w : World} {n0 : Nat} {v : Value} {l : List UInt8} (hown : w.ownsRow n0 5 1 v l.length (bv l)) (x n : Nat) (hx : x < 18446744073709551616) (hn : n ≤ 8) (hl : l.length ≤ 70368744177000) (hn0 : n0 ≤ w.heap.size) :
    Calls Tryd.prog 48 #[v, .int .u64 (x : Int), .int .i64 (n : Int)] w fun e w' => ∃ v', e = .returned v' ∧ w'.ownsRow n0 5 1 v' (l.length + n) (bv (l ++ beBytes x n)) ∧ Below n0 w w' ∧ KeepM w w' := by
  have HO := Lib.hid hown
  have HB0 : Hid (Below n0 w w ∧ KeepM w w) := ⟨Below.refl _ _, KeepM.refl _⟩
  have hn8 : ¬ ((8 : Int) < (n : Int)) := by omega
  clear hown
  go_enter Tryd.func48, Tryd.ntmps48
  go_wp2_with fail
  go_loopw [0, 7] (fun s0 s wr => ∃ k : Nat, k ≤ n ∧ s = .int .i64 ((n : Int) - 1 - (k : Int)) ∧ Hid (wr.ownsRow n0 5 1 s0 (l.length + k) (bv (l ++ (beBytes x n).take k))) ∧ Hid (Below n0 w wr ∧ KeepM w wr)) (fun _ s _ => (intOf s + 1).toNat)
  case atStart => exact ⟨0, Nat.zero_le _, by simp, by simpa using HO, HB0⟩
  case round =>
    obtain ⟨k, hk, rfl, ho, hb⟩ := hrel
    clear HO HB0
    obtain ⟨A6, c6, hv6⟩ := own_form ho.out
    subst hv6
    by_cases hlt : k < n
    · have hi : (0 : Int) ≤ (n : Int) - 1 - (k : Int) := by omega
      go_wp2_with fail
      go_loopw [8, 9] (fun s8 s wr' => ∃ j : Nat, j ≤ n - 1 - k ∧ s = .int .i64 (j : Int) ∧ s8 = .int .u64 ((x / 256 ^ j : Nat) : Int) ∧ wr' = wr) (fun _ s _ => (n - 1 - k) - (intOf s).toNat)
      case atStart => exact ⟨0, Nat.zero_le _, rfl, by simp, rfl⟩
      case round =>
        obtain ⟨j, hj, rfl, rfl, rfl⟩ := hrel
        by_cases hlt2 : j < n - 1 - k
        · have hi2 : (j : Int) < (n : Int) - 1 - (k : Int) := by omega
          have hdiv : ((x / 256 ^ j : Nat) : Int) / 256 = ((x / 256 ^ (j + 1) : Nat) : Int) := by
            rw [Nat.pow_succ, ← Nat.div_div_eq_div_mul]
            omega
          obtain ⟨y, hy⟩ : ∃ y, x / 256 ^ j = y := ⟨_, rfl⟩
          have hyl : y < 18446744073709551616 := by rw [← hy]; exact Nat.lt_of_le_of_lt (Nat.div_le_self _ _) hx
          have HD := Lib.hid hdiv
          rw [hy] at HD ⊢
          clear hy hdiv
          go_wp2_with fail
          go_roundw
          case rel => exact ⟨j + 1, by omega, by simp, by first | rw [← HD.out] | (rw [← HD.out]; rfl), trivial⟩
          case measure => simp [intOf]; omega
        · have hj2 : j = n - 1 - k := by omega
          subst hj2
          have hi2 : ¬ (((n - 1 - k : Nat) : Int) < (n : Int) - 1 - (k : Int)) := by omega
          have hkl : k < (beBytes x n).length := by rw [be_len]; exact hlt
          obtain ⟨y, hy⟩ : ∃ y, x / 256 ^ (n - 1 - k) = y := ⟨_, rfl⟩
          obtain ⟨b, hbe⟩ : ∃ b, (beBytes x n)[k] = b := ⟨_, rfl⟩
          have hby : (y : Int) % 256 = (b.toNat : Int) := by
            rw [← hbe, ← be_at x n k hkl, ← hy, Int.natCast_ediv, Int.natCast_pow, Int.pow_mul]
            rfl
          have hb2 : (b.toNat : Int) % 256 = (b.toNat : Int) := by have := b.toNat_lt; omega
          have hnx : l ++ (beBytes x n).take (k + 1) = l ++ (beBytes x n).take k ++ [b] := by rw [List.take_succ_eq_append_getElem hkl, hbe, List.append_assoc]
          have HNX := Lib.hid hnx
          rw [hy]
          have h63 : Hid (l.length + k + 1 ≤ maxLen) := by show _ ≤ _; unfold maxLen; omega
          have hbyt : Hid ((l.length + k + 1) * 1 ≤ 140737488355328) := by show _ ≤ _; omega
          clear hy hbe hnx
          go_wp2_with (at_builtin; obtain ⟨i0, hi, hz0, hz1, hz2⟩ := info_parts Tryd.info_u8; refine wpList_append_own _ rfl _ _ 22 rfl n0 5 i0 _ 1 1 Tryd.underlying22 hi hz0 hz1 hz2 rfl (by decide) (.slice A6 (l.length + k) c6) (l.length + k) (bv (l ++ (beBytes x n).take k)) rfl (ho.out.alloc _) ⟨wr.heap.size, 0, none⟩ 1 1 [.int .u8 (b.toNat : Int)] rfl rfl (World.news_of_block (cs := #[.int .u8 (b.toNat : Int)]) (t := 5) (fr := (0, 0)) (heap_alloc_new wr _)) (by simp [Value.oneCell']) h63.out hbyt.out (by simp; have := hb.out.1.size; omega) ?_; intro v3 W3 hown3 hgrow3 _; clear hi hz0 hz1 hz2 i0)
          have hk3 : KeepM wr W3 := (KeepM.alloc wr _).trans (KeepM.grown (ho.out.alloc _) hgrow3)
          have hb3 : Below n0 wr W3 := ((Below.refl n0 wr).alloc (Nat.le_trans hn0 hb.out.1.size) _).grown hgrow3 (by simp; have := hb.out.1.size; omega) (fun q hq => owns_ge (ho.out) q hq)
          go_roundw
          case rel => exact ⟨k + 1, by omega, by simp; omega, Lib.hid (by rw [HNX.out, bv_app]; exact hown3), Lib.hid ⟨hb.out.1.trans hb3, hb.out.2.trans hk3⟩⟩
          case measure => simp [intOf]; omega
    · have hkn : k = n := by omega
      subst hkn
      have hi : ¬ ((0 : Int) ≤ (k : Int) - 1 - (k : Int)) := by omega
      have hfin := ho.out
      rw [List.take_of_length_le (by rw [be_len]; exact Nat.le_refl _)] at hfin
      have HF := Lib.hid hfin
      clear hfin
      go_wp2_with fail
      go_ret
      exact ⟨_, rfl, HF.out, hb.out.1, hb.out.2⟩

set_option maxHeartbeats 1000000 in
theorem rbytes_mk {w : World} {n0 bb c : Nat} {v : Value} {l b : List UInt8} (h : Own w n0 v l) (hb : Mk w bb b) (hl : l.length + 4 + b.length ≤ 70368744170000) (hn0 : n0 ≤ w.heap.size) :
    Calls Tryd.prog 46 #[v, .slice (some ⟨bb, 0, none⟩) b.length c] w fun e w' => ∃ v', e = .returned v' ∧ Own w' n0 v' (l ++ lenBytes b) ∧ Below n0 w w' := by
  have H := Lib.hid h
  have HM := Lib.hid hb
  have hcv : IntKind.u64.wrap (b.length : Int) = (b.length : Int) := by rw [IntKind.wrap_u64]; omega
  clear h hb
  go_enter Tryd.func46, Tryd.ntmps46
  go_wp2_with fail
  refine (put_okM H.out b.length 4 (by omega) (by decide) (by omega) hn0).mono ?_
  rintro e w1 ⟨v1, rfl, h1, hb1, hk1⟩
  have H1 : Hid (Own w1 n0 v1 (l ++ beBytes b.length 4)) := Lib.hid (by unfold Own; rw [List.length_append, be_len]; exact h1)
  have hsl := Lib.hid (HM.out.keep hk1).sl
  have LL : Hid ((l ++ beBytes b.length 4).length + b.length ≤ 70368744177664) := by show _ ≤ _; rw [List.length_append, be_len]; omega
  have hs1 : n0 ≤ w1.heap.size := Nat.le_trans hn0 hb1.size
  clear h1 hk1
  go_wp2_with (at_builtin; refine wpList_append_bytes rfl _ _ rfl n0 v1 _ (l ++ beBytes b.length 4) rfl H1.out (some ⟨bb, 0, none⟩) c (bb + 1) b rfl (fun e => by cases e) hsl.out LL.out hs1 ?_; intro v2 w2 ho2 hb2)
  go_ret
  refine ⟨v2, rfl, ?_, hb1.trans hb2⟩
  unfold Own lenBytes
  rw [← List.append_assoc, List.length_append]
  exact ho2

set_option maxHeartbeats 1000000 in
theorem rtext_own {w : World} {n0 : Nat} {v : Value} {l : List UInt8} (h : Own w n0 v l) (s : ByteArray) (b : List UInt8) (hs : s.data.toList = b) (hl : l.length + 4 + b.length ≤ 70368744170000) (hn0 : n0 ≤ w.heap.size) :
    Calls Tryd.prog 44 #[v, .string s] w fun e w' => ∃ v', e = .returned v' ∧ Own w' n0 v' (l ++ lenBytes b) ∧ Below n0 w w' := by
  have hsb := sb_run s b hs
  have hbl := sb_below w s
  have HB := Lib.hid (rbytes_mk (c := sbC w s) (h.below hbl) (sb_mk w s b hs) hl (Nat.le_trans hn0 hbl.size))
  have HBL := Lib.hid hbl
  clear h hs hbl
  go_enter Tryd.func44, Tryd.ntmps44
  go_wp2_with fail
  refine HB.out.mono ?_
  rintro e w1 ⟨v1, rfl, h1, hb1⟩
  go_wp2
  go_ret
  exact ⟨v1, rfl, h1, (HBL.out.mono hn0).trans hb1⟩
end Go.Proofs.YtjkilpjdgjijiaaDoor
