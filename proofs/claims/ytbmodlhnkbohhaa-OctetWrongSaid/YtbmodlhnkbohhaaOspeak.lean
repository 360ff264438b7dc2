/- octet's Writer.Bytes; tidelinelaw01.speaks; great. -/
import Derived.Test.YtbmodlhnkbohhaaWriter
import Derived.Test.YtbmodlhnkbohhaaAppB
import Derived.Test.YtbmodlhnkbohhaaSame
namespace Go.Proofs.Ytbmodlhnkbohhaa
open Go.RowKit
set_option linter.unusedVariables false

theorem Sl.new_block1 (w : World) (l : List UInt8) (fr : Nat × Nat) : Sl (w.alloc (.cells (bv l).toArray 5 fr)) (w.heap.size + 1) (some ⟨w.heap.size, 0, none⟩) (bv l) := by
  refine .inr ⟨w.heap.size, 0, rfl, by omega, fun k u hu => ?_⟩
  rw [Nat.zero_add]
  have h := heap_alloc_new w (.cells (bv l).toArray 5 fr)
  unfold World.cell?
  simp only [h]
  simpa using hu

/-- Of the old blocks only the writer's own, and its row's, may have turned. -/
def WFr (g : Nat) (v v' : Value) (w w' : World) : Prop := Fr (fun k => k = g ∨ v.ownBlock = some k) w w' ∧ ∀ k, v'.ownBlock = some k → v.ownBlock = some k ∨ w.heap.size ≤ k
theorem WFr.refl (g : Nat) (v : Value) (w : World) : WFr g v v w w := ⟨Fr.refl _ _, fun _ h => .inl h⟩
theorem WFr.trans {g : Nat} {v v1 v2 : Value} {w w1 w2 : World} (h : WFr g v v1 w w1) (k : WFr g v1 v2 w1 w2) : WFr g v v2 w w2 := by
  refine ⟨h.1.trans k.1 ?_, ?_⟩
  · rintro i hi (e | e)
    · exact .inl e
    · rcases h.2 i e with e2 | e2
      · exact .inr e2
      · omega
  · intro i hi
    rcases k.2 i hi with e | e
    · exact h.2 i e
    · exact .inr (Nat.le_trans h.1.size e)
theorem wr_closeF {w w2 : World} {n0 g gg cap : Nat} {v : Value} {l : List UInt8} {x : UInt8} {o : Obj} (H : Wr w n0 g v l) (hn0 : n0 ≤ w.heap.size)
    (hown : w2.ownsRow n0 5 1 (.slice (some ⟨gg, 0, none⟩) (l.length + 1) cap) (l.length + 1) (bv l ++ [.int .u8 (x.toNat : Int)])) (hgrow : (w.alloc o).grownBy w2 v.ownBlock) (hat : v.ownBlock = some gg ∨ gg = w.heap.size + 1) :
    ∃ v', Wr (w2.setCell ⟨g, 0, none⟩ (.slice (some ⟨gg, 0, none⟩) (l.length + 1) cap)) n0 g v' (l ++ [x]) ∧ Below n0 w (w2.setCell ⟨g, 0, none⟩ (.slice (some ⟨gg, 0, none⟩) (l.length + 1) cap)) ∧
      WFr g v v' w (w2.setCell ⟨g, 0, none⟩ (.slice (some ⟨gg, 0, none⟩) (l.length + 1) cap)) := by
  have hne : some g ≠ v.ownBlock := fun e => owns_ne H.row H.blk (by decide) e.symm
  have hblk : w2.heap[g]? = some (.cells #[v] 95 (0, 0)) :=
    (hgrow.block g (by simp; have := H.lt; omega) hne).trans ((Below.heap_alloc _ _ g H.lt).trans H.blk)
  have f2 : Fr (fun k => k = g) w2 (w2.setCell ⟨g, 0, none⟩ (.slice (some ⟨gg, 0, none⟩) (l.length + 1) cap)) := Fr.setCell (M := fun k => k = g) (p := ⟨g, 0, none⟩) (Fr.refl _ _) (fun _ => rfl) _
  have f1 : Fr (fun k => k = g ∨ v.ownBlock = some k) w w2 := ((Fr.refl _ w).alloc o).grown hgrow (fun k hk _ => .inr hk)
  refine ⟨.slice (some ⟨gg, 0, none⟩) (l.length + 1) cap, ⟨H.ge, cell_set hblk _, ?_⟩, ?_, f1.trans f2 (fun i _ e => .inl e), ?_⟩
  · rw [List.length_append, bv_app]
    exact f2.owns hown (fun k hk e => owns_ne hown hblk (by decide) (by rw [hk, e]))
  · have hb1 : Below n0 w w2 := (((Below.refl n0 w).alloc hn0 o)).grown hgrow (by simp; omega) (fun k hk => by
      rcases H.row.2 with ⟨e, _⟩ | ⟨g', c', cur, e, hb', _⟩
      · rw [e] at hk; simp [Value.ownBlock] at hk
      · rw [e] at hk; simp [Value.ownBlock] at hk; omega)
    exact hb1.setCell (p := ⟨g, 0, none⟩) H.ge _
  · intro k hk
    simp [Value.ownBlock] at hk
    subst hk
    rcases hat with h | h
    · exact .inl h
    · exact .inr (by omega)

set_option maxHeartbeats 1000000 in
theorem byte_okF {w : World} {n0 g : Nat} {v : Value} {l : List UInt8} (h : Wr w n0 g v l) (x : UInt8) (hl : l.length ≤ 70368744177663) (hn0 : n0 ≤ w.heap.size) :
    Calls Try.prog 66 #[.pointer (some ⟨g, 0, none⟩), .int .u8 (x.toNat : Int)] w fun e w' => e = .returned (.tuple #[]) ∧ ∃ v', Wr w' n0 g v' (l ++ [x]) ∧ Below n0 w w' ∧ WFr g v v' w w' := by
  have H := Lib.hid h
  have hc := (Blk.of_heap h.blk).cell 0
  have h63 : l.length + 1 ≤ maxLen := by unfold maxLen; omega
  have hby : (l.length + 1) * 1 ≤ 140737488355328 := by omega
  have H63 := Lib.hid h63
  have HBY := Lib.hid hby
  clear h h63 hby
  go_enter Try.func66, Try.ntmps66
  go_wp2_with (at_builtin; obtain ⟨i0, hi, hz0, hz1, hz2⟩ := info_parts Try.info_u8; refine wpList_append_lies _ rfl _ _ 23 rfl n0 5 i0 _ 1 1 Try.underlying23 hi hz0 hz1 hz2 rfl (by decide) v l.length (bv l) rfl (H.out.row.alloc _) ⟨w.heap.size, 0, none⟩ 1 1 [.int .u8 (x.toNat : Int)] rfl rfl (World.news_of_block (cs := #[.int .u8 (x.toNat : Int)]) (t := 5) (fr := (0, 0)) (heap_alloc_new w _)) (by simp [Value.oneCell']) (by omega) H63.out HBY.out (by simp; omega) (w.heap.size + 1) (by simp) ?_; intro gg cap w2 hown2 hgrow hat hlt2; clear hi hz0 hz1 hz2 i0; have hne : some g ≠ v.ownBlock := fun e => owns_ne H.out.row H.out.blk (by decide) e.symm; have hblk : w2.heap[g]? = some (.cells #[v] 95 (0, 0)) := (hgrow.block g (by simp; have := H.out.lt; omega) hne).trans ((Below.heap_alloc _ _ g H.out.lt).trans H.out.blk); have hc2 := (Blk.of_heap hblk).cell 0; have hf2 := (Blk.of_heap hblk).free 0)
  go_end0
  exact ⟨rfl, wr_closeF H.out hn0 hown2 hgrow hat⟩

set_option maxRecDepth 100000 in
set_option maxHeartbeats 1000000 in
theorem number_okF {w : World} {n0 g : Nat} {v : Value} {l : List UInt8} (h : Wr w n0 g v l) (x n : Nat) (hx : x < 18446744073709551616) (hn : n ≤ 8) (hl : l.length ≤ 70368744177000) (hn0 : n0 ≤ w.heap.size) :
    Calls Try.prog 64 #[.pointer (some ⟨g, 0, none⟩), .int .u64 (x : Int), .int .i64 (n : Int)] w fun e w' => e = .returned (.tuple #[]) ∧ ∃ v', Wr w' n0 g v' (l ++ beBytes x n) ∧ Below n0 w w' ∧ WFr g v v' w w' := by
  have H := Lib.hid h
  clear h
  go_enter Try.func64, Try.ntmps64
  go_wp2_with fail
  refine (width_ok n hn w).mono ?_
  rintro e w' ⟨rfl, rfl⟩
  go_wp2_with fail
  go_loopw [10] (fun s wr => ∃ k : Nat, k ≤ n ∧ s = .int .i64 (k : Int) ∧ ∃ v', Hid (Wr wr n0 g v' (l ++ (beBytes x n).take k)) ∧ Below n0 w' wr ∧ WFr g v v' w' wr) (fun s _ => n - (intOf s).toNat)
  case atStart => exact ⟨0, Nat.zero_le _, rfl, v, by simpa using H, Below.refl _ _, WFr.refl _ _ _⟩
  case round =>
    obtain ⟨k, hk, rfl, v', hw, hb, hF⟩ := hrel
    by_cases hlt : k < n
    · have hi : (k : Int) < (n : Int) := by omega
      have hkl : k < (beBytes x n).length := by simp [beBytes]; exact hlt
      have hval := be_at x n k hkl
      go_wp2_with fail
      rw [hval]
      clear hval
      refine (byte_okF hw.out ((beBytes x n)[k]) (by simp [beBytes]; omega) (Nat.le_trans hn0 hb.size)).mono ?_
      rintro e w3 ⟨rfl, v3, hw3, hb3, hF3⟩
      go_wp2_with fail
      go_roundw
      case rel => exact ⟨k + 1, by omega, by simp, v3, Lib.hid (by rw [List.take_succ_eq_append_getElem hkl, ← List.append_assoc]; exact hw3), hb.trans hb3, hF.trans hF3⟩
      case measure => simp [intOf]; omega
    · obtain rfl : k = n := by omega
      go_wp2_with fail
      go_end0
      refine ⟨rfl, v', ?_, hb, hF⟩
      have := hw.out
      rwa [List.take_of_length_le (by simp [beBytes])] at this
set_option maxHeartbeats 1000000 in
/-- Bytes, into a writer: what is put lies in a block of bytes beyond the writer's own. -/
theorem wbytes_ok {w : World} {n0 g : Nat} {v : Value} {l : List UInt8} (h : Wr w n0 g v l) (k c : Nat) (b : List UInt8) (hbk : w.heap[k]? = some (.cells (bv b).toArray 5 (0, 0))) (hkg : k ≠ g) (hkv : v.ownBlock ≠ some k) (hl : l.length + 4 + b.length ≤ 70368744170000) (hn0 : n0 ≤ w.heap.size) :
    Calls Try.prog 54 #[.pointer (some ⟨g, 0, none⟩), .slice (some ⟨k, 0, none⟩) b.length c] w fun e w' => e = .returned (.tuple #[]) ∧ ∃ v', Wr w' n0 g v' (l ++ beBytes b.length 4 ++ b) ∧ Below n0 w w' := by
  have H := Lib.hid h
  have hcv : IntKind.u64.wrap (b.length : Int) = (b.length : Int) := by rw [IntKind.wrap_u64]; omega
  clear h
  go_enter Try.func54, Try.ntmps54
  go_wp2_with fail
  refine (number_okF H.out b.length 4 (by omega) (by decide) (by omega) hn0).mono ?_
  rintro e w1 ⟨rfl, v1, h1, hb1, hF1⟩
  have H1 := Lib.hid h1
  have hc := (Blk.of_heap h1.blk).cell 0
  have hl1 : (l ++ beBytes b.length 4).length = l.length + 4 := by simp [beBytes]
  have hbk1 := hF1.1.cells hbk (by rintro (e | e); exact hkg e; exact hkv e)
  have hsl : Sl w1 (k + 1) (some ⟨k, 0, none⟩) (bv b) := by
    refine .inr ⟨k, 0, rfl, by omega, fun q u hu => ?_⟩
    rw [Nat.zero_add]
    unfold World.cell?
    simp only [hbk1]
    simpa using hu
  clear hbk hbk1
  have LL : Hid (l.length + 4 + b.length ≤ 70368744177664) := by show _ ≤ _; omega
  have hr1 := h1.row
  rw [hl1] at hr1
  have HR := Lib.hid hr1
  have hs1 : n0 ≤ w1.heap.size := Nat.le_trans hn0 hb1.size
  clear h1 hr1
  go_wp2_with (at_builtin; refine wpList_append_bytesG rfl _ _ rfl n0 v1 _ (l ++ beBytes b.length 4) rfl HR.out (some ⟨k, 0, none⟩) c (k + 1) b rfl (by simp) hsl LL.out hs1 ?_; intro v2 w2 ho2 hg2; have hne : some g ≠ v1.ownBlock := fun e => owns_ne H1.out.row H1.out.blk (by decide) e.symm; have hblk : w2.heap[g]? = some (.cells #[v1] 95 (0, 0)) := (hg2.block g H1.out.lt hne).trans H1.out.blk; obtain ⟨A2, c2, hv2⟩ := own_form ho2; subst hv2; have hc2 := (Blk.of_heap hblk).cell 0; have hf2 := (Blk.of_heap hblk).free 0)
  go_end0
  have f2 : Fr (fun k => k = g) w2 (w2.setCell ⟨g, 0, none⟩ (.slice A2 (l.length + 4 + b.length) c2)) := Fr.setCell (M := fun k => k = g) (p := ⟨g, 0, none⟩) (Fr.refl _ _) (fun _ => rfl) _
  refine ⟨rfl, _, ⟨H1.out.ge, cell_set hblk _, ?_⟩, ?_⟩
  · rw [show (l ++ beBytes b.length 4 ++ b).length = l.length + 4 + b.length by simp [beBytes]; omega]
    exact f2.owns ho2 (fun k hk e => owns_ne ho2 hblk (by decide) (by rw [hk, e]))
  · have hb3 : Below n0 w1 w2 := (Below.refl n0 w1).grown hg2 hs1 (fun k hk => owns_ge H1.out.row k hk)
    exact hb1.trans (hb3.setCell (p := ⟨g, 0, none⟩) H1.out.ge _)

set_option maxRecDepth 100000 in
set_option maxHeartbeats 1000000 in
theorem ospeak_any (w : World) :
    Calls Try.prog 34 #[] w fun e w' => e = .returned (.bool true) ∧ Below w.heap.size w w' := by
  go_enter Try.func34, Try.ntmps34
  go_wp2_with fail
  have B0 := ((Below.refl w.heap.size w).alloc (Nat.le_refl _) (.cells #[.slice none 0 0] 95)).alloc (by simp) (.cells (bv [1, 2]).toArray 5)
  have D0 : Wr ((w.alloc (.cells #[.slice none 0 0] 95)).alloc (.cells (bv [1, 2]).toArray 5)) w.heap.size w.heap.size (.slice none 0 0) [] :=
    ⟨Nat.le_refl _, (Below.heap_alloc _ _ _ (by simp)).trans (heap_alloc_new w _), World.ownsRow_nil _ _ _ _⟩
  refine (wbytes_ok D0 (w.heap.size + 1) 2 [1, 2] (by have := heap_alloc_new (w.alloc (.cells #[.slice none 0 0] 95)) (.cells (bv [1, 2]).toArray 5); simpa using this) (by omega) (by simp [Value.ownBlock]) (by decide) B0.size).mono ?_
  rintro e W1 ⟨rfl, v1, D1, hb1⟩
  have B1 := B0.trans hb1
  go_wp2_with fail
  refine (out_ok D1 (by decide) B1.size).mono ?_
  rintro e W2 ⟨⟨A2, c2, rfl, hown⟩, hb2⟩
  have B2 := B1.trans (hb2.mono B1.size)
  have B3 := B2.alloc B2.size (.cells (bv [0, 0, 0, 2, 1, 2]).toArray 5)
  have hle : ([] ++ beBytes 2 4 ++ [1, 2] : List UInt8) = [0, 0, 0, 2, 1, 2] := by decide
  rw [show ([1, 2] : List UInt8).length = 2 from rfl, hle] at hown
  rw [show ([1, 2] : List UInt8).length = 2 from rfl, hle]
  have hsm := same_any A2 (some ⟨W2.heap.size, 0, none⟩) c2 6 (W2.heap.size + 1) [0, 0, 0, 2, 1, 2] [0, 0, 0, 2, 1, 2] (W2.alloc (.cells (bv [0, 0, 0, 2, 1, 2]).toArray 5)) (((Sl.of_own hown).alloc (Nat.le_refl _) _).more (by omega)) (Sl.new_block1 W2 [0, 0, 0, 2, 1, 2] (0, 0)) (by decide) (by decide)
  have HSM := Lib.hid hsm
  clear hsm hle hown
  go_wp2_with fail
  refine HSM.out.mono ?_
  rintro e W4 ⟨he, n4, rfl⟩
  have he : e = .returned (.bool true) := by rw [he]; simp
  subst he
  go_wp2
  go_ret
  exact ⟨rfl, bdrewN B3 n4⟩

/-- A thing that is put, or taken, as its cells. -/
structure Th where
  k : Int
  n : Int
  v : Int
  A : Option Addr
  c : Nat
  len : Nat
abbrev Th.cells (x : Th) : List Value := [.int .i64 x.k, .int .i64 x.n, .int .u64 x.v, .slice x.A x.len x.c]
def thcells (l : List Th) : List Value := l.flatMap Th.cells
theorem thcells_at (l : List Th) (k : Nat) (x : Th) (h : l[k]? = some x) : (thcells l)[k * 4]? = some (.int .i64 x.k) ∧ (thcells l)[k * 4 + 1]? = some (.int .i64 x.n) ∧ (thcells l)[k * 4 + 2]? = some (.int .u64 x.v) ∧ (thcells l)[k * 4 + 3]? = some (.slice x.A x.len x.c) := by
  induction l generalizing k with
  | nil => simp at h
  | cons q l ih =>
    have e : thcells (q :: l) = q.cells ++ thcells l := rfl
    cases k with
    | zero =>
      simp at h
      subst h
      simp [e, Th.cells]
    | succ k =>
      have h' : l[k]? = some x := by simpa using h
      have hi := ih k h'
      rw [e]
      have hq : (Th.cells q).length = 4 := rfl
      refine ⟨?_, ?_, ?_, ?_⟩
      · rw [List.getElem?_append_right (by rw [hq]; omega), hq, show (k + 1) * 4 - 4 = k * 4 by omega]; exact hi.1
      · rw [List.getElem?_append_right (by rw [hq]; omega), hq, show (k + 1) * 4 + 1 - 4 = k * 4 + 1 by omega]; exact hi.2.1
      · rw [List.getElem?_append_right (by rw [hq]; omega), hq, show (k + 1) * 4 + 2 - 4 = k * 4 + 2 by omega]; exact hi.2.2.1
      · rw [List.getElem?_append_right (by rw [hq]; omega), hq, show (k + 1) * 4 + 3 - 4 = k * 4 + 3 by omega]; exact hi.2.2.2
/-- A slice of things, in blocks below B. -/
def Ths (w : World) (B : Nat) (A : Option Addr) (l : List Th) : Prop :=
  l = [] ∨ ∃ b o, A = some ⟨b, o, none⟩ ∧ b < B ∧ ∀ k u, (thcells l)[k]? = some u → w.cell? ⟨b, o + k, none⟩ = some u
theorem Ths.below {w w' : World} {B : Nat} {A : Option Addr} {l : List Th} (h : Ths w B A l) (hb : Below B w w') : Ths w' B A l := by
  rcases h with h | ⟨b, o, e, hbB, hk⟩
  · exact .inl h
  · exact .inr ⟨b, o, e, hbB, fun k u hu => (hb.cell (p := ⟨b, o + k, none⟩) hbB).trans (hk k u hu)⟩
theorem Ths.at {w : World} {B : Nat} {A : Option Addr} {l : List Th} (h : Ths w B A l) {k : Nat} (hk : k < l.length) : ∃ b o, A = some ⟨b, o, none⟩ ∧ b < B ∧ w.cell? ⟨b, o + k * 4, none⟩ = some (.int .i64 l[k].k) ∧ w.cell? ⟨b, o + k * 4 + 1, none⟩ = some (.int .i64 l[k].n) ∧ w.cell? ⟨b, o + k * 4 + 2, none⟩ = some (.int .u64 l[k].v) ∧ w.cell? ⟨b, o + k * 4 + 3, none⟩ = some (.slice l[k].A l[k].len l[k].c) := by
  rcases h with h | ⟨b, o, e, hb, hr⟩
  · rw [h] at hk; simp at hk
  · obtain ⟨h1, h2, h3, h4⟩ := thcells_at l k l[k] (List.getElem?_eq_getElem hk)
    exact ⟨b, o, e, hb, hr _ _ h1, by rw [Nat.add_assoc]; exact hr _ _ h2, by rw [Nat.add_assoc]; exact hr _ _ h3, by rw [Nat.add_assoc]; exact hr _ _ h4⟩

set_option maxRecDepth 100000 in
set_option maxHeartbeats 1000000 in
theorem great_any (A : Option Addr) (c : Nat) (l : List Th) (w : World) (h : Ths w w.heap.size A l) :
    Calls Try.prog 35 #[.slice A l.length c] w fun e w' => (e = .returned (.bool true) ∨ (e = .returned (.bool false) ∧ l.length ≤ 60)) ∧ Below w.heap.size w w' := by
  by_cases h6 : (60 : Int) < (l.length : Int)
  · go_enter Try.func35, Try.ntmps35
    go_wp2
    go_ret
    exact ⟨.inl rfl, Below.refl _ _⟩
  · go_enter Try.func35, Try.ntmps35
    go_wp2_with fail
    go_loopw [10] (fun s wr => ∃ k : Nat, k ≤ l.length ∧ s = .int .i64 (k : Int) ∧ Below w.heap.size w wr) (fun s _ => l.length - (intOf s).toNat)
    case atStart => exact ⟨0, Nat.zero_le _, rfl, Below.refl _ _⟩
    case round =>
      obtain ⟨k, hk, rfl, hb⟩ := hrel
      by_cases hlt : k < l.length
      · obtain ⟨b, o, rfl, hbB, hc1, hc2, hc3, hc4⟩ := (h.below hb).at hlt
        have hi : (k : Int) < ((l.length : Nat) : Int) := by omega
        have hb2 := hb.alloc hb.size (.cells #[.int .i64 l[k].k, .int .i64 l[k].n, .int .u64 l[k].v, .slice l[k].A l[k].len l[k].c] 65)
        by_cases ht : (300 : Int) < ((l[k].len : Nat) : Int)
        · go_wp2_with fail
          go_ret
          exact ⟨.inl rfl, hb2⟩
        · go_wp2_with fail
          go_roundw
          case rel => exact ⟨k + 1, by omega, by simp, hb2⟩
          case measure => simp [intOf]; omega
      · go_wp2_with fail
        go_ret
        exact ⟨.inr ⟨rfl, by omega⟩, hb⟩
end Go.Proofs.Ytbmodlhnkbohhaa
