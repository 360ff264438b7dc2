/- octet's Writer: Int, Flag, Bytes of whatever lies ahead of the writer's own memory. -/
import Derived.Test.YtjkilpjdgjijiaaDoorWrap
import Derived.Test.YtjkilpjdgjijiaaDoorPs
import Derived.Test.YtjkilpjdgjijiaaDoorAppB
namespace Go.Proofs.YtjkilpjdgjijiaaDoor
open Go.RowKit
set_option linter.unusedVariables false

/-- The number of eight bytes that an int is put as. -/
def u64of (z : Int) : Nat := (z % 18446744073709551616).toNat
theorem u64_wrap (z : Int) : IntKind.u64.wrap z = (u64of z : Int) := by
  rw [IntKind.wrap_u64]
  unfold u64of
  omega
theorem u64_lt (z : Int) : u64of z < 18446744073709551616 := by unfold u64of; omega
/-- The byte of an int. -/
def b8 (z : Int) : UInt8 := UInt8.ofNat (z % 256).toNat
theorem b8_nat (z : Int) : ((b8 z).toNat : Int) = z % 256 := by
  unfold b8
  rw [UInt8.toNat_ofNat']
  omega
theorem b8_wrap (z : Int) : IntKind.u8.wrap z = ((b8 z).toNat : Int) := by
  rw [b8_nat, IntKind.wrap_u8']

set_option maxHeartbeats 1000000 in
theorem wint_ok {w : World} {n0 g : Nat} {v : Value} {l : List UInt8} (h : Wr w n0 g v l) (z : Int) (hl : l.length ≤ 70368744177000) (hn0 : n0 ≤ w.heap.size) :
    Calls Tryd.prog 39 #[.pointer (some ⟨g, 0, none⟩), .int .i64 z] w fun e w' => e = .returned (.tuple #[]) ∧ ∃ v', Wr w' n0 g v' (l ++ beBytes (u64of z) 8) ∧ Below n0 w w' := by
  have H := Lib.hid h
  have hw := u64_wrap z
  clear h
  go_enter Tryd.func39, Tryd.ntmps39
  go_wp2_with fail
  refine (number_ok H.out (u64of z) 8 (u64_lt z) (by decide) hl hn0).mono ?_
  rintro e w1 ⟨rfl, v1, h1, hb1⟩
  go_wp2
  go_end0
  exact ⟨rfl, v1, h1, hb1⟩


/-- Bytes with their number ahead. -/
def lenBytes (b : List UInt8) : List UInt8 := beBytes b.length 4 ++ b
set_option maxHeartbeats 1000000 in
theorem wbytes_any {w : World} {n0 g : Nat} {v : Value} {l : List UInt8} (h : Wr w n0 g v l) (A : Option Addr) (c B : Nat) (b : List UInt8) (hb : Sl w B A (bv b)) (hn : A = none → c = 0) (hB : B ≤ n0) (hl : l.length + 4 + b.length ≤ 70368744170000) (hn0 : n0 ≤ w.heap.size) :
    Calls Tryd.prog 38 #[.pointer (some ⟨g, 0, none⟩), .slice A b.length c] w fun e w' => e = .returned (.tuple #[]) ∧ ∃ v', Wr w' n0 g v' (l ++ lenBytes b) ∧ Below n0 w w' := by
  have H := Lib.hid h
  have HN := Lib.hid hn
  have hcv : IntKind.u64.wrap (b.length : Int) = (b.length : Int) := by rw [IntKind.wrap_u64]; omega
  clear h hn
  go_enter Tryd.func38, Tryd.ntmps38
  go_wp2_with fail
  refine (number_ok H.out b.length 4 (by omega) (by decide) (by omega) hn0).mono ?_
  rintro e w1 ⟨rfl, v1, h1, hb1⟩
  have H1 := Lib.hid h1
  have hc := (Blk.of_heap h1.blk).cell 0
  have hl1 : (l ++ beBytes b.length 4).length = l.length + 4 := by simp [beBytes]
  have hsl : Sl w1 B A (bv b) := hb.below (hb1.mono hB)
  have LL : Hid (l.length + 4 + b.length ≤ 70368744177664) := by show _ ≤ _; omega
  have hr1 := h1.row
  rw [hl1] at hr1
  have HR := Lib.hid hr1
  have hs1 : n0 ≤ w1.heap.size := Nat.le_trans hn0 hb1.size
  clear h1 hr1
  go_wp2_with (at_builtin; refine wpList_append_bytesG rfl _ _ rfl n0 v1 _ (l ++ beBytes b.length 4) rfl HR.out A c B b rfl HN.out hsl LL.out hs1 ?_; intro v2 w2 ho2 hg2; have hne : some g ≠ v1.ownBlock := fun e => owns_ne H1.out.row H1.out.blk (by decide) e.symm; have hblk : w2.heap[g]? = some (.cells #[v1] 72 (0, 0)) := (hg2.block g H1.out.lt hne).trans H1.out.blk; obtain ⟨A2, c2, hv2⟩ := own_form ho2; subst hv2; have hc2 := (Blk.of_heap hblk).cell 0; have hf2 := (Blk.of_heap hblk).free 0)
  go_end0
  have f2 : Fr (fun k => k = g) w2 (w2.setCell ⟨g, 0, none⟩ (.slice A2 (l.length + 4 + b.length) c2)) := Fr.setCell (M := fun k => k = g) (p := ⟨g, 0, none⟩) (Fr.refl _ _) (fun _ => rfl) _
  refine ⟨rfl, _, ⟨H1.out.ge, cell_set hblk _, ?_⟩, ?_⟩
  · rw [show (l ++ lenBytes b).length = l.length + 4 + b.length by simp [lenBytes, beBytes]; omega]
    unfold lenBytes
    rw [← List.append_assoc]
    exact f2.owns ho2 (fun k hk e => owns_ne ho2 hblk (by decide) (by rw [hk, e]))
  · have hb3 : Below n0 w1 w2 := (Below.refl n0 w1).grown hg2 hs1 (fun k hk => owns_ge H1.out.row k hk)
    exact hb1.trans (hb3.setCell (p := ⟨g, 0, none⟩) H1.out.ge _)
theorem byte_conv (z : Int) : z % 256 = ((b8 z).toNat : Int) := (b8_nat z).symm
theorem num_conv (z : Int) : IntKind.u64.wrap z = (u64of z : Int) := u64_wrap z
theorem owns_nil0 {w : World} {base e size n c : Nat} {xs : List Value} (h : w.ownsRow base e size (.slice none n c) n xs) : c = 0 := by
  rcases h.2 with ⟨e', _⟩ | ⟨g', cap, cur, e', hb, _⟩
  · injection e'
  · injection e' with e1; cases e1
theorem app_len {l x l' : List UInt8} {n : Nat} (h : l ++ x = l') (hx : x.length = n) : l'.length ≤ l.length + n := by rw [← h, List.length_append, hx]; exact Nat.le_refl _
theorem lenBytes_len (b : List UInt8) : (lenBytes b).length = 4 + b.length := by rw [lenBytes, List.length_append, be_len]
theorem byte_of8 (z : Int) {x : Int} (h : x = z % 256) : x = ((b8 z).toNat : Int) := by rw [h, b8_nat]
end Go.Proofs.YtjkilpjdgjijiaaDoor
