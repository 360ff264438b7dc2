/- (*device.Device).Append. -/
import Derived.Test.YtbmodlhnkbohhaaDev
import Derived.Deep.AppendLies
import Derived.Deep.RegionLaw
namespace Go.Proofs.Ytbmodlhnkbohhaa
open Go.RowKit
set_option linter.unusedVariables false

theorem Try.info_page : (Try.prog.info? 77).map (fun i => (i.zero, i.size, i.bytes)) = some (some (.agg #[.int .i64 0, .slice none 0 0]), 2, 32) := by kernel_rfl

/-- What an Append that has room comes to. -/
def Appended (n0 g : Nat) (v : Value) (room : Nat) (ps : List Pg) (lasts : Nat) (b : List UInt8) (w : World) (e : Ending) (w' : World) : Prop :=
  e = .returned (.int .i64 0) ∧ ∃ v' p, p.is = 1 ∧ p.l = b ∧ Dev w' n0 g v' room (ps ++ [p]) lasts ∧ Fr (Dev.M g v) w w' ∧ (∀ k, v'.ownBlock = some k → v.ownBlock = some k ∨ w.heap.size ≤ k) ∧ (∀ k, (Value.slice p.A p.l.length p.c).ownBlock = some k → w.heap.size ≤ k)

theorem dev_grown {w w2 : World} {n0 g room lasts : Nat} {v : Value} {ps : List Pg} {o : Obj} (h : Dev w n0 g v room ps lasts) (hg : (w.alloc o).grownBy w2 v.ownBlock) :
    Blk w2 g #[.int .i64 (room : Int), v, .int .i64 (lasts : Int)] := by
  have hne : some g ≠ v.ownBlock := fun e => owns_ne h.row h.blk (by decide) e.symm
  exact .of_heap (t := 74) ((hg.block g (by simp; have := h.lt; omega) hne).trans ((Below.heap_alloc _ _ g h.lt).trans h.blk))

theorem appended_close {w w1 w2 : World} {n0 g room lasts gg cap c1 : Nat} {v : Value} {ps : List Pg} {b : List UInt8} {A1 : Option Addr} {o : Obj} (D : Dev w1 n0 g v room ps lasts) (hroom : ps.length < room) (hn0 : n0 ≤ w.heap.size)
    (hb : Below w.heap.size w w1) (hown : w1.ownsRow w.heap.size 5 1 (.slice A1 b.length c1) b.length (bv b))
    (hown2 : w2.ownsRow n0 77 2 (.slice (some ⟨gg, 0, none⟩) (ps.length + 1) cap) (ps.length + 1) (pcells ps ++ [.int .i64 1, .slice A1 b.length c1]))
    (hgrow : (w1.alloc o).grownBy w2 v.ownBlock) (hat : v.ownBlock = some gg ∨ gg = w1.heap.size + 1) :
    Appended n0 g v room ps lasts b w (.returned (.int .i64 0)) (w2.setCell ⟨g, 1, none⟩ (.slice (some ⟨gg, 0, none⟩) (ps.length + 1) cap)) := by
  have hne : some g ≠ v.ownBlock := fun e => owns_ne D.row D.blk (by decide) e.symm
  have hblk : w2.heap[g]? = some (.cells #[.int .i64 (room : Int), v, .int .i64 (lasts : Int)] 74 (0, 0)) :=
    (hgrow.block g (by simp; have := D.lt; omega) hne).trans ((Below.heap_alloc _ _ g D.lt).trans D.blk)
  have f1 : Fr (Dev.M g v) w1 w2 := ((Fr.refl _ w1).alloc o).grown hgrow (fun k hk _ => .inr hk)
  have f2 := fr_set w2 g 1 (.slice (some ⟨gg, 0, none⟩) (ps.length + 1) cap)
  have keepB : ∀ {A : Option Addr} {base n c : Nat} {xs : List Value}, w1.ownsRow base 5 1 (.slice A n c) n xs → (w2.setCell ⟨g, 1, none⟩ (.slice (some ⟨gg, 0, none⟩) (ps.length + 1) cap)).ownsRow base 5 1 (.slice A n c) n xs := by
    intro A base n c xs hx
    have h2 := f1.owns hx (fun k hk hm => by
      rcases hm with rfl | hm
      · exact owns_ne hx D.blk (by decide) hk
      · exact owns_apart hx D.row (by decide) k hk hm)
    exact f2.owns h2 (info_apart h2 hblk (by decide))
  refine ⟨rfl, .slice (some ⟨gg, 0, none⟩) (ps.length + 1) cap, ⟨1, A1, c1, b⟩, rfl, rfl, ⟨D.ge, blk_set hblk _, ?_, ?_, by simp; omega, by simp; have := D.la; omega, D.rm⟩, ?_, ?_, ?_⟩
  · rw [pcells_app, List.length_append]
    exact f2.owns hown2 (info_apart hown2 hblk (by decide))
  · intro p hp
    rcases List.mem_append.1 hp with hp | hp
    · exact keepB (D.pgs p hp)
    · simp at hp
      subst hp
      have := keepB hown
      refine ⟨this.1, ?_⟩
      rcases this.2 with h0 | ⟨g', cap', cur, e1, e2, r⟩
      · exact .inl h0
      · exact .inr ⟨g', cap', cur, e1, by omega, r⟩
  · exact (((Fr.of_below hb).trans f1 (fun _ _ h => h)).trans f2 (fun i _ e => .inl e))
  · intro k hk
    simp [Value.ownBlock] at hk
    subst hk
    rcases hat with h | h
    · exact .inl h
    · have := hb.size; exact .inr (by omega)
  · intro k hk
    rcases hown.2 with ⟨h0, _⟩ | ⟨g', cap', cur, e1, e2, r⟩
    · injection h0 with h0
      simp [Value.ownBlock, h0] at hk
    · injection e1 with e1
      simp [Value.ownBlock, e1] at hk
      omega

set_option maxRecDepth 100000 in
set_option maxHeartbeats 4000000 in
theorem append_ok {w : World} {n0 g room lasts : Nat} {v : Value} {ps : List Pg} (h : Dev w n0 g v room ps lasts) (hroom : ps.length < room) (A : Option Addr) (c B : Nat) (b : List UInt8)
    (hb : Sl w B A (bv b)) (hn : A = none → c = 0) (hl : b.length ≤ 70368744177664) (hB : B ≤ w.heap.size) (hn0 : n0 ≤ w.heap.size) :
    Calls Try.prog 12 #[.pointer (some ⟨g, 0, none⟩), .slice A b.length c] w fun e w' => Appended n0 g v room ps lasts b w e w' := by
  have H := Lib.hid h
  obtain ⟨A0, c0, rfl⟩ := h.form
  have hc := h.bk.cell 1
  have hlt := h.lt
  have hfr : (((room - ps.length : Nat) : Int) == 0) = false := by simp; omega
  have HL := Lib.hid hl
  have HR := Lib.hid hroom
  clear h hl hroom
  go_enter Try.func12, Try.ntmps12
  go_wp2_with (go_at_call 17; refine (free_any H.out).mono ?_; rintro e w' ⟨rfl, nf, rfl⟩)
  have D1 : ∀ W, Below (w.drewN (nf + 1)).heap.size (w.drewN (nf + 1)) W → Hid (Dev W n0 g (.slice A0 ps.length c0) room ps lasts) := fun W hW => (H.out.below (bdrewN_refl _ _ (nf + 1))).below hW
  have HD := Lib.hid D1
  clear D1
  have h63 : ps.length + 1 ≤ maxLen := by have := H.out.rm; have := HR.out; unfold maxLen; omega
  have hby : (ps.length + 1) * 32 ≤ 140737488355328 := by have := H.out.rm; have := HR.out; omega
  have H63 := Lib.hid h63
  have HBY := Lib.hid hby
  clear h63 hby
  go_region_law
    (first
      | (obtain ⟨i0, hi0, hz0, hz1, hz2⟩ := info_parts Try.info_page
         refine step_append_lies _ (by rfl) _ _ _ (by rfl) n0 77 i0 _ 2 32 Try.underlying72 hi0 hz0 hz1 hz2 rfl (by omega) (.slice A0 ps.length c0) ps.length (pcells ps) (by rfl) ((HD.out _ hbl).out.row.alloc _)
           ⟨w1.heap.size, 0, none⟩ 1 1 [.int .i64 1, .slice A1 b.length c1] (by rfl) (by rfl) (World.news_of_block (cs := #[.int .i64 1, .slice A1 b.length c1]) (t := 77) (fr := (0, 0)) (heap_alloc_new w1 _)) (by simp [Value.oneCell'])
           (by omega) H63.out HBY.out (by have := hbl.size; simp at this ⊢; omega) (w1.heap.size + 1) (by simp) ?_
         intro gg cap w2 hown2 hgrow hat hlt2
         clear hi0 hz0 hz1 hz2 i0
         have hblk := dev_grown (HD.out _ hbl).out hgrow
         have hc2 := hblk.cell 1
         have hf2 := hblk.free 1)
      | (go_simp; go_at_call 46; refine (clone_bytes A c B b (w.drewN (nf + 1)) (hb.drewN _) hn HL.out (by simpa using hB)).mono ?_; rintro e w1 ⟨hN, hbl⟩; obtain ⟨A1, c1, rfl, hown⟩ := hN; have hd1 := (HD.out _ hbl).out.bk.cell 1; have hl1 := (HD.out _ hbl).out.lt))
  all_goals
    go_wp2
    go_ret
    exact appended_close (HD.out _ hbl).out HR.out hn0 ((bdrewN_refl _ w (nf + 1)).trans hbl) hown hown2 hgrow hat
end Go.Proofs.Ytbmodlhnkbohhaa
