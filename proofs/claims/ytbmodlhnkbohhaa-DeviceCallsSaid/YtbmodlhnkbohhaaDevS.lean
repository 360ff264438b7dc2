/- A device's calls, said of the blocks from n0 on. -/
import Derived.Test.YtbmodlhnkbohhaaDevApp
import Derived.Test.YtbmodlhnkbohhaaCrashAny
import Derived.Test.YtbmodlhnkbohhaaTwin
import Derived.Test.YtbmodlhnkbohhaaPagesAll
namespace Go.Proofs.Ytbmodlhnkbohhaa
open Go.RowKit
set_option linter.unusedVariables false

section
variable {w w' : World} {n0 g room lasts : Nat} {v : Value} {ps : List Pg}
theorem owns_ge {base e size n : Nat} {xs : List Value} (h : w.ownsRow base e size v n xs) : ∀ k, v.ownBlock = some k → base ≤ k := by
  intro k hk
  rcases h.2 with ⟨rfl, _⟩ | ⟨g', cap, cur, rfl, hb, _⟩
  · simp [Value.ownBlock] at hk
  · simp [Value.ownBlock] at hk; omega
theorem owns_nil {base e size n c : Nat} {xs : List Value} (h : w.ownsRow base e size (.slice none n c) n xs) : c = 0 := by
  rcases h.2 with ⟨e', _⟩ | ⟨g', cap, cur, e', hb, _⟩
  · injection e'
  · injection e' with e1; cases e1
theorem Dev.M_ge (h : Dev w n0 g v room ps lasts) : ∀ k, Dev.M g v k → n0 ≤ k := by
  rintro k (rfl | hk)
  · exact h.ge
  · exact owns_ge h.row k hk
theorem Dev.fr (h : Dev w n0 g v room ps lasts) (hn0 : n0 ≤ w.heap.size) (hf : Fr (Dev.M g v) w w') : Below n0 w w' := hf.below hn0 h.M_ge
/-- What lies in a block of bytes is none of the device's. -/
theorem Dev.bytes (h : Dev w n0 g v room ps lasts) {b : Nat} {cs : Array Value} {fr : Nat × Nat} (hb : w.heap[b]? = some (.cells cs 5 fr)) : ¬ Dev.M g v b := by
  rintro (rfl | hk)
  · have := h.blk.symm.trans hb
    simp at this
  · exact owns_ne h.row hb (by decide) hk
end

theorem new_dev (w : World) (n0 room : Nat) (hn : n0 ≤ w.heap.size) (hr : room ≤ 65536) : Dev (w.alloc (.cells #[.int .i64 (room : Int), .slice none 0 0, .int .i64 0] 74)) n0 w.heap.size (.slice none 0 0) room [] 0 :=
  ⟨hn, heap_alloc_new _ _, World.ownsRow_nil _ _ _ _, by simp, Nat.zero_le _, Nat.le_refl _, hr⟩

/-- Bytes in a block that the device doesn't have stay. -/
theorem Sl.of_block {w : World} {b : Nat} {l : List UInt8} {fr : Nat × Nat} (h : w.heap[b]? = some (.cells (bv l).toArray 5 fr)) : Sl w (b + 1) (some ⟨b, 0, none⟩) (bv l) := by
  refine .inr ⟨b, 0, rfl, by omega, fun k u hu => ?_⟩
  rw [Nat.zero_add]
  unfold World.cell?
  simp only [h]
  simpa using hu

/-- Bytes in a block that has just been made. -/
theorem Sl.new_block (w : World) (l : List UInt8) (fr : Nat × Nat) : Sl (w.alloc (.cells (bv l).toArray 5 fr)) (w.heap.size + 1) (some ⟨w.heap.size, 0, none⟩) (bv l) := by
  refine .inr ⟨w.heap.size, 0, rfl, by omega, fun k u hu => ?_⟩
  rw [Nat.zero_add]
  have h := heap_alloc_new w (.cells (bv l).toArray 5 fr)
  unfold World.cell?
  simp only [h]
  simpa using hu

section
variable {w : World} {n0 g room lasts : Nat} {v : Value} {ps : List Pg}
theorem append_s (h : Dev w n0 g v room ps lasts) (hroom : ps.length < room) (A : Option Addr) (c B : Nat) (b : List UInt8)
    (hb : Sl w B A (bv b)) (hn : A = none → c = 0) (hl : b.length ≤ 70368744177664) (hB : B ≤ w.heap.size) (hn0 : n0 ≤ w.heap.size) :
    Calls Try.prog 12 #[.pointer (some ⟨g, 0, none⟩), .slice A b.length c] w fun e w' => e = .returned (.int .i64 0) ∧
      ∃ v' p, p.is = 1 ∧ p.l = b ∧ Dev w' n0 g v' room (ps ++ [p]) lasts ∧ Below n0 w w' :=
  (append_ok h hroom A c B b hb hn hl hB hn0).mono fun e w' ⟨he, v', p, h1, h2, h3, h4, _⟩ => ⟨he, v', p, h1, h2, h3, h.fr hn0 h4⟩

set_option maxHeartbeats 1000000 in
theorem append_full (h : Dev w n0 g v room ps lasts) (hroom : ps.length = room) (x : Value) :
    Calls Try.prog 12 #[.pointer (some ⟨g, 0, none⟩), x] w fun e w' => e = .returned (.int .i64 4) ∧ ∃ n, w' = w.drewN n := by
  have H := Lib.hid h
  have hfr : (((room - ps.length : Nat) : Int) == 0) = true := by simp; omega
  clear h hroom
  go_enter Try.func12, Try.ntmps12
  go_wp2_with (go_at_call 17; refine (free_any H.out).mono ?_; rintro e w' ⟨rfl, nf, rfl⟩)
  go_ret
  exact ⟨rfl, _, rfl⟩

theorem crash_s (h : Dev w n0 g v room ps lasts) (hn0 : n0 ≤ w.heap.size) (A : Option Addr) (c B : Nat) (picks : List UInt8)
    (hpk : ∀ W, Fr (Dev.M g v) w W → Sl W B A (bv picks)) (hl : picks.length ≤ 70368744177664) :
    Calls Try.prog 14 #[.pointer (some ⟨g, 0, none⟩), .slice A picks.length c] w fun e w' => e = .returned (.tuple #[]) ∧
      ∃ v', Dev w' n0 g v' room (crashPs picks lasts ps) (crashPs picks lasts ps).length ∧ Below n0 w w' :=
  (crash_any h A c B picks hpk hl).mono fun e w' ⟨he, v', h1, h2, _⟩ => ⟨he, v', h1, h.fr hn0 h2⟩
theorem sync_s (h : Dev w n0 g v room ps lasts) (hn0 : n0 ≤ w.heap.size) :
    Calls Try.prog 13 #[.pointer (some ⟨g, 0, none⟩)] w fun e w' => e = .returned (.tuple #[]) ∧ Dev w' n0 g v room ps ps.length ∧ Below n0 w w' :=
  (sync_any h).mono fun e w' ⟨he, h1, h2⟩ => ⟨he, h1, h.fr hn0 h2⟩
theorem wipe_s (h : Dev w n0 g v room ps lasts) (hn0 : n0 ≤ w.heap.size) :
    Calls Try.prog 18 #[.pointer (some ⟨g, 0, none⟩)] w fun e w' => e = .returned (.tuple #[]) ∧ Dev w' n0 g (.slice none 0 0) room [] 0 ∧ Below n0 w w' :=
  (wipe_any h).mono fun e w' ⟨he, h1, h2⟩ => ⟨he, h1, h.fr hn0 h2⟩
/-- No page's bytes are long. -/
def Short (ps : List Pg) : Prop := ∀ p ∈ ps, p.l.length ≤ 300
theorem pages_s (h : Dev w n0 g v room ps lasts) (hs : Short ps) :
    Calls Try.prog 15 #[.pointer (some ⟨g, 0, none⟩)] w fun e w' => Paged ((wh ps).map (·.l)) w e w' :=
  pages_any h fun p hp => ⟨Sl.of_own (h.pgs p hp), fun e => by have ho := h.pgs p hp; unfold Pg.ok at ho; rw [e] at ho; exact owns_nil ho, by have := hs p hp; omega⟩
end

theorem crash_mem (picks : List UInt8) (lasts : Nat) (ps : List Pg) : ∀ q ∈ crashPs picks lasts ps, q ∈ ps ∨ q.l = [] := by
  intro q hq
  unfold crashPs at hq
  have hm := List.mem_of_mem_take hq
  unfold stage at hm
  rw [List.mem_mapIdx] at hm
  obtain ⟨j, hj, rfl⟩ := hm
  split
  · unfold crPg
    split
    · exact .inl (List.getElem_mem _)
    · exact .inr rfl
  · exact .inl (List.getElem_mem _)
theorem Short.crash {ps : List Pg} (h : Short ps) (picks : List UInt8) (lasts : Nat) : Short (crashPs picks lasts ps) := by
  intro q hq
  rcases crash_mem picks lasts ps q hq with hm | e
  · exact h q hm
  · simp [e]
theorem Short.app {ps : List Pg} (h : Short ps) {p : Pg} (hp : p.l.length ≤ 300) : Short (ps ++ [p]) := by
  intro q hq
  rcases List.mem_append.1 hq with hm | hm
  · exact h q hm
  · simp at hm; subst hm; exact hp
theorem Short.nil : Short [] := by intro q hq; simp at hq
end Go.Proofs.Ytbmodlhnkbohhaa
