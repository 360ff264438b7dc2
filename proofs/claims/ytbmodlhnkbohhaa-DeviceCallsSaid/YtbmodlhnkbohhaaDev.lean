/- A device in memory; device.New, Free, Sync, Wipe. -/
import Derived.Test.YtbmodlhnkbohhaaFrame
import Derived.Test.YtbmodlhnkbohhaaClone
namespace Go.Proofs.Ytbmodlhnkbohhaa
open Go.RowKit
set_option linter.unusedVariables false

/-- A page: what it is (0 empty, 1 whole, 2 torn), and where its bytes lie. -/
structure Pg where
  is : Nat
  A : Option Addr
  c : Nat
  l : List UInt8
abbrev Pg.cells (p : Pg) : List Value := [.int .i64 (p.is : Int), .slice p.A p.l.length p.c]
def pcells (ps : List Pg) : List Value := ps.flatMap Pg.cells
def Pg.ok (w : World) (n0 : Nat) (p : Pg) : Prop := w.ownsRow n0 5 1 (.slice p.A p.l.length p.c) p.l.length (bv p.l)

/-- A device at block g: its pages' slice v, how many there may be, its pages, how many last. -/
structure Dev (w : World) (n0 g : Nat) (v : Value) (room : Nat) (ps : List Pg) (lasts : Nat) : Prop where
  ge : n0 ≤ g
  blk : w.heap[g]? = some (.cells #[.int .i64 (room : Int), v, .int .i64 (lasts : Int)] 74 (0, 0))
  row : w.ownsRow n0 77 2 v ps.length (pcells ps)
  pgs : ∀ p ∈ ps, p.ok w n0
  le : ps.length ≤ room
  la : lasts ≤ ps.length
  rm : room ≤ 65536

/-- The blocks that a device's own calls may turn. -/
def Dev.M (g : Nat) (v : Value) (k : Nat) : Prop := k = g ∨ v.ownBlock = some k

theorem pcells_app (a b : List Pg) : pcells (a ++ b) = pcells a ++ pcells b := by simp [pcells]
theorem pcells_len (a : List Pg) : (pcells a).length = a.length * 2 := by
  induction a with
  | nil => rfl
  | cons p a ih =>
    have : pcells (p :: a) = p.cells ++ pcells a := rfl
    rw [this, List.length_append, ih, List.length_cons]
    show 2 + a.length * 2 = (a.length + 1) * 2
    omega

section
variable {w w' : World} {n0 g room lasts : Nat} {v : Value} {ps : List Pg}
theorem Dev.form (h : Dev w n0 g v room ps lasts) : ∃ A c, v = .slice A ps.length c := own_form h.row
/-- Whatever turns no block of the device leaves it. -/
theorem Dev.keep (h : Dev w n0 g v room ps lasts) {M : Nat → Prop} (hf : Fr M w w') (hg : ¬ M g) (hv : ∀ k, v.ownBlock = some k → ¬ M k) (hp : ∀ p ∈ ps, ∀ k, (Value.slice p.A p.l.length p.c).ownBlock = some k → ¬ M k) : Dev w' n0 g v room ps lasts :=
  ⟨h.ge, hf.cells h.blk hg, hf.owns h.row hv, fun p hpm => hf.owns (h.pgs p hpm) (hp p hpm), h.le, h.la, h.rm⟩
theorem Dev.below (h : Dev w n0 g v room ps lasts) (hb : Below w.heap.size w w') : Dev w' n0 g v room ps lasts :=
  h.keep (M := fun _ => False) (Fr.of_below hb) (fun x => x) (fun _ _ x => x) (fun _ _ _ _ x => x)
theorem Dev.lt (h : Dev w n0 g v room ps lasts) : g < w.heap.size := (Array.getElem?_eq_some_iff.1 h.blk).1
theorem Dev.bk (h : Dev w n0 g v room ps lasts) : Blk w g #[.int .i64 (room : Int), v, .int .i64 (lasts : Int)] := .of_heap h.blk
end

set_option maxHeartbeats 1000000 in
theorem new_ok (room : Nat) (h1 : 1 ≤ room) (h2 : room ≤ 65536) (w : World) :
    Calls Try.prog 11 #[.int .i64 (room : Int)] w fun e w' => e = .returned (.tuple #[.pointer (some ⟨w.heap.size, 0, none⟩), .int .i64 0]) ∧ w' = w.alloc (.cells #[.int .i64 (room : Int), .slice none 0 0, .int .i64 0] 74) := by
  have a1 : ¬ ((room : Int) < 1) := by omega
  have a2 : ¬ ((65536 : Int) < (room : Int)) := by omega
  clear h1 h2
  go_enter Try.func11, Try.ntmps11
  go_wp2
  go_ret2
  exact ⟨rfl, rfl⟩

theorem new_bad (n : Int) (h : n < 1 ∨ 65536 < n) (w : World) :
    Calls Try.prog 11 #[.int .i64 n] w fun e w' => e = .returned (.tuple #[.pointer none, .int .i64 2]) ∧ w' = w := by
  by_cases a1 : n < 1
  · clear h
    go_enter Try.func11, Try.ntmps11
    go_wp2
    go_ret2
    exact ⟨rfl, rfl⟩
  · have a2 : (65536 : Int) < n := by omega
    clear h
    go_enter Try.func11, Try.ntmps11
    go_wp2
    go_ret2
    exact ⟨rfl, rfl⟩

set_option maxHeartbeats 1000000 in
theorem free_any {w : World} {n0 g room lasts : Nat} {v : Value} {ps : List Pg} (h : Dev w n0 g v room ps lasts) :
    Calls Try.prog 17 #[.pointer (some ⟨g, 0, none⟩)] w fun e w' => e = .returned (.int .i64 ((room - ps.length : Nat) : Int)) ∧ ∃ n, w' = w.drewN n := by
  obtain ⟨A, c, rfl⟩ := h.form
  have hc := h.bk.cell
  have hle := h.le
  have hr := h.rm
  have e : ((room - ps.length : Nat) : Int) = (room : Int) - (ps.length : Int) := by omega
  rw [e]
  clear e h
  go_enter Try.func17, Try.ntmps17
  go_wp2_with fail
  go_quiet (fail)
  go_wp2
  go_ret
  exact ⟨rfl, _, rfl⟩

set_option maxHeartbeats 1000000 in
theorem sync_blk {w : World} {g n c : Nat} {A : Option Addr} {x y : Value} (h : Blk w g #[x, .slice A n c, y]) :
    Calls Try.prog 13 #[.pointer (some ⟨g, 0, none⟩)] w fun e w' => e = .returned (.tuple #[]) ∧ w' = w.setCell ⟨g, 2, none⟩ (.int .i64 (n : Int)) := by
  have hc := h.cell
  have hf := h.free
  clear h
  go_enter Try.func13, Try.ntmps13
  go_wp2
  go_end0
  exact ⟨rfl, rfl⟩

theorem blk_set {w : World} {g i : Nat} {cs : Array Value} {t : TypeId} (h : w.heap[g]? = some (.cells cs t (0, 0))) (u : Value) :
    (w.setCell ⟨g, i, none⟩ u).heap[g]? = some (.cells (cs.setIfInBounds i u) t (0, 0)) := by
  simp [World.setCell, Array.getElem?_modify, h]
theorem fr_set (w : World) (g i : Nat) (u : Value) : Fr (fun k => k = g) w (w.setCell ⟨g, i, none⟩ u) := Fr.setCell (M := fun k => k = g) (p := ⟨g, i, none⟩) (Fr.refl _ _) (fun _ => rfl) u
theorem info_apart {w : World} {base g : Nat} {e t : TypeId} {size n : Nat} {v : Value} {xs : List Value} {cs : Array Value} (ho : w.ownsRow base e size v n xs) (hg : w.heap[g]? = some (.cells cs t (0, 0))) (hne : e ≠ t) :
    ∀ k, v.ownBlock = some k → ¬ k = g := fun k hk e => owns_ne ho hg hne (by rw [hk, e])

/-- **Sync: all pages last.** -/
theorem sync_any {w : World} {n0 g room lasts : Nat} {v : Value} {ps : List Pg} (h : Dev w n0 g v room ps lasts) :
    Calls Try.prog 13 #[.pointer (some ⟨g, 0, none⟩)] w fun e w' => e = .returned (.tuple #[]) ∧ Dev w' n0 g v room ps ps.length ∧ Fr (Dev.M g v) w w' := by
  obtain ⟨A, c, rfl⟩ := h.form
  refine (sync_blk h.bk).mono ?_
  rintro e w' ⟨he, rfl⟩
  have hf := fr_set w g 2 (.int .i64 (ps.length : Int))
  exact ⟨he, ⟨h.ge, blk_set h.blk _, hf.owns h.row (info_apart h.row h.blk (by decide)), fun p hp => hf.owns (h.pgs p hp) (info_apart (h.pgs p hp) h.blk (by decide)), h.le, Nat.le_refl _, h.rm⟩, hf.mono fun k _ e => .inl e⟩

set_option maxHeartbeats 1000000 in
/-- **Wipe: all pages are empty.** -/
theorem wipe_any {w : World} {n0 g room lasts : Nat} {v : Value} {ps : List Pg} (h : Dev w n0 g v room ps lasts) :
    Calls Try.prog 18 #[.pointer (some ⟨g, 0, none⟩)] w fun e w' => e = .returned (.tuple #[]) ∧ Dev w' n0 g (.slice none 0 0) room [] 0 ∧ Fr (Dev.M g v) w w' := by
  obtain ⟨A, c, rfl⟩ := h.form
  have H := Lib.hid h
  have hc := h.bk.cell
  have hf := h.bk.free
  clear h
  go_enter Try.func18, Try.ntmps18
  go_wp2_with fail
  have h1 := blk_set (i := 1) H.out.blk (.slice none 0 0)
  refine (sync_blk (Blk.of_heap h1)).mono ?_
  rintro e w' ⟨rfl, rfl⟩
  go_wp2
  go_end0
  refine ⟨rfl, ⟨H.out.ge, blk_set h1 _, World.ownsRow_nil _ _ _ _, by simp, Nat.zero_le _, Nat.le_refl _, H.out.rm⟩, ?_⟩
  exact ((fr_set w g 1 _).trans (fr_set _ g 2 _) (fun _ _ e => e)).mono fun k _ e => .inl e
end Go.Proofs.Ytbmodlhnkbohhaa
