/- Two devices side by side; lists of bytes that the call has made. -/
import Derived.Test.YtbmodlhnkbohhaaDevS
import Derived.Test.YtbmodlhnkbohhaaSList
import Derived.Test.YtbmodlhnkbohhaaDlastw
namespace Go.Proofs.Ytbmodlhnkbohhaa
open Go.RowKit
set_option linter.unusedVariables false

theorem owns_lt {w : World} {base size n k : Nat} {e : TypeId} {v : Value} {xs : List Value} (h : w.ownsRow base e size v n xs) (hk : v.ownBlock = some k) : k < w.heap.size := by
  rcases h.2 with ⟨rfl, _⟩ | ⟨g', cap, cur, rfl, hb, hh, _⟩
  · simp [Value.ownBlock] at hk
  · simp [Value.ownBlock] at hk; subst hk; exact (Array.getElem?_eq_some_iff.1 hh).1

section
variable {w w' : World} {n0 g g2 room room2 lasts lasts2 : Nat} {v v2 : Value} {ps ps2 : List Pg}
/-- Rows of another element type stay over a device's own calls. -/
theorem Dev.apart (h : Dev w n0 g v room ps lasts) (hf : Fr (Dev.M g v) w w') {base size n : Nat} {e : TypeId} {u : Value} {xs : List Value} (ho : w.ownsRow base e size u n xs) (h1 : e ≠ 74) (h2 : e ≠ 77) : w'.ownsRow base e size u n xs :=
  hf.owns ho fun k hk hm => by
    rcases hm with rfl | hm
    · exact owns_ne ho h.blk h1 hk
    · exact owns_apart ho h.row h2 k hk hm
/-- Two devices apart. -/
structure Apart (w : World) (n0 g : Nat) (v : Value) (room : Nat) (ps : List Pg) (lasts g2 : Nat) (v2 : Value) (room2 : Nat) (ps2 : List Pg) (lasts2 : Nat) : Prop where
  d : Dev w n0 g v room ps lasts
  t : Dev w n0 g2 v2 room2 ps2 lasts2
  ne : g ≠ g2
  row : ∀ k, v.ownBlock = some k → v2.ownBlock ≠ some k
theorem Apart.swap (h : Apart w n0 g v room ps lasts g2 v2 room2 ps2 lasts2) : Apart w n0 g2 v2 room2 ps2 lasts2 g v room ps lasts :=
  ⟨h.t, h.d, h.ne.symm, fun k h2 h1 => h.row k h1 h2⟩
theorem Apart.below (h : Apart w n0 g v room ps lasts g2 v2 room2 ps2 lasts2) (hb : Below w.heap.size w w') : Apart w' n0 g v room ps lasts g2 v2 room2 ps2 lasts2 :=
  ⟨h.d.below hb, h.t.below hb, h.ne, h.row⟩
/-- What the first does leaves the second. -/
theorem Apart.turn (h : Apart w n0 g v room ps lasts g2 v2 room2 ps2 lasts2) (hf : Fr (Dev.M g v) w w') {v' : Value} {ps' : List Pg} {lasts' : Nat} (hd : Dev w' n0 g v' room ps' lasts') (hv : ∀ k, v'.ownBlock = some k → v.ownBlock = some k ∨ w.heap.size ≤ k) :
    Apart w' n0 g v' room ps' lasts' g2 v2 room2 ps2 lasts2 := by
  refine ⟨hd, h.t.keep hf ?_ ?_ ?_, h.ne, ?_⟩
  · rintro (e | e)
    · exact h.ne e.symm
    · exact owns_ne h.d.row h.t.blk (by decide) e
  · rintro k hk (rfl | e)
    · exact owns_ne h.t.row h.d.blk (by decide) hk
    · exact h.row k e hk
  · rintro p hp k hk (rfl | e)
    · exact owns_ne (h.t.pgs p hp) h.d.blk (by decide) hk
    · exact owns_apart (h.t.pgs p hp) h.d.row (by decide) k hk e
  · intro k hk h2
    rcases hv k hk with e | e
    · exact h.row k e h2
    · have := owns_lt h.t.row h2; omega

/-- A list of bytes that the call has made. -/
structure Lst (w : World) (base : Nat) (v : Value) (xs : List Pg) : Prop where
  row : w.ownsRow base 23 1 v xs.length (xs.map Pg.sl)
  each : ∀ q ∈ xs, q.ok w base
  short : ∀ q ∈ xs, q.l.length ≤ maxLen
theorem Lst.below {base : Nat} {xs : List Pg} (h : Lst w base v xs) (hb : Below w.heap.size w w') : Lst w' base v xs :=
  ⟨(Fr.of_below (M := fun _ => False) hb).owns h.row fun _ _ x => x, fun q hq => (Fr.of_below (M := fun _ => False) hb).owns (h.each q hq) fun _ _ x => x, h.short⟩
theorem Lst.apart {base : Nat} {xs : List Pg} (h : Lst w base v2 xs) (hd : Dev w n0 g v room ps lasts) (hf : Fr (Dev.M g v) w w') : Lst w' base v2 xs :=
  ⟨hd.apart hf h.row (by decide) (by decide), fun q hq => hd.apart hf (h.each q hq) (by decide) (by decide), h.short⟩
theorem Lst.of {xs : List Pg} (hrow : w'.ownsRow w.heap.size 23 1 v xs.length (xs.map Pg.sl)) (hls : xs.map (·.l) = (wh ps).map (·.l)) (hq : ∀ q ∈ xs, q.ok w' w.heap.size) (hs : Short ps) : Lst w' w.heap.size v xs :=
  ⟨hrow, hq, fun q hm => by
    have hm : q.l ∈ xs.map (·.l) := List.mem_map_of_mem hm
    rw [hls] at hm
    obtain ⟨p, hpm, hpe⟩ := List.mem_map.1 hm
    have := hs p (List.mem_filter.1 (show p ∈ List.filter _ _ from hpm)).1
    rw [← hpe]; unfold maxLen; omega⟩
theorem Lst.shape {base n c : Nat} {xs : List Pg} {A : Option Addr} (h : Lst w base (.slice A n c) xs) : n = xs.length ∧ ((A = none ∧ n = 0 ∧ c = 0) ∨ ∃ g, A = some ⟨g, 0, none⟩ ∧ n ≤ c) := by
  rcases h.row.2 with ⟨e, h0⟩ | ⟨g', cap, cur, e, hb, hh, hn, _⟩
  · injection e with e1 e2 e3
    exact ⟨by rw [e2, h0], .inl ⟨e1, e2, e3⟩⟩
  · injection e with e1 e2 e3
    exact ⟨e2, .inr ⟨g', e1, by rw [e2, e3]; exact hn⟩⟩
/-- Its beginning is the list zs. -/
theorem Lst.same {base n c B : Nat} {xs zs : List Pg} {A A1 : Option Addr} (h : Lst w base (.slice A n c) xs) (hz : (xs.take zs.length).map (·.l) = zs.map (·.l)) (h1 : Sl w B A1 (zs.map Pg.sl)) (hB : B ≤ w.heap.size)
    (hp : ∀ p ∈ zs, Sl w B p.A (bv p.l) ∧ p.l.length ≤ maxLen) (hn : zs.length ≤ maxLen) (hle : zs.length ≤ xs.length) (c4 c1 : Nat) :
    Calls Try.prog 16 #[.slice A zs.length c4, .slice A1 zs.length c1] w fun e w' => e = .returned (.bool true) ∧ Below w.heap.size w w' := by
  have hx := Sl.of_own (A := A) (n := xs.length) (c := c) (by
    have hr := h.row
    obtain ⟨A', c', e⟩ := own_form hr
    injection e with e1 e2 e3
    rw [← e2]
    rw [e2] at hr ⊢
    exact hr)
  have hx := hx.take zs.length
  rw [← List.map_take] at hx
  have hl : (xs.take zs.length).length = zs.length := by rw [List.length_take]; omega
  have hc := slist_any A A1 c4 c1 w.heap.size (xs.take zs.length) zs w hx (h1.more hB) (Nat.le_refl _)
    (fun q hq => ⟨Sl.of_own (h.each q (List.mem_of_mem_take hq)), h.short q (List.mem_of_mem_take hq)⟩) (fun q hq => ⟨(hp q hq).1.more hB, (hp q hq).2⟩) (by rw [hl]; exact hn) hn
  rw [hl] at hc
  exact hc.mono fun e w' ⟨he, hb⟩ => ⟨by rw [he, hz]; simp, hb⟩
end
end Go.Proofs.Ytbmodlhnkbohhaa
