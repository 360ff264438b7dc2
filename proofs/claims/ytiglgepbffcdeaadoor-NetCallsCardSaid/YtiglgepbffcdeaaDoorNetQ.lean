/- Nets: frames said shortly; messages of a kind and a number alone. -/
import Derived.Test.YtiglgepbffcdeaaDoorNetU
import Derived.Test.YtiglgepbffcdeaaDoorSeen
namespace Go.Proofs.YtiglgepbffcdeaaDoor
open Go.RowKit
set_option linter.unusedVariables false

theorem NetS.blocks {w : World} {n0 g : Nat} {v : Value} {ms : List Mm} (h : NetS w n0 g v ms) : ∀ k, NM g v k → n0 ≤ k := by
  intro k hk
  rcases hk with rfl | hk
  · exact h.ge
  · rcases h.row.2 with ⟨rfl, _⟩ | ⟨gg, cap, cur, rfl, hb, _⟩
    · simp [Value.ownBlock] at hk
    · have : gg = k := by simpa [Value.ownBlock] using hk
      omega
theorem Putted.below {n0 g : Nat} {v : Value} {ms : List Mm} {m : Msg} {w w' : World} (hp : Putted n0 g v ms m w w') (h : NetS w n0 g v ms) (hn0 : n0 ≤ w.heap.size) : Below n0 w w' := by
  obtain ⟨v', x, _, _, hf, _⟩ := hp
  exact hf.below hn0 h.blocks
theorem Taken.below {n0 g i : Nat} {v : Value} {ms : List Mm} {w w' : World} (hp : Taken n0 g v ms i w w') (h : NetS w n0 g v ms) (hn0 : n0 ≤ w.heap.size) : Below n0 w w' := by
  obtain ⟨v', _, hf, _⟩ := hp
  exact hf.below hn0 h.blocks
/-- The map stays while the net turns. -/
theorem Seen.net {n0 g mb : Nat} {v : Value} {ms : List Mm} {S : List Int} {w w' : World} (hs : Seen w mb S) (h : NetS w n0 g v ms) (hf : Fr (NM g v) w w') : Seen w' mb S := by
  obtain ⟨es, c, h1⟩ := hs.obj
  have hne : ¬ NM g v mb := by
    rintro (e | e)
    · subst e; have := h.blk; rw [h1] at this; cases this
    · rcases h.row.2 with ⟨rfl, _⟩ | ⟨gg, cap, cur, rfl, _, hh, _⟩
      · simp [Value.ownBlock] at e
      · have : gg = mb := by simpa [Value.ownBlock] using e
        subst this
        rw [hh] at h1; cases h1
  obtain ⟨n, D, hn, ⟨es', clock, hbb, F, hs', hD⟩, hi, ha⟩ := hs.own
  exact ⟨n, D, hn, ⟨es', clock, (hf.block mb hs.lt hne).trans hbb, F, hs', hD⟩, hi, ha⟩
/-- The net stays while the map turns. -/
theorem NetS.map {n0 g mb : Nat} {v : Value} {ms : List Mm} {S : List Int} {w w' : World} (h : NetS w n0 g v ms) (hs : Seen w mb S) (hg : w.grownBy w' (some mb)) : NetS w' n0 g v ms := by
  obtain ⟨es, c, h1⟩ := hs.obj
  have hx : ∀ {base n size : Nat} {e : TypeId} {u : Value} {xs : List Value}, w.ownsRow base e size u n xs → w'.ownsRow base e size u n xs := by
    intro base n size e u xs hu
    refine hu.kept hg ?_
    rcases hu.2 with ⟨rfl, _⟩ | ⟨gg, cap, cur, rfl, _, hh, _⟩
    · exact .inl rfl
    · refine .inr (fun e => ?_)
      have : gg = mb := by simpa [Value.ownBlock] using e
      subst this
      rw [hh] at h1; cases h1
  refine ⟨h.ge, (hg.block g h.lt (fun e => ?_)).trans h.blk, hx h.row, fun x hxm => ⟨hx (h.dat x hxm).cd, hx (h.dat x hxm).va⟩, h.fit, h.le⟩
  injection e with e
  subst e
  have := h.blk; rw [h1] at this; cases this

/-- A message of a kind, with a number. -/
def mkn (k nu : Int) : Msg := ⟨0, 0, nu, false, k, 0, 0, 0, [], 0, 0, [], 0, 0, 0, 0⟩
theorem mkn_right {k nu : Int} (h1 : 1 ≤ k) (h9 : k ≤ 9) : (mkn k nu).right = true := by
  unfold Msg.right mkn
  simp
  omega
abbrev kcells (k nu : Int) : Array Value := #[.int .i64 0, .int .i64 0, .int .i64 nu, .bool false, .int .i64 k, .int .i64 0, .int .i64 0, .int .i64 0, .slice none 0 0, .int .i64 0, .int .i64 0, .slice none 0 0, .int .i64 0, .int .i64 0, .int .i64 0, .int .i64 0]
theorem put_kind (k nu : Int) (h1 : 1 ≤ k) (h9 : k ≤ 9) {w : World} {n0 g : Nat} {v : Value} {ms : List Mm} (h : NetS w n0 g v ms) (hlen : ms.length < 4096) (hT : Tab w) (hn0 : n0 ≤ w.heap.size) :
    Calls Tryd.prog 14 #[.pointer (some ⟨g, 0, none⟩), .agg (kcells k nu)] w fun e w' => e = .returned (.int .i64 0) ∧ Putted n0 g v ms (mkn k nu) w w' :=
  net_put_lit 0 0 nu false k 0 0 0 [] 0 0 [] 0 0 0 0 none none 0 0 0 h hlen hT (.inl rfl) (.inl rfl) (fun _ => rfl) (fun _ => rfl) (Nat.zero_le _) hn0 (mkn_right h1 h9)
theorem put_kind_full (k nu : Int) (h1 : 1 ≤ k) (h9 : k ≤ 9) {w : World} {n0 g : Nat} {v : Value} {ms : List Mm} (h : NetS w n0 g v ms) (hlen : ms.length = 4096) (hT : Tab w) :
    Calls Tryd.prog 14 #[.pointer (some ⟨g, 0, none⟩), .agg (kcells k nu)] w fun e w' => e = .returned (.int .i64 4) ∧ Below w.heap.size w w' :=
  net_put_full 0 0 nu false k 0 0 0 [] 0 0 [] 0 0 0 0 none none 0 0 0 h hlen hT (.inl rfl) (.inl rfl) (fun _ => rfl) (fun _ => rfl) (Nat.zero_le _) (mkn_right h1 h9)
/-- A row of rows' eyes: nothing is left of no blocks. -/
theorem Tab.low {w w' : World} {n : Nat} (h : Tab w) (hn : 0 < n) (hb : Below n w w') : Tab w' := h.below hn hb
end Go.Proofs.YtiglgepbffcdeaaDoor
