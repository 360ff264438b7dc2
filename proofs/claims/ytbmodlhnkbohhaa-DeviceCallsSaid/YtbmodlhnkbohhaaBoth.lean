/- The device and the document's, side by side: what each call leaves. -/
import Derived.Test.YtbmodlhnkbohhaaRcrash
import Derived.Test.YtbmodlhnkbohhaaPair
namespace Go.Proofs.Ytbmodlhnkbohhaa
open Go.RowKit
set_option linter.unusedVariables false

theorem trimPs_drop (s : List Pg) : ∀ n, n ≤ s.length → ∀ p ∈ (s.take n).drop (trimPs n s), p.is = 0
  | 0, _, p, hp => by simp at hp
  | n + 1, hn, p, hp => by
    rw [trimPs_step n s (by omega)] at hp
    by_cases h0 : s[n].is = 0
    · rw [if_pos h0, List.take_succ_eq_append_getElem (by omega), List.drop_append_of_le_length (by rw [List.length_take]; have := trimPs_le n s; omega)] at hp
      rcases List.mem_append.1 hp with hp | hp
      · exact trimPs_drop s n (by omega) p hp
      · simp at hp; subst hp; exact h0
    · rw [if_neg h0, List.drop_eq_nil_of_le (by rw [List.length_take]; omega)] at hp
      cases hp
theorem trimPs_last (s : List Pg) : ∀ n, n ≤ s.length → 0 < trimPs n s → ∃ p, s[trimPs n s - 1]? = some p ∧ p.is ≠ 0
  | 0, _, h => by simp [trimPs] at h
  | n + 1, hn, h => by
    rw [trimPs_step n s (by omega)] at h ⊢
    by_cases h0 : s[n].is = 0
    · rw [if_pos h0] at h ⊢
      exact trimPs_last s n (by omega) h
    · rw [if_neg h0]
      exact ⟨s[n], by simp, h0⟩

/-- Pages that were written behind those that last are whole; the last one isn't empty. -/
structure Good (ps : List Pg) (la : Nat) : Prop where
  w : ∀ j (hj : j < ps.length), la ≤ j → ps[j].is = 1
  l : ∀ (h0 : 0 < ps.length), (ps[ps.length - 1]).is ≠ 0
theorem Good.nil (la : Nat) : Good [] la := ⟨fun j hj => by simp at hj, fun h => by simp at h⟩
theorem Good.sync {ps : List Pg} {la : Nat} (h : Good ps la) : Good ps ps.length := ⟨fun j hj h2 => by omega, h.l⟩
theorem Good.append {ps : List Pg} {la : Nat} (h : Good ps la) {p : Pg} (hp : p.is = 1) : Good (ps ++ [p]) la := by
  refine ⟨fun j hj hl => ?_, fun h0 => ?_⟩
  · rw [List.length_append, List.length_singleton] at hj
    by_cases h1 : j < ps.length
    · rw [List.getElem_append_left h1]; exact h.w j h1 hl
    · have : j = ps.length := by omega
      subst this
      simp [hp]
  · simp [hp]
theorem Good.crash {ps : List Pg} (la : Nat) (pk : List UInt8) : Good (crashPs pk la ps) (crashPs pk la ps).length := by
  refine ⟨fun j hj hl => by omega, fun h0 => ?_⟩
  have hle := trimPs_le (stage pk la (ps.length - la) ps).length (stage pk la (ps.length - la) ps)
  have hlen : (crashPs pk la ps).length = trimPs (stage pk la (ps.length - la) ps).length (stage pk la (ps.length - la) ps) := by
    unfold crashPs
    rw [List.length_take]; omega
  obtain ⟨p, hp, hi⟩ := trimPs_last (stage pk la (ps.length - la) ps) _ (Nat.le_refl _) (by omega)
  have hq : (crashPs pk la ps)[(crashPs pk la ps).length - 1]? = some p := by
    rw [hlen]
    show (List.take _ _)[_]? = _
    rw [List.getElem?_take, if_pos (by omega)]
    exact hp
  rw [List.getElem?_eq_getElem (by omega)] at hq
  rw [Option.some.inj hq]
  exact hi
theorem Good.twin {ps : List Pg} {la : Nat} (h : Good ps la) (pk : List UInt8) : crashPs pk ps.length ps = ps := by
  unfold crashPs
  rw [Nat.sub_self, stage_zero]
  have : trimPs ps.length ps = ps.length := by
    cases hn : ps.length with
    | zero => rfl
    | succ n =>
      rw [trimPs_step n ps (by omega), if_neg]
      have := h.l (by omega)
      simpa [hn] using this
  show ps.take (trimPs ps.length ps) = ps
  rw [this, List.take_length]
theorem F2.crash {ps : List Pg} {rs : List Rp} {la : Nat} (pk : List UInt8) (h : F2 ps.length (stage pk la (ps.length - la) ps) rs) : F2 (crashPs pk la ps).length (crashPs pk la ps) rs := by
  have h : F2 (stage pk la (ps.length - la) ps).length (stage pk la (ps.length - la) ps) rs := by rw [stage_len]; exact h
  unfold crashPs
  refine F2.trim _ h ?_
  have := trimPs_drop (stage pk la (ps.length - la) ps) _ (Nat.le_refl _)
  rwa [List.take_length] at this

section
variable {w w' : World} {n0 g g2 R room la : Nat} {v : Value} {ps : List Pg} {rs : List Rp}
theorem RDev.keep (h : RDev w n0 g2 R rs) {M : Nat → Prop} (hf : Fr M w w') (h1 : ¬ M g2) (h2 : ¬ M R) (h3 : ∀ p ∈ rs, ∀ k, (Value.slice p.A p.l.length p.c).ownBlock = some k → ¬ M k) : RDev w' n0 g2 R rs :=
  ⟨h.ge, h.geR, h.ne, hf.cells h.blk h1, hf.cells h.row h2, fun p hp => hf.owns (h.pgs p hp) (h3 p hp), h.rm⟩
theorem RDev.below (h : RDev w n0 g2 R rs) (hb : Below w.heap.size w w') : RDev w' n0 g2 R rs :=
  h.keep (M := fun _ => False) (Fr.of_below hb) (fun x => x) (fun x => x) (fun _ _ _ _ x => x)
/-- The device's calls leave the document's. -/
theorem RDev.apart (h : RDev w n0 g2 R rs) (D : Dev w n0 g v room ps la) (hf : Fr (Dev.M g v) w w') : RDev w' n0 g2 R rs := by
  refine h.keep hf ?_ ?_ ?_
  · rintro (e | e)
    · have := D.blk; rw [← e, h.blk] at this; simp at this
    · exact owns_ne D.row h.blk (by decide) e
  · rintro (e | e)
    · have := D.blk; rw [← e, h.row] at this; simp at this
    · exact owns_ne D.row h.row (by decide) e
  · rintro p hp k hk (rfl | e)
    · exact owns_ne (h.pgs p hp) D.blk (by decide) hk
    · exact owns_apart (h.pgs p hp) D.row (by decide) k hk e
/-- The document's calls leave the device. -/
theorem Dev.apartR (D : Dev w n0 g v room ps la) (h : RDev w n0 g2 R rs) (hf : RFr g2 R w w') : Dev w' n0 g v room ps la := by
  refine D.keep hf ?_ ?_ ?_
  · rintro (e | e)
    · have := D.blk; rw [e, h.blk] at this; simp at this
    · have := D.blk; rw [e, h.row] at this; simp at this
  · rintro k hk (rfl | rfl)
    · exact owns_ne D.row h.blk (by decide) hk
    · exact owns_ne D.row h.row (by decide) hk
  · rintro p hp k hk (rfl | rfl)
    · exact owns_ne (D.pgs p hp) h.blk (by decide) hk
    · exact owns_ne (D.pgs p hp) h.row (by decide) hk
theorem RDev.fr (h : RDev w n0 g2 R rs) (hn0 : n0 ≤ w.heap.size) (hf : RFr g2 R w w') : Below n0 w w' := Fr.below hf hn0 (fun k hk => by rcases hk with rfl | rfl; exact h.ge; exact h.geR)

/-- Both. -/
structure Both (w : World) (n0 g : Nat) (v : Value) (room : Nat) (ps : List Pg) (la g2 R : Nat) (rs : List Rp) : Prop where
  d : Dev w n0 g v room ps la
  r : RDev w n0 g2 R rs
  f : F2 la ps rs
  gd : Good ps la
  len : rs.length = room
  short : Short ps
theorem Both.below (h : Both w n0 g v room ps la g2 R rs) (hb : Below w.heap.size w w') : Both w' n0 g v room ps la g2 R rs := ⟨h.d.below hb, h.r.below hb, h.f, h.gd, h.len, h.short⟩
theorem Both.next (h : Both w n0 g v room ps la g2 R rs) : rnext rs.length rs = ps.length := h.f.next h.gd.l _ h.f.len (Nat.le_refl _)
theorem Both.rshort (h : Both w n0 g v room ps la g2 R rs) : ∀ q ∈ rwh rs, q.l.length ≤ 300 := by
  intro q hq
  have hm : q.l ∈ (rwh rs).map (·.l) := List.mem_map_of_mem hq
  rw [h.f.whole] at hm
  obtain ⟨p, hp, hpe⟩ := List.mem_map.1 hm
  rw [← hpe]
  exact h.short p (List.mem_filter.1 (show p ∈ List.filter _ _ from hp)).1
end
end Go.Proofs.Ytbmodlhnkbohhaa
