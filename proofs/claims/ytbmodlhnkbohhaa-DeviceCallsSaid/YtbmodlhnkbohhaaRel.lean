/- The device's pages and the document's: what they have in common. Plain. -/
import Derived.Test.YtbmodlhnkbohhaaRdevC
namespace Go.Proofs.Ytbmodlhnkbohhaa
set_option linter.unusedVariables false

/-- Page by page; behind the device's pages the document's are empty. k: how many of those to come last. -/
def F2 : Nat → List Pg → List Rp → Prop
  | _, [], rs => ∀ r ∈ rs, r.st = 0 ∧ r.la = false
  | _, _ :: _, [] => False
  | k, p :: ps, r :: rs => r.st = p.is ∧ (p.is = 1 → r.l = p.l) ∧ r.la = (decide (0 < k) && (p.is != 0)) ∧ F2 (k - 1) ps rs
theorem F2.len : ∀ {k : Nat} {ps : List Pg} {rs : List Rp}, F2 k ps rs → ps.length ≤ rs.length
  | _, [], rs, _ => Nat.zero_le _
  | k, p :: ps, r :: rs, h => by
    have := F2.len h.2.2.2
    simp; omega
theorem F2.whole : ∀ {k : Nat} {ps : List Pg} {rs : List Rp}, F2 k ps rs → (rwh rs).map (·.l) = (wh ps).map (·.l)
  | _, [], rs, h => by
    have : rwh rs = [] := List.filter_eq_nil_iff.2 fun r hr => by simp [(h r hr).1]
    rw [this]; rfl
  | k, p :: ps, r :: rs, h => by
    have ih := F2.whole h.2.2.2
    by_cases hp : p.is = 1
    · have hr : r.st = 1 := by rw [h.1, hp]
      have e1 : rwh (r :: rs) = r :: rwh rs := by simp [rwh, hr]
      have e2 : wh (p :: ps) = p :: wh ps := by simp [wh, hp]
      rw [e1, e2, List.map_cons, List.map_cons, ih, h.2.1 hp]
    · have hr : ¬ r.st = 1 := by rw [h.1]; exact hp
      have e1 : rwh (r :: rs) = rwh rs := by simp [rwh, hr]
      have e2 : wh (p :: ps) = wh ps := by simp [wh, hp]
      rw [e1, e2, ih]
theorem F2.at : ∀ {k : Nat} {ps : List Pg} {rs : List Rp}, F2 k ps rs → ∀ j (h1 : j < ps.length) (h2 : j < rs.length), rs[j].st = ps[j].is
  | k, p :: ps, r :: rs, h, 0, _, _ => h.1
  | k, p :: ps, r :: rs, h, j + 1, h1, h2 => F2.at h.2.2.2 j (by simpa using h1) (by simpa using h2)
theorem F2.beyond : ∀ {k : Nat} {ps : List Pg} {rs : List Rp}, F2 k ps rs → ∀ j (h1 : ps.length ≤ j) (h2 : j < rs.length), rs[j].st = 0
  | _, [], rs, h, j, _, h2 => (h _ (List.getElem_mem h2)).1
  | k, p :: ps, r :: rs, h, j + 1, h1, h2 => F2.beyond h.2.2.2 j (by simpa using h1) (by simpa using h2)
/-- The next page. -/
theorem F2.next {k : Nat} {ps : List Pg} {rs : List Rp} (h : F2 k ps rs) (hl : ∀ (h0 : 0 < ps.length), (ps[ps.length - 1]).is ≠ 0) : ∀ m, ps.length ≤ m → m ≤ rs.length → rnext m rs = ps.length
  | 0, h1, _ => by show 0 = ps.length; omega
  | m + 1, h1, h2 => by
    rw [rnext_step m rs h2]
    rcases Nat.lt_or_ge m ps.length with hm | hm
    · have e : m = ps.length - 1 := by omega
      have hs := h.at m hm h2
      rw [if_neg (by rw [hs]; subst e; exact hl (by omega))]
      omega
    · rw [if_pos (h.beyond m hm h2)]
      exact F2.next h hl m hm (by omega)
theorem F2.zero (n : Nat) : F2 0 [] (List.replicate n rzero) := fun r hr => by
  obtain ⟨_, rfl⟩ := List.mem_replicate.1 hr
  exact ⟨rfl, rfl⟩
/-- All lasts. -/
theorem F2.sync : ∀ {k : Nat} {ps : List Pg} {rs : List Rp}, F2 k ps rs → F2 ps.length ps (rs.map fun r => { r with la := r.st != 0 })
  | _, [], rs, h => fun r hr => by
    obtain ⟨q, hq, rfl⟩ := List.mem_map.1 hr
    have := (h q hq).1
    exact ⟨this, by simp [this]⟩
  | k, p :: ps, r :: rs, h => by
    refine ⟨h.1, h.2.1, ?_, ?_⟩
    · simp [h.1]
    · have := F2.sync h.2.2.2
      rw [List.length_cons, Nat.add_sub_cancel]
      exact this
/-- One more page. -/
theorem F2.append : ∀ {k : Nat} {ps : List Pg} {rs : List Rp}, F2 k ps rs → ∀ (p : Pg) (r : Rp), k ≤ ps.length → ps.length < rs.length → p.is = 1 → r.st = 1 → r.l = p.l → r.la = false → F2 k (ps ++ [p]) (rs.set ps.length r)
  | k, [], q :: rs, h, p, r, hk, _, hp, hr, hl, hla => by
    refine ⟨by rw [hr, hp], fun _ => hl, ?_, fun x hx => h x (List.mem_cons_of_mem _ hx)⟩
    have : k = 0 := by simpa using hk
    simp [hla, this]
  | k, q :: ps, s :: rs, h, p, r, hk, hlt, hp, hr, hl, hla => by
    refine ⟨h.1, h.2.1, h.2.2.1, ?_⟩
    exact F2.append h.2.2.2 p r (by simp at hk; omega) (by simpa using hlt) hp hr hl hla

theorem F2.allzero : ∀ {k : Nat} {ps : List Pg} {rs : List Rp}, F2 k ps rs → (∀ p ∈ ps, p.is = 0) → ∀ r ∈ rs, r.st = 0 ∧ r.la = false
  | _, [], rs, h, _ => h
  | k, p :: ps, s :: rs, h, hz => fun r hr => by
    have hp := hz p (List.mem_cons_self ..)
    rcases List.mem_cons.1 hr with rfl | hr
    · exact ⟨by rw [h.1, hp], by rw [h.2.2.1, hp]; simp⟩
    · exact F2.allzero h.2.2.2 (fun q hq => hz q (List.mem_cons_of_mem _ hq)) r hr
/-- Without the empty pages at the end. -/
theorem F2.trim : ∀ {ps : List Pg} {rs : List Rp} (t : Nat), F2 ps.length ps rs → (∀ p ∈ ps.drop t, p.is = 0) → F2 (ps.take t).length (ps.take t) rs
  | ps, rs, 0, h, hz => by
    rw [List.take_zero]
    exact F2.allzero h (by simpa using hz)
  | [], rs, t + 1, h, hz => h
  | p :: ps, r :: rs, t + 1, h, hz => by
    rw [List.take_succ_cons]
    refine ⟨h.1, h.2.1, ?_, ?_⟩
    · have := h.2.2.1
      rw [this]
      simp
    · have h2 : F2 ps.length ps rs := by
        have := h.2.2.2
        rw [List.length_cons, Nat.add_sub_cancel] at this
        exact this
      have ih := F2.trim t h2 (by simpa using hz)
      rw [List.length_cons, Nat.add_sub_cancel]
      exact ih
/-- One page turned. -/
theorem F2.set : ∀ {k : Nat} {ps : List Pg} {rs : List Rp}, F2 k ps rs → ∀ (j : Nat) (p : Pg) (r : Rp), j < ps.length → k ≤ j → r.st = p.is → (p.is = 1 → r.l = p.l) → r.la = false → F2 k (ps.set j p) (rs.set j r)
  | k, q :: ps, s :: rs, h, 0, p, r, _, hk, h1, h2, h3 => by
    have hk0 : k = 0 := by omega
    refine ⟨h1, h2, ?_, h.2.2.2⟩
    simp [h3, hk0]
  | k, q :: ps, s :: rs, h, j + 1, p, r, hj, hk, h1, h2, h3 =>
    ⟨h.1, h.2.1, h.2.2.1, F2.set h.2.2.2 j p r (by simpa using hj) (by omega) h1 h2 h3⟩
/-- Which pages a crash looks at. -/
theorem F2.laAt : ∀ {k : Nat} {ps : List Pg} {rs : List Rp}, F2 k ps rs → ∀ j (h1 : j < ps.length) (h2 : j < rs.length), rs[j].la = (decide (j < k) && (ps[j].is != 0))
  | k, p :: ps, r :: rs, h, 0, _, _ => h.2.2.1
  | k, p :: ps, r :: rs, h, j + 1, h1, h2 => by
    have := F2.laAt h.2.2.2 j (by simpa using h1) (by simpa using h2)
    simp only [List.getElem_cons_succ]
    rw [this]
    congr 1
    rw [decide_eq_decide]
    omega
end Go.Proofs.Ytbmodlhnkbohhaa
