/- (*net.Net).Take. -/
import Derived.Test.YtiglgepbffcdeaaDoorNetD
import Derived.Test.YtiglgepbffcdeaaDoorNetF
namespace Go.Proofs.YtiglgepbffcdeaaDoor
open Go.RowKit
set_option linter.unusedVariables false

/-- A message out of a row. -/
theorem ld_msg_at {W : World} {n0 gu n c i : Nat} {ms : List Mm} (h : W.ownsRow n0 34 16 (.slice (some ⟨gu, 0, none⟩) n c) n (mcells ms)) (hi : i < ms.length) :
    ldR Tryd.prog 34 (.pointer (some ⟨gu, i * 16, none⟩)) W = .ok (.value ms[i].val) W := by
  have hc : ∀ j, j < 16 → ∃ u, ms[i].cs[j]? = some u ∧ W.cell? ⟨gu, i * 16 + j, none⟩ = some u := by
    intro j hj
    have hl : j < ms[i].cs.length := hj
    refine ⟨ms[i].cs[j], List.getElem?_eq_getElem hl, (owns_cellS h ?_).1⟩
    rw [mcells_get ms i j hi hj]
    exact List.getElem?_eq_getElem hl
  have hl := run_load_msg gu (i * 16) W (fun j hj => by obtain ⟨u, _, h2⟩ := hc j hj; rw [h2]; rfl)
  have hv : ∀ j (hj : j < 16), (W.cell? ⟨gu, i * 16 + j, none⟩).getD undef = ms[i].cs[j]'hj := by
    intro j hj
    obtain ⟨u, h1, h2⟩ := hc j hj
    rw [h2]
    have : ms[i].cs[j]? = some (ms[i].cs[j]'hj) := List.getElem?_eq_getElem hj
    rw [this] at h1
    exact (Option.some.inj h1).symm
  simp only [ldR, Instr.loadAt, Instr.sureAddr, Sem.run_bind, Sem.run_pure, Result.andThen_ok, hl]
  have h0 := hv 0 (by decide)
  rw [Nat.add_zero] at h0
  rw [h0, hv 1 (by decide), hv 2 (by decide), hv 3 (by decide), hv 4 (by decide), hv 5 (by decide), hv 6 (by decide), hv 7 (by decide), hv 8 (by decide), hv 9 (by decide), hv 10 (by decide), hv 11 (by decide), hv 12 (by decide), hv 13 (by decide), hv 14 (by decide), hv 15 (by decide)]
  rfl
theorem own_nil {w : World} {base n c : Nat} {e : TypeId} {A : Option Addr} {xs : List Value} (h : w.ownsRow base e 1 (.slice A n c) n xs) : A = none → c = 0 := by
  rintro rfl
  rcases h.2 with ⟨h0, _⟩ | ⟨g, cap, cur, h0, _⟩
  · injection h0
  · injection h0 with h0; cases h0

/-- Behind a Take that takes out. -/
def Taken (n0 g : Nat) (v : Value) (ms : List Mm) (i : Nat) (w w' : World) : Prop :=
  ∃ v', NetS w' n0 g v' (ms.eraseIdx i) ∧ Fr (NM g v) w w' ∧ (∀ k, v'.ownBlock = some k → v.ownBlock = some k)
/-- Behind Delete, and the store of what is left. -/
theorem taken_close {w w1 w2 : World} {n0 g gu c n i j : Nat} {ms : List Mm} (D : NetS w1 n0 g (.slice (some ⟨gu, 0, none⟩) n c) ms) (hn : ms.length = n) (hi : i < n) (hj : j = i + 1) (hb : Below w.heap.size w w1)
    (hown : w2.ownsRow n0 34 16 (.slice (some ⟨gu, 0, none⟩) (i + (n - j)) c) (i + (n - j)) (mcells (ms.eraseIdx i))) (hg : w1.grownBy w2 (some gu)) :
    Taken n0 g (.slice (some ⟨gu, 0, none⟩) n c) ms i w (w2.setCell ⟨g, 0, none⟩ (.slice (some ⟨gu, 0, none⟩) (i + (n - j)) c)) ∧
    (∀ {base k : Nat} {u : Value} {xs : List Value}, w1.ownsRow base 5 1 u k xs → (w2.setCell ⟨g, 0, none⟩ (.slice (some ⟨gu, 0, none⟩) (i + (n - j)) c)).ownsRow base 5 1 u k xs) := by
  have hne : some g ≠ some gu := fun e => owns_ne D.row D.blk (by decide) e.symm
  have hblk : w2.heap[g]? = some (.cells #[.slice (some ⟨gu, 0, none⟩) n c] 101 (0, 0)) := (hg.block g D.lt hne).trans D.blk
  have f1 : Fr (NM g (.slice (some ⟨gu, 0, none⟩) n c)) w1 w2 := (Fr.refl _ w1).grown hg (fun k hk _ => .inr hk)
  have f2 := fr_set w2 g 0 (.slice (some ⟨gu, 0, none⟩) (i + (n - j)) c)
  have keepB : ∀ {base k : Nat} {u : Value} {xs : List Value}, w1.ownsRow base 5 1 u k xs → (w2.setCell ⟨g, 0, none⟩ (.slice (some ⟨gu, 0, none⟩) (i + (n - j)) c)).ownsRow base 5 1 u k xs := by
    intro base k u xs hu
    have h2 := f1.owns hu (fun k hk hm => by
      rcases hm with rfl | hm
      · exact owns_ne hu D.blk (by decide) hk
      · exact owns_apart hu D.row (by decide) k hk hm)
    exact f2.owns h2 (info_apart h2 hblk (by decide))
  have hel : (ms.eraseIdx i).length = i + (n - j) := by rw [List.length_eraseIdx_of_lt (by omega)]; omega
  refine ⟨⟨.slice (some ⟨gu, 0, none⟩) (i + (n - j)) c, ⟨D.ge, blk_set hblk _, ?_, ?_, ?_, ?_⟩, ?_, fun k hk => hk⟩, keepB⟩
  · rw [hel]
    exact f2.owns hown (info_apart hown hblk (by decide))
  · intro y hy
    have hy2 := List.mem_of_mem_eraseIdx hy
    exact ⟨keepB (D.dat y hy2).cd, keepB (D.dat y hy2).va⟩
  · intro y hy
    exact D.fit y (List.mem_of_mem_eraseIdx hy)
  · rw [hel]; have := D.le; omega
  · exact (((Fr.of_below hb).trans f1 (fun _ _ h => h)).trans f2 (fun i _ e => .inl e))
theorem owns_rowNe {w : World} {base k : Nat} {e : TypeId} {size n : Nat} {v : Value} {xs : List Value} (h : w.ownsRow base e size v n xs) (hv : v.ownBlock ≠ some k) (ys : Array Value) : (w.setRow k ys).ownsRow base e size v n xs := by
  refine ⟨h.1, ?_⟩
  rcases h.2 with hn | ⟨g, cap, cur, rfl, hb, hh, rest⟩
  · exact .inl hn
  · refine .inr ⟨g, cap, cur, rfl, hb, ?_, rest⟩
    rw [setRow_other w k g ys (fun e2 => hv (by rw [e2]; rfl))]
    exact hh
theorem NetS.setRow {w : World} {n0 g k : Nat} {v : Value} {ms : List Mm} {cs : Array Value} (h : NetS w n0 g v ms) (hk : k ≠ g) (hv : v.ownBlock ≠ some k) (hb : w.heap[k]? = some (.cells cs 34 (0, 0))) (ys : Array Value) : NetS (w.setRow k ys) n0 g v ms :=
  ⟨h.ge, (setRow_other w k g ys (fun e => hk e.symm)).trans h.blk, owns_rowNe h.row hv ys, fun x hx => ⟨owns_row (h.dat x hx).cd hb (by decide) ys, owns_row (h.dat x hx).va hb (by decide) ys⟩, h.fit, h.le⟩
theorem Taken.setRow {w w' : World} {n0 g i : Nat} {v : Value} {ms : List Mm} {cs : Array Value} (h : Taken n0 g v ms i w w') (hg : g < w.heap.size) (hv : ∀ k, v.ownBlock = some k → k < w.heap.size) (hb : w'.heap[w.heap.size]? = some (.cells cs 34 (0, 0))) (ys : Array Value) :
    Taken n0 g v ms i w (w'.setRow w.heap.size ys) := by
  obtain ⟨v', hn, hf, hx⟩ := h
  refine ⟨v', hn.setRow (by omega) (fun e => by have := hv _ (hx _ e); omega) hb ys, ?_, hx⟩
  exact hf.trans (M' := fun k => k = w.heap.size) ⟨rfl, rfl, rfl, by simp [World.setRow], fun k _ hk => setRow_other w' w.heap.size k ys hk⟩ (fun j hj e => by omega)
end Go.Proofs.YtiglgepbffcdeaaDoor
