/- plan.First. -/
import Derived.Test.YtohahhijbneheaaDoorPlanM
import Derived.Test.YtohahhijbneheaaDoorWide
import Derived.Deep.RegionLaw
namespace Go.Proofs.YtohahhijbneheaaDoor
open Go.RowKit
set_option linter.unusedVariables false
attribute [local go_sem] Oper.semAt_some

theorem info_ints : (Tryd.prog.info? 25).map (fun i => (i.zero, i.size, i.bytes)) = some (some (.slice none 0 0), 1, 24) := by kernel_rfl
theorem made_slices (n : Nat) : madeCells (Value.slice none 0 0).cells (n * 1) = (List.replicate n (Value.slice none 0 0)).toArray := by
  apply Array.ext
  · simp [madeCells]
  · intro i h1 h2
    simp [madeCells, Value.cells, Nat.mod_one]

/-- A block that is known whole, with its type. -/
def Obj1 (W : World) (b : Nat) (t : TypeId) (cs : Array Value) : Prop := W.heap[b]? = some (.cells cs t (0, 0))
theorem Obj1.blk {W : World} {b : Nat} {t : TypeId} {cs : Array Value} (h : Obj1 W b t cs) : Blk W b cs := .of_heap h
theorem Obj1.lt {W : World} {b : Nat} {t : TypeId} {cs : Array Value} (h : Obj1 W b t cs) : b < W.heap.size := (Array.getElem?_eq_some_iff.1 h).1
theorem Obj1.new (W : World) (t : TypeId) (cs : Array Value) : Obj1 (W.alloc (.cells cs t)) W.heap.size t cs := heap_alloc_new W _
theorem Obj1.alloc {W : World} {b : Nat} {t : TypeId} {cs : Array Value} (h : Obj1 W b t cs) (o : Obj) : Obj1 (W.alloc o) b t cs := (Below.heap_alloc _ _ b h.lt).trans h
theorem Obj1.grown {W W' : World} {b : Nat} {t : TypeId} {cs : Array Value} {row : Option Nat} (h : Obj1 W b t cs) (hg : W.grownBy W' row) (hr : some b ≠ row) : Obj1 W' b t cs := (hg.block b h.lt hr).trans h
theorem Obj1.far {W : World} {b : Nat} {t : TypeId} {cs : Array Value} (h : Obj1 W b t cs) {p : Addr} (hp : b ≠ p.block) (u : Value) : Obj1 (W.setCell p u) b t cs := (Below.heap_setCell W p u b hp).trans h
theorem Obj1.drewN {W : World} {b : Nat} {t : TypeId} {cs : Array Value} (h : Obj1 W b t cs) (q : Nat) : Obj1 (W.drewN q) b t cs := h
theorem Obj1.below {W W' : World} {b B : Nat} {t : TypeId} {cs : Array Value} (h : Obj1 W b t cs) (hb : Below B W W') (hB : b < B) : Obj1 W' b t cs := (hb.block b hB).trans h
theorem Obj1.ne {W : World} {b : Nat} {t : TypeId} {cs : Array Value} (h : Obj1 W b t cs) {base e size n : Nat} {v : Value} {xs : List Value} (ho : W.ownsRow base e size v n xs) (hne : e ≠ t) : some b ≠ v.ownBlock := fun e' => owns_ne ho h hne e'.symm
/-- What First's loop holds at n. -/
structure FirstS (w : World) (c n : Nat) (rs : List Ch) (W : World) : Prop where
  rows : OwnRows W w.heap.size (w.heap.size + 1) rs
  len : rs.length = c
  ls : rs.map (·.l) = (List.range c).map (fun j => unitsOf c j n)
  p : Obj1 W (w.heap.size + 1 + 1) 24 #[.int .i64 0, .slice (some ⟨w.heap.size + 1, 0, none⟩) c c]
  z : Obj1 W w.heap.size 24 #[.int .i64 0, .slice none 0 0]
  bel : Below w.heap.size w W

theorem FirstS.row {w : World} {c n : Nat} {rs : List Ch} {W : World} (h : FirstS w c n rs W) {j : Nat} (hj : j < rs.length) : rs[j].l = unitsOf c j n := by
  have hx := congrArg (fun x => x[j]?) h.ls
  have hc : j < c := by rw [← h.len]; exact hj
  simpa [hj, hc] using hx
theorem FirstS.cell {w : World} {c n : Nat} {rs : List Ch} {W : World} (h : FirstS w c n rs W) {j : Nat} (hj : j < rs.length) : W.cell? ⟨w.heap.size + 1, j, none⟩ = some rs[j].val ∧ W.frozen? ⟨w.heap.size + 1, j, none⟩ = false := by
  refine ⟨?_, by simp [World.frozen?, h.rows.blk]⟩
  rw [cell_of_row W _ j _ _ (0, 0) h.rows.blk]
  simp [hj]
theorem FirstS.own {w : World} {c n : Nat} {rs : List Ch} {W : World} (h : FirstS w c n rs W) {j : Nat} (hj : j < rs.length) {A : Option Addr} {cc : Nat} {l : List Int} (hr : rs[j] = ⟨A, cc, l⟩) :
    W.ownsRow w.heap.size 3 1 (.slice A l.length cc) l.length (iv l) := by
  have h1 := h.rows.own j hj
  rw [hr] at h1
  exact h1
theorem OwnRows.far {W : World} {base R b i : Nat} {rs : List Ch} {t : TypeId} {cs : Array Value} (h : OwnRows W base R rs) (hz : Obj1 W b t cs) (ht : 3 ≠ t) (hb : R ≠ b) (u : Value) : OwnRows (W.setCell ⟨b, i, none⟩ u) base R rs :=
  ⟨(Below.heap_setCell W ⟨b, i, none⟩ u R hb).trans h.blk, fun j hj => (fr_set W b i u).owns (h.own j hj) (info_apart (h.own j hj) hz ht), h.apart⟩
theorem owns_drew {w : World} {base : Nat} {e : TypeId} {size n : Nat} {v : Value} {xs : List Value} (h : w.ownsRow base e size v n xs) : w.drew.ownsRow base e size v n xs := h
theorem OwnRows.drewN {W : World} {base R : Nat} {rs : List Ch} (h : OwnRows W base R rs) (q : Nat) : OwnRows (W.drewN q) base R rs := ⟨h.blk, h.own, h.apart⟩
theorem FirstS.drewN {w : World} {c n : Nat} {rs : List Ch} {W : World} (h : FirstS w c n rs W) (q : Nat) : FirstS w c n rs (W.drewN q) :=
  ⟨h.rows.drewN q, h.len, h.ls, h.p.drewN q, h.z.drewN q, bdrewN h.bel q⟩

theorem grown_undrew {w w2 : World} {r : Option Nat} (h : w.drew.grownBy w2 r) : w.grownBy w2 r := ⟨h.os, h.tape, h.output, h.size, h.block⟩
theorem FirstS.after {w : World} {c n : Nat} {rs : List Ch} {W w2 : World} {j : Nat} {l : List Int} {A : Option Addr} {cc : Nat} {o : Obj} (h : FirstS w c n rs W) (hj : j < rs.length) (hr : rs[j] = ⟨A, cc, l⟩)
    (hgrow : (W.alloc o).grownBy w2 (Value.slice A l.length cc).ownBlock) :
    w2.cell? ⟨w.heap.size + 1, j, none⟩ = some (.slice A l.length cc) ∧ w2.frozen? ⟨w.heap.size + 1, j, none⟩ = false ∧
    w2.cell? ⟨w.heap.size + 1 + 1, 1, none⟩ = some (.slice (some ⟨w.heap.size + 1, 0, none⟩) c c) ∧ w2.frozen? ⟨w.heap.size + 1 + 1, 1, none⟩ = false := by
  have ho := h.own hj hr
  have o1 : Obj1 W (w.heap.size + 1) 25 (rs.map Ch.val).toArray := h.rows.blk
  have b1 := ((o1.alloc o).grown hgrow ((o1.alloc o).ne (e := 3) (ho.alloc o) (by decide))).blk
  have b2 := ((h.p.alloc o).grown hgrow ((h.p.alloc o).ne (e := 3) (ho.alloc o) (by decide))).blk
  refine ⟨?_, b1.free _, b2.cell 1, b2.free _⟩
  rw [b1.cell j]
  simp [hj, hr]
/-- Behind the append: the rows, the plan's own cells. -/
theorem FirstS.next {w : World} {c n : Nat} {rs : List Ch} {W w2 : World} {gg cap j : Nat} {l : List Int} {A : Option Addr} {cc : Nat} {o : Obj} (h : FirstS w c n rs W) (hj : j < rs.length) (hr : rs[j] = ⟨A, cc, l⟩) (hjn : n % c = j)
    (hown : w2.ownsRow w.heap.size 3 1 (.slice (some ⟨gg, 0, none⟩) (l.length + 1) cap) (l.length + 1) (iv l ++ [.int .i64 (n : Int)]))
    (hgrow : (W.alloc o).grownBy w2 (Value.slice A l.length cc).ownBlock) (hat : (Value.slice A l.length cc).ownBlock = some gg ∨ gg = W.heap.size + 1) :
    FirstS w c (n + 1) (rs.set j ⟨some ⟨gg, 0, none⟩, cap, l ++ [(n : Int)]⟩) (w2.setCell ⟨w.heap.size + 1, j, none⟩ (.slice (some ⟨gg, 0, none⟩) (l.length + 1) cap)) := by
  have hl : l = unitsOf c j n := by
    have h2 := h.row hj
    rw [hr] at h2; exact h2
  have hrows := h.rows.step (x := (n : Int)) (gg := gg) (cap := cap) (w2 := w2) (o := o) hj (by rw [hr]; exact hown) (by rw [hr]; exact hgrow) (by rw [hr]; exact hat)
  rw [hr] at hrows
  refine ⟨hrows, by rw [List.length_set]; exact h.len, ?_, ?_, ?_, ?_⟩
  · rw [List.map_set, h.ls]
    apply List.ext_getElem?
    intro k
    have hcj : j < c := by rw [← h.len]; exact hj
    rw [List.getElem?_set]
    by_cases e : j = k
    · subst e
      have := unitsOf_step c j n
      rw [if_pos hjn] at this
      simp [hcj, this, hl]
    · rw [if_neg e]
      have := unitsOf_step c k n
      rw [if_neg (fun e' => e (hjn.symm.trans e'))] at this
      simp only [List.getElem?_map]
      by_cases hk : k < c
      · simp [hk, this]
      · rw [List.getElem?_eq_none (by simpa using hk)]; rfl
  · exact ((h.p.alloc o).grown hgrow ((h.p.alloc o).ne (e := 3) ((h.own hj hr).alloc o) (by decide))).far (p := ⟨w.heap.size + 1, j, none⟩) (by simp) _
  · exact ((h.z.alloc o).grown hgrow ((h.z.alloc o).ne (e := 3) ((h.own hj hr).alloc o) (by decide))).far (p := ⟨w.heap.size + 1, j, none⟩) (by simp) _
  · refine (h.bel.trans (((Below.refl _ W).alloc h.bel.size o).grown hgrow (by have := h.bel.size; simp; omega) (fun q e => ?_))).setCell (p := ⟨w.heap.size + 1, j, none⟩) (by simp) _
    have := own_lt (h.rows.own j hj) (g := q) (by rw [hr]; exact e)
    exact this.2

theorem first_start (w : World) (c : Nat) : Hid (FirstS w c 0 (List.replicate c ⟨none, 0, []⟩) (((w.alloc (.cells #[.int .i64 0, .slice none 0 0] 24)).alloc (.cells (List.replicate c (Value.slice none 0 0)).toArray 25)).alloc (.cells #[.int .i64 0, .slice (some ⟨w.heap.size + 1, 0, none⟩) c c] 24))) := by
  have o1 := Obj1.new (w.alloc (.cells #[.int .i64 0, .slice none 0 0] 24)) 25 (List.replicate c (Value.slice none 0 0)).toArray
  have o2 := Obj1.new ((w.alloc (.cells #[.int .i64 0, .slice none 0 0] 24)).alloc (.cells (List.replicate c (Value.slice none 0 0)).toArray 25)) 24 #[.int .i64 0, .slice (some ⟨w.heap.size + 1, 0, none⟩) c c]
  rw [World.size_alloc] at o1 o2
  rw [World.size_alloc] at o2
  refine ⟨⟨?_, ?_, ?_⟩, List.length_replicate, ?_, o2, ((Obj1.new w _ _).alloc _).alloc _, (((Below.refl _ _).alloc (Nat.le_refl _) _).alloc (by simp) _).alloc (by simp; omega) _⟩
  · have h := o1.alloc (.cells #[.int .i64 0, .slice (some ⟨w.heap.size + 1, 0, none⟩) c c] 24)
    rw [List.map_replicate]
    exact h
  · intro j hj
    rw [List.getElem_replicate]
    exact World.ownsRow_nil _ _ _ _
  · intro i j hi hj hne g hg
    rw [List.getElem_replicate] at hg
    simp [Value.ownBlock] at hg
  · rw [List.map_replicate]
    apply List.ext_getElem?
    intro k
    by_cases hk : k < c
    · simp [hk, unitsOf]
    · simp [hk]

set_option maxRecDepth 100000 in
set_option maxHeartbeats 4000000 in
theorem first_ok (u c : Nat) (hu : u ≤ 7) (hc : 1 ≤ c) (hcu : c ≤ u) (w : World) :
    Calls Tryd.prog 11 #[.int .i64 (u : Int), .int .i64 (c : Int)] w fun e w' => NewPlan w.heap.size 0 (firstP u c) 0 e w' ∧ Below w.heap.size w w' := by
  obtain ⟨i0, hi, hz0, hz1, hz2⟩ := info_parts info_ints
  have hmk : ∀ w, (Instr.makeSlice 22 (.int .i64 (c : Int)) (.int .i64 (c : Int))).run Tryd.prog w = .ok (.slice (some ⟨w.heap.size, 0, none⟩) c c) (w.alloc (.cells (List.replicate c (Value.slice none 0 0)).toArray 25)) := fun w => by
    have h := run_make (P := Tryd.prog) w 22 25 i0 _ Tryd.underlying22 hi hz0 .i64 .i64 c c (by omega) (Int.le_refl _) (by rw [hz2]; omega) (by omega)
    rw [hz1, Int.toNat_natCast, made_slices] at h
    exact h
  clear hi hz0 hz1 hz2 i0
  have c1 : ¬ ((u : Int) < 1) := by omega
  have c2 : ¬ ((7 : Int) < (u : Int)) := by omega
  have c3 : ¬ ((c : Int) < 1) := by omega
  have c4 : ¬ ((u : Int) < (c : Int)) := by omega
  have HC := Lib.hid hc
  have HU := Lib.hid hu
  have HCU := Lib.hid hcu
  clear hc hu hcu
  go_enter Tryd.func11, Tryd.ntmps11
  go_wp2_with fail
  go_loopw [28] (fun s wr => ∃ (n : Nat) (rs : List Ch), n ≤ u ∧ s = .int .i64 (n : Int) ∧ Hid (FirstS w c n rs wr)) (fun s _ => u - (intOf s).toNat)
  case atStart => exact ⟨0, List.replicate c ⟨none, 0, []⟩, Nat.zero_le _, rfl, first_start w c⟩
  case round =>
    obtain ⟨n, rs, hn, rfl, hS⟩ := hrel
    have hcP := hS.out.p.blk.cell 1
    by_cases hlt : n < u
    · have hi1 : (n : Int) < (u : Int) := by omega
      have hc0 := HC.out
      obtain ⟨j, hjn⟩ : ∃ j, n % c = j := ⟨_, rfl⟩
      have hjc : j < c := by rw [← hjn]; exact Nat.mod_lt _ (by omega)
      have hjr : j < rs.length := by rw [hS.out.len]; exact hjc
      have hqm : ((n : Int)) % ((c : Nat) : Int) = (j : Int) := by rw [← hjn]; rfl
      have hqm2 : ((n : Int)).tmod ((c : Nat) : Int) = (j : Int) := by rw [← hjn]; rfl
      have hi2 : (j : Int) < (c : Int) := by omega
      have hcz : ¬ (c = 0) := by omega
      obtain ⟨⟨A, cc, l⟩, hr⟩ : ∃ r, rs[j] = r := ⟨_, rfl⟩
      obtain ⟨hc1, hf1⟩ := hS.out.cell hjr
      rw [hr] at hc1
      replace hc1 : wr.cell? ⟨w.heap.size + 1, j, none⟩ = some (.slice A l.length cc) := hc1
      have hl : l.length ≤ 7 := by
        have h2 := hS.out.row hjr
        rw [hr] at h2
        have h3 : l = unitsOf c j n := h2
        have := unitsOf_len c j n
        have := HU.out
        rw [h3]; omega
      have hown := hS.out.own hjr hr
      have HOWN := Lib.hid hown
      have HR := Lib.hid hr
      have HJN := Lib.hid hjn
      have hRlt : w.heap.size + 1 < wr.heap.size := by have := hS.out.p.lt; omega
      have hPlt : w.heap.size + 1 + 1 < wr.heap.size := hS.out.p.lt
      have HL := Lib.hid hl
      clear hr hjn hl hown hc0
      go_wp2_with fail
      have HS1 := Lib.hid (fun q => hS.out.drewN q)
      have H63 : Hid (l.length + 1 ≤ maxLen) := by have := HL.out; show _ ≤ _; unfold maxLen; omega
      have HBY : Hid ((l.length + 1) * 8 ≤ 140737488355328) := by have := HL.out; show _ ≤ _; omega
      go_region_law
        (go_loud (
         obtain ⟨i0, hi0, hz0, hz1, hz2⟩ := info_parts info_int
         refine step_append_lies _ (by rfl) _ _ _ (by rfl) w.heap.size 3 i0 _ 1 8 Tryd.underlying25 hi0 hz0 hz1 hz2 rfl (by omega) (.slice A l.length cc) l.length (iv l) (by rfl) (by first | exact owns_drew (HOWN.out.alloc _) | exact (owns_drew HOWN.out).alloc _)
           ⟨wr.heap.size, 0, none⟩ 1 1 [.int .i64 (n : Int)] (by rfl) (by rfl) (World.news_of_block (cs := #[.int .i64 (n : Int)]) (t := 3) (fr := (0, 0)) (heap_alloc_new wr _)) (by simp [Value.oneCell'])
           (by omega) H63.out HBY.out (by have := hS.out.bel.size; simp; omega) (wr.heap.size + 1) (by simp) ?_
         intro gg cap w2 hown2 hgrow hat hlt2
         clear hi0 hz0 hz1 hz2 i0
         have HG := Lib.hid (grown_undrew hgrow)
         have HO2 := Lib.hid hown2
         have HAT := Lib.hid hat
         clear hgrow hown2 hat
         obtain ⟨hq1, hq2, hq3, hq4⟩ := hS.out.after hjr HR.out HG.out))
      all_goals
        go_wp2
        go_roundw
        case rel => exact ⟨n + 1, _, by omega, by go_num, Lib.hid (hS.out.next hjr HR.out HJN.out HO2.out HG.out HAT.out)⟩
        case measure => simp [intOf]; omega
    · obtain rfl : n = u := by omega
      have hend : ¬ ((n : Int) < (n : Int)) := by omega
      have hz0 := hS.out.z.blk.cell 0
      have hz1 := hS.out.z.blk.cell 1
      have hzf := hS.out.z.blk.free
      have hp0 := hS.out.p.blk.cell 0
      have hzl := hS.out.z.blk.lt
      go_wp2_with fail
      refine bodyPost_ret (v := .tuple #[.agg #[.int .i64 0, .slice (some ⟨w.heap.size + 1, 0, none⟩) c c], .int .i64 0]) (results_row_tmp Tryd.results11 _ _ w.heap.size 24 #[.int .i64 0, .slice (some ⟨w.heap.size + 1, 0, none⟩) c c] (0, 0) _ _ rfl rfl ?_ Tryd.underlying24 rfl (by kernel_rfl)) rfl ?_
      · exact blk_set (blk_set hS.out.z _) _
      · obtain ⟨rs2, hrs2⟩ : ∃ x, rs = x := ⟨_, rfl⟩
        have hl := hS.out.len
        refine ⟨⟨some ⟨w.heap.size + 1, 0, none⟩, c, rs, by rw [hl], by rw [hS.out.ls]; rfl, ?_, ⟨fun a ha => (by cases ha; exact Nat.le_succ _), fun r hr => (by obtain ⟨j, hj, rfl⟩ := List.getElem_of_mem hr; exact Lo.of_own (hS.out.rows.own j hj))⟩⟩, ?_⟩
        · exact ((hS.out.rows.far hS.out.z (by decide) (by omega) _).far (blk_set hS.out.z _) (by decide) (by omega) _).mem
        · exact (hS.out.bel.setCell (p := ⟨w.heap.size, 0, none⟩) (Nat.le_refl _) _).setCell (p := ⟨w.heap.size, 1, none⟩) (Nat.le_refl _) _

set_option maxHeartbeats 1000000 in
theorem first_bad (u c : Int) (h : u < 1 ∨ 7 < u ∨ c < 1 ∨ u < c) (w : World) :
    Calls Tryd.prog 11 #[.int .i64 u, .int .i64 c] w fun e w' => NewPlan w.heap.size 0 [] 1 e w' ∧ Below w.heap.size w w' := by
  by_cases t1 : u < 1
  · go_enter Tryd.func11, Tryd.ntmps11
    go_wp2_with fail
    refine bodyPost_ret (v := .tuple #[.agg #[.int .i64 0, .slice none 0 0], .int .i64 1]) (results_row_tmp Tryd.results11 _ _ w.heap.size 24 #[.int .i64 0, .slice none 0 0] (0, 0) _ _ rfl rfl (heap_alloc_new w _) Tryd.underlying24 rfl (by kernel_rfl)) rfl ?_
    exact ⟨NewPlan.nil _ 1 _, (Below.refl _ _).alloc (Nat.le_refl _) _⟩
  by_cases t2 : 7 < u
  · go_enter Tryd.func11, Tryd.ntmps11
    go_wp2_with fail
    refine bodyPost_ret (v := .tuple #[.agg #[.int .i64 0, .slice none 0 0], .int .i64 1]) (results_row_tmp Tryd.results11 _ _ w.heap.size 24 #[.int .i64 0, .slice none 0 0] (0, 0) _ _ rfl rfl (heap_alloc_new w _) Tryd.underlying24 rfl (by kernel_rfl)) rfl ?_
    exact ⟨NewPlan.nil _ 1 _, (Below.refl _ _).alloc (Nat.le_refl _) _⟩
  by_cases t3 : c < 1
  · go_enter Tryd.func11, Tryd.ntmps11
    go_wp2_with fail
    refine bodyPost_ret (v := .tuple #[.agg #[.int .i64 0, .slice none 0 0], .int .i64 1]) (results_row_tmp Tryd.results11 _ _ w.heap.size 24 #[.int .i64 0, .slice none 0 0] (0, 0) _ _ rfl rfl (heap_alloc_new w _) Tryd.underlying24 rfl (by kernel_rfl)) rfl ?_
    exact ⟨NewPlan.nil _ 1 _, (Below.refl _ _).alloc (Nat.le_refl _) _⟩
  have t4 : u < c := by omega
  go_enter Tryd.func11, Tryd.ntmps11
  go_wp2_with fail
  refine bodyPost_ret (v := .tuple #[.agg #[.int .i64 0, .slice none 0 0], .int .i64 1]) (results_row_tmp Tryd.results11 _ _ w.heap.size 24 #[.int .i64 0, .slice none 0 0] (0, 0) _ _ rfl rfl (heap_alloc_new w _) Tryd.underlying24 rfl (by kernel_rfl)) rfl ?_
  exact ⟨NewPlan.nil _ 1 _, (Below.refl _ _).alloc (Nat.le_refl _) _⟩
end Go.Proofs.YtohahhijbneheaaDoor
