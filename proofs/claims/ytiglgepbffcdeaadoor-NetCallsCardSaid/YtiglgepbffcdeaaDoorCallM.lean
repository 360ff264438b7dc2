/- tidelinelaw13.Call: nineteen cells; a slice of calls that came in; loads and stores of one. -/
/- A slice of calls that came in is no longer than a slice can be. -/
/- tidelinelaw13.great: what it says no to is short. -/
import Derived.Test.YtiglgepbffcdeaaDoorReadM
import Derived.Test.YtiglgepbffcdeaaDoorNetM
namespace Go.Proofs.YtiglgepbffcdeaaDoor
open Go.RowKit Go.ChangeShapes Go.WideShapes Go.ChangeAt
set_option linter.unusedVariables false

structure Cc where
  wh : Int
  pt : Int
  st : Bool
  x : Mm
def Cc.cs (c : Cc) : List Value := .int .i64 c.wh :: .int .i64 c.pt :: .bool c.st :: c.x.cs
abbrev ccs (b1 b2 : Int) (b3 : Bool) (a1 a2 a3 : Int) (a4 : Bool) (a5 a6 a7 a8 : Int) (s9 : Value) (a10 a11 : Int) (s12 : Value) (a13 a14 a15 a16 : Int) : Array Value :=
  #[.int .i64 b1, .int .i64 b2, .bool b3, .int .i64 a1, .int .i64 a2, .int .i64 a3, .bool a4, .int .i64 a5, .int .i64 a6, .int .i64 a7, .int .i64 a8, s9, .int .i64 a10, .int .i64 a11, s12, .int .i64 a13, .int .i64 a14, .int .i64 a15, .int .i64 a16]
def ccells (l : List Cc) : List Value := l.flatMap Cc.cs
theorem ccells_at : ∀ (l : List Cc) (k : Nat), (ccells l)[k]? = (l[k / 19]?).bind fun x => x.cs[k % 19]?
  | [], k => by simp [ccells]
  | q :: l, k => by
    have e : ccells (q :: l) = q.cs ++ ccells l := by unfold ccells; rw [List.flatMap_cons]
    have hq : q.cs.length = 19 := rfl
    rw [e]
    rcases Nat.lt_or_ge k 19 with hk | hk
    · rw [List.getElem?_append_left (by rw [hq]; exact hk), show k / 19 = 0 by omega, show k % 19 = k by omega]
      rfl
    · rw [List.getElem?_append_right (by rw [hq]; exact hk), hq, ccells_at l (k - 19), show k / 19 = (k - 19) / 19 + 1 by omega, show k % 19 = (k - 19) % 19 by omega]
      rfl
theorem ccells_len (l : List Cc) : (ccells l).length = l.length * 19 := by
  induction l with
  | nil => rfl
  | cons q l ih =>
    have e : ccells (q :: l) = q.cs ++ ccells l := by unfold ccells; rw [List.flatMap_cons]
    rw [e, List.length_append, ih]
    show 19 + _ = (l.length + 1) * 19
    omega
theorem cells_call : Tryd.prog.cellsOf 63 = 19 := by kernel_rfl
instance : Inhabited Cc := ⟨⟨0, 0, false, default⟩⟩

section
variable {H : Type} {enc : TypeId × Value → H} {w : World} {base : Nat} {spare : Nat → Bool} {held : Bool}
set_option maxRecDepth 100000 in
theorem rd_call_cells {fuel : Nat} {cs : List Value} {x : DataW H × List MemPlace} (hl : cs.length = 19) (h : DataW.trod enc Tryd.prog w base spare held fuel 63 cs = some x) :
    ∃ c : Cc, cs = c.cs ∧ InM w w.heap.size c.x ∧ (Lit.int .i64 c.pt).wf = true := by
  obtain ⟨x0, x1, x2, l, rfl⟩ : ∃ x0 x1 x2 l, cs = x0 :: x1 :: x2 :: l := by
    match cs, hl with
    | x0 :: x1 :: x2 :: l, _ => exact ⟨x0, x1, x2, l, rfl⟩
  have hl16 : l.length = 16 := by simpa using hl
  obtain ⟨n0, y0, t0⟩ := rd_fieldAt Tryd.underlying63 h 0 3 0 1 rfl cells_int
  obtain ⟨z0, e0, -, w0⟩ := DataW.trod_int Tryd.underlying3 t0
  obtain ⟨n1, y1, t1⟩ := rd_fieldAt Tryd.underlying63 h 1 3 1 1 rfl cells_int
  obtain ⟨z1, e1, -, w1⟩ := DataW.trod_int Tryd.underlying3 t1
  obtain ⟨n2, y2, t2⟩ := rd_fieldAt Tryd.underlying63 h 2 4 2 1 rfl cells_bool
  obtain ⟨z2, e2, -⟩ := DataW.trod_bool Tryd.underlying4 t2
  obtain ⟨n3, y3, t3⟩ := rd_fieldAt Tryd.underlying63 h 3 34 3 16 rfl cells_msg
  simp only [List.drop_zero, List.drop_succ_cons, List.take_succ_cons, List.take_zero, List.cons.injEq, and_true] at e0 e1 e2
  have e3 : ((x0 :: x1 :: x2 :: l).drop 3).take 16 = l := by
    show l.take 16 = l
    exact List.take_of_length_le (Nat.le_of_eq hl16)
  rw [e3] at t3
  obtain ⟨m, A1, c1, A2, c2, e, k1, k2, s1, s2, -, -, -, m1, m2⟩ := rd_msg_cells hl16 t3
  subst e0 e1 e2
  exact ⟨⟨z0, z1, z2, ⟨m, A1, c1, A2, c2⟩⟩, by rw [e]; rfl, ⟨s1, s2, m1, m2, k1, k2⟩, w1⟩
set_option maxRecDepth 100000 in
theorem rd_calls0 {fuel : Nat} {cs : List Value} {x : DataW H × List MemPlace} (h : DataW.trod enc Tryd.prog w base spare held fuel 60 cs = some x) :
    ∃ (A : Option Addr) (c : Nat) (l : List Cc), cs = [.slice A l.length c] ∧ Sl w w.heap.size A (ccells l) ∧ (∀ x ∈ l, InM w w.heap.size x.x) ∧ ∀ x ∈ l, (Lit.int .i64 x.pt).wf = true := by
  rcases Go.Deep.open_slice Tryd.underlying60 h with ⟨rfl, -⟩ | ⟨a, len, cap, m, n, D, Pl, rfl, hb, hl, hm, hmm, -, hx⟩
  · exact ⟨none, 0, [], rfl, .inl rfl, by simp, by simp⟩
  · have hlm : len ≤ m := by rw [hmm]; split <;> omega
    rw [cells_call] at hx
    obtain ⟨F, hF⟩ := Go.Deep.choose_lt (α := Cc) (n := m) (p := fun i t => (∀ j, j < 19 → w.cell? ((a.add (i * 19)).add j) = t.cs[j]?) ∧ InM w w.heap.size t.x ∧ (Lit.int .i64 t.pt).wf = true) (fun i hi => by
      obtain ⟨cs', h1, h2⟩ := hx i hi
      obtain ⟨_, hlen, hc⟩ := World.cells?_some h1
      obtain ⟨c, e, q1, q2⟩ := rd_call_cells hlen h2
      refine ⟨c, fun j hj => ?_, q1, q2⟩
      rw [hc j hj, e])
    refine ⟨some a, cap, (List.range len).map F, by simp, ?_, ?_, ?_⟩
    · rcases Nat.eq_zero_or_pos len with h0 | h0
      · subst h0; exact .inl rfl
      · obtain ⟨b, o, s⟩ := a
        have h1 : w.cell? (((⟨b, o, s⟩ : Addr).add (0 * 19)).add 0) = some (.int .i64 (F 0).wh) := (hF 0 (by omega)).1 0 (by omega)
        have hs : s = none := by
          have := World.cell?_spot h1
          simpa [Addr.add] using this
        subst hs
        refine .inr ⟨b, o, rfl, ?_, ?_⟩
        · have := World.block_lt_of_cell? w _ h1
          simpa [Addr.add] using this
        · intro k u hu
          rw [ccells_at, List.getElem?_map] at hu
          by_cases hk : k / 19 < len
          · rw [List.getElem?_range hk] at hu
            have h2 := (hF (k / 19) (by omega)).1 (k % 19) (Nat.mod_lt _ (by decide))
            rw [addr_plain, addr_plain, show o + k / 19 * 19 + k % 19 = o + k by omega] at h2
            rw [h2]
            exact hu
          · rw [List.getElem?_eq_none (by simp; omega)] at hu
            cases hu
    · intro y hy
      obtain ⟨i, hi, rfl⟩ := List.mem_map.1 hy
      have := List.mem_range.1 hi
      exact (hF i (by omega)).2.1
    · intro y hy
      obtain ⟨i, hi, rfl⟩ := List.mem_map.1 hy
      have := List.mem_range.1 hi
      exact (hF i (by omega)).2.2
set_option maxRecDepth 100000 in
/-- A slice of calls. -/
theorem rd_calls {v : Value} {d : DataW H} {ps : List MemPlace} {okb : Nat}
    (hv : Value.okWide Tryd.prog w .any okb 60 v) (h : DataW.Trod enc Tryd.prog w base spare held 60 v d ps) :
    ∃ (A : Option Addr) (c : Nat) (l : List Cc), v = .slice A l.length c ∧ Sl w w.heap.size A (ccells l) ∧ (∀ x ∈ l, InM w w.heap.size x.x) ∧ ∀ x ∈ l, (Lit.int .i64 x.pt).wf = true := by
  obtain ⟨a, n, c, rfl⟩ := okWide_slice Tryd.underlying60 hv
  obtain ⟨m, hm⟩ := h
  obtain ⟨A, c', l, hcs, h1, h2⟩ := rd_calls0 hm
  obtain ⟨rfl, rfl, rfl⟩ : a = A ∧ n = l.length ∧ c = c' := by simpa [Value.cells] using hcs
  exact ⟨a, c, l, rfl, h1, h2⟩
end

set_option maxRecDepth 100000 in
/-- A call out of a row that came in. -/
theorem ld_call_sl {W : World} {b o i : Nat} {cl : List Cc} (h : RowAt W b o (ccells cl)) (hi : i < cl.length) :
    ldR Tryd.prog 63 (.pointer (some ⟨b, o + i * 19, none⟩)) W = .ok (.value (.agg cl[i].cs.toArray)) W := by
  have hl := run_loadCells (P := Tryd.prog) W ⟨b, o + i * 19, none⟩ 19 (fun j => cl[i].cs.getD j undef) (fun j hj => by
    have hadd : (⟨b, o + i * 19, none⟩ : Addr).add j = ⟨b, o + i * 19 + j, none⟩ := by unfold Addr.add; split <;> simp_all
    rw [hadd]
    have hl : j < cl[i].cs.length := hj
    have := h (i * 19 + j) cl[i].cs[j] (by
      rw [ccells_at, show (i * 19 + j) / 19 = i by omega, show (i * 19 + j) % 19 = j by omega, List.getElem?_eq_getElem hi]
      exact List.getElem?_eq_getElem hl)
    rw [Nat.add_assoc, this]
    simp [List.getD, List.getElem?_eq_getElem hl])
  have e1 : (isAgg 63).run Tryd.prog W = .ok true W := by simp [go_sem]
  have e2 : (sizeOf 63).run Tryd.prog W = .ok 19 W := by simp [go_sem]
  have e3 : ((List.range 19).map (fun j => cl[i].cs.getD j undef)) = cl[i].cs := rfl
  rw [e3] at hl
  have hv : (loadVar 63 ⟨b, o + i * 19, none⟩).run Tryd.prog W = .ok (.agg cl[i].cs.toArray) W := by
    unfold loadVar
    simp only [Sem.run_bind, e1, e2, Result.andThen_ok, hl, Sem.run_pure, if_true]
  simp only [ldR, Instr.loadAt, Instr.sureAddr, Sem.run_bind, Sem.run_pure, Result.andThen_ok, hv]
theorem exec_load_call (ev : Operand → Value) (d : Option Tmp) (t : TypeId) (x : Operand) (p : String) (af : Array Edge) (g : Option (Nat × Bool)) (w : World) :
    (execOp ev ⟨d, .load 63 x, t, p, af, g⟩).run Tryd.prog w = ldR Tryd.prog 63 (ev x) w := exec_load ev d _ t x p af g w
theorem exec_store_call (ev : Operand → Value) (d : Option Tmp) (t : TypeId) (x y : Operand) (p : String) (af : Array Edge) (g : Option (Nat × Bool)) (w : World) :
    (execOp ev ⟨d, .store 63 x y, t, p, af, g⟩).run Tryd.prog w = stR Tryd.prog 63 (ev x) (ev y) w := exec_store ev d _ t x y p af g w
attribute [go_sem ↓] exec_load_call exec_store_call
set_option maxHeartbeats 4000000 in
set_option maxRecDepth 100000 in
/-- The block of a call, laid anew. -/
theorem stR_call (b : Nat) (X : World) (x0 x1 x2 x3 x4 x5 x6 x7 x8 x9 x10 x11 x12 x13 x14 x15 x16 x17 x18 y0 y1 y2 y3 y4 y5 y6 y7 y8 y9 y10 y11 y12 y13 y14 y15 y16 y17 y18 : Value) (hb : b = X.heap.size) (h : (oneB y0 && oneB y1 && oneB y2 && oneB y3 && oneB y4 && oneB y5 && oneB y6 && oneB y7 && oneB y8 && oneB y9 && oneB y10 && oneB y11 && oneB y12 && oneB y13 && oneB y14 && oneB y15 && oneB y16 && oneB y17 && oneB y18) = true) :
    stR Tryd.prog 63 (.pointer (some ⟨b, 0, none⟩)) (.agg #[y0, y1, y2, y3, y4, y5, y6, y7, y8, y9, y10, y11, y12, y13, y14, y15, y16, y17, y18]) (X.alloc (.cells #[x0, x1, x2, x3, x4, x5, x6, x7, x8, x9, x10, x11, x12, x13, x14, x15, x16, x17, x18] 63)) = .ok .skip (X.alloc (.cells #[y0, y1, y2, y3, y4, y5, y6, y7, y8, y9, y10, y11, y12, y13, y14, y15, y16, y17, y18] 63)) := by
  have k : (storeVar 63 ⟨b, 0, none⟩ (.agg #[y0, y1, y2, y3, y4, y5, y6, y7, y8, y9, y10, y11, y12, y13, y14, y15, y16, y17, y18])).run Tryd.prog (X.alloc (.cells #[x0, x1, x2, x3, x4, x5, x6, x7, x8, x9, x10, x11, x12, x13, x14, x15, x16, x17, x18] 63)) = .ok () (X.alloc (.cells #[y0, y1, y2, y3, y4, y5, y6, y7, y8, y9, y10, y11, y12, y13, y14, y15, y16, y17, y18] 63)) := by
    subst hb
    refine run_store_whole 63 X _ _ rfl (by simp [go_sem]) ?_
    intro v hv
    simp only [List.mem_cons, List.not_mem_nil, or_false] at hv
    simp only [Bool.and_eq_true, and_assoc] at h
    obtain ⟨h0, h1, h2, h3, h4, h5, h6, h7, h8, h9, h10, h11, h12, h13, h14, h15, h16, h17, h18⟩ := h
    rw [oneB_eq]
    rcases hv with rfl | rfl | rfl | rfl | rfl | rfl | rfl | rfl | rfl | rfl | rfl | rfl | rfl | rfl | rfl | rfl | rfl | rfl | rfl <;> assumption
  simp only [stR, Instr.storeAt, Instr.sureAddr, Sem.run_bind, Sem.run_pure, Result.andThen_ok, k]
attribute [go_sem] stR_call
/-- The message in a call's block. -/
theorem ld_msg_in {W : World} {q : Nat} {b1 b2 : Int} {b3 : Bool} {x : Mm} {t : TypeId} (hq : W.heap[q]? = some (.cells (Cc.mk b1 b2 b3 x).cs.toArray t (0, 0))) :
    ldR Tryd.prog 34 (.pointer (some ⟨q, 3, none⟩)) W = .ok (.value x.val) W := by
  have hr : RowAt W q 3 (mcells [x]) := by
    intro k v hv
    rw [mcells_one] at hv
    have h1 := (Blk.of_heap hq).cell (3 + k)
    rw [List.getElem?_toArray, Nat.add_comm 3 k] at h1
    unfold Cc.cs at h1
    rw [List.getElem?_cons_succ, List.getElem?_cons_succ, List.getElem?_cons_succ] at h1
    rw [Nat.add_comm 3 k, h1]
    exact hv
  exact ld_msg_sl (B := 0) (i := 0) (ms := [x]) hr (Nat.zero_lt_one)
end Go.Proofs.YtiglgepbffcdeaaDoor
namespace Go.Proofs.YtiglgepbffcdeaaDoor
open Go.RowKit Go.ChangeShapes Go.WideShapes Go.ChangeAt
set_option linter.unusedVariables false
theorem calls_len {H : Type} {enc : TypeId × Value → H} {w : World} {base : Nat} {spare : Nat → Bool} {held : Bool} {A : Option Addr} {n c : Nat} {d : DataW H} {ps : List MemPlace}
    (h : DataW.Trod enc Tryd.prog w base spare held 60 (.slice A n c) d ps) : n ≤ maxLen := by
  obtain ⟨m, hm⟩ := h
  rcases Go.Deep.open_slice Tryd.underlying60 hm with ⟨h, -⟩ | ⟨a, len, cap, m, n', D, Pl, h, hb, hl, hmx, -⟩
  · obtain ⟨-, h2, -⟩ : A = none ∧ n = 0 ∧ c = 0 := by simpa [Value.cells] using h
    rw [h2]
    exact Nat.zero_le _
  · obtain ⟨-, h2, -⟩ : A = some a ∧ n = len ∧ c = cap := by simpa [Value.cells] using h
    rw [h2]
    exact Nat.le_trans hl hmx
end Go.Proofs.YtiglgepbffcdeaaDoor
namespace Go.Proofs.YtiglgepbffcdeaaDoor
open Go.RowKit
set_option linter.unusedVariables false

/-- What great says. -/
def GreatP (n : Nat) (e : Ending) : Prop := ∃ b, e = .returned (.bool b) ∧ (b = false → n ≤ 60)
set_option maxRecDepth 100000 in
set_option maxHeartbeats 8000000 in
theorem great_calls (A : Option Addr) (c : Nat) (cl : List Cc) (w : World) (hl : Sl w w.heap.size A (ccells cl)) (hin : ∀ x ∈ cl, InM w w.heap.size x.x) (hlen : cl.length ≤ maxLen) :
    Calls Tryd.prog 34 #[.slice A cl.length c] w fun e w' => GreatP cl.length e ∧ Below w.heap.size w w' := by
  have HL := Lib.hid hl
  have HIN := Lib.hid hin
  unfold maxLen at hlen
  obtain ⟨n, hN⟩ : ∃ n, cl.length = n := ⟨_, rfl⟩
  have HN := Lib.hid hN
  rw [hN] at hlen ⊢
  clear hl hin hN
  by_cases hbig : 60 < n
  · have hbi : (60 : Int) < (n : Int) := by omega
    go_enter Tryd.func34, Tryd.ntmps34
    go_wp2_with fail
    go_ret
    exact ⟨⟨true, rfl, fun h => by cases h⟩, Below.refl _ _⟩
  have hbi : ¬ ((60 : Int) < (n : Int)) := by omega
  have hn60 : n ≤ 60 := by omega
  clear hlen hbig
  go_enter Tryd.func34, Tryd.ntmps34
  go_wp2_with fail
  go_loopw [10] (fun s wr => ∃ (i : Nat), i ≤ n ∧ s = .int .i64 (i : Int) ∧ Hid (Below w.heap.size w wr)) (fun s _ => n - (intOf s).toNat)
  case atStart => exact ⟨0, Nat.zero_le _, rfl, Below.refl _ _⟩
  case round =>
    obtain ⟨i, hi, rfl, hB⟩ := hrel
    by_cases hlt : i < n
    · have hi1 : (i : Int) < (n : Int) := by omega
      have hil : i < cl.length := by rw [HN.out]; exact hlt
      obtain ⟨b1, o1, rfl, hb1, hrow⟩ : ∃ b o, A = some ⟨b, o, none⟩ ∧ b < w.heap.size ∧ RowAt wr b o (ccells cl) := by
        rcases HL.out.below hB.out with h | ⟨b, o, e, h1, h2⟩
        · have := congrArg List.length h
          rw [ccells_len] at this
          simp at this
          omega
        · exact ⟨b, o, e, h1, h2⟩
      have hld := ld_call_sl hrow hil
      obtain ⟨⟨d1, d2, d3, ⟨a1, a2, a3, a4, a5, a6, a7, a8, a9, a10, a11, a12, a13, a14, a15, a16⟩, A1, c1, A3, c3⟩, hxe⟩ : ∃ x, cl[i] = x := ⟨_, rfl⟩
      rw [hxe] at hld
      replace hld : ldR Tryd.prog 63 (.pointer (some ⟨b1, o1 + i * 19, none⟩)) wr = .ok (.value (.agg (ccs d1 d2 d3 a1 a2 a3 a4 a5 a6 a7 a8 (.slice A1 a9.length c1) a10 a11 (.slice A3 a12.length c3) a13 a14 a15 a16))) wr := hld
      have hB2 := Lib.hid (hB.out.alloc hB.out.size (.cells (ccs d1 d2 d3 a1 a2 a3 a4 a5 a6 a7 a8 (.slice A1 a9.length c1) a10 a11 (.slice A3 a12.length c3) a13 a14 a15 a16) 63))
      clear hrow hxe
      by_cases h300 : (300 : Int) < ((a9.length : Nat) : Int)
      · go_wp2_with fail
        go_ret
        exact ⟨⟨true, rfl, fun h => by cases h⟩, hB2.out⟩
      · by_cases h15 : (1500 : Int) < ((a12.length : Nat) : Int)
        · go_wp2_with fail
          go_ret
          exact ⟨⟨true, rfl, fun h => by cases h⟩, hB2.out⟩
        · go_wp2_with fail
          go_roundw
          case rel => exact ⟨i + 1, by omega, by go_num, hB2⟩
          case measure => simp [intOf]; omega
    · obtain rfl : i = n := by omega
      have hend : ¬ ((i : Int) < (i : Int)) := by omega
      go_wp2_with fail
      go_ret
      exact ⟨⟨false, rfl, fun _ => hn60⟩, hB.out⟩
end Go.Proofs.YtiglgepbffcdeaaDoor
