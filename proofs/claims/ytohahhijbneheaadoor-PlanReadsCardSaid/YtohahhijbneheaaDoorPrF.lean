/- plan.Encode. -/
import Derived.Test.YtohahhijbneheaaDoorPlanN
import Derived.Test.YtohahhijbneheaaDoorWr
import Derived.Test.YtohahhijbneheaaDoorRw
namespace Go.Proofs.YtohahhijbneheaaDoor
open Go.RowKit
set_option linter.unusedVariables false

/-- A chain's bytes, a plan's bytes. -/
def putI (c : List Int) : List UInt8 := beBytes c.length 4 ++ c.map b8
def encPlan (e : Int) (cs : List (List Int)) : List UInt8 := beBytes (u64of e) 4 ++ beBytes cs.length 4 ++ (cs.map putI).flatten
theorem putI_len (c : List Int) : (putI c).length = 4 + c.length := by unfold putI; rw [List.length_append, be_len, List.length_map]
theorem flat_len {cs : List (List Int)} (h : ∀ c ∈ cs, c.length ≤ 12) : ((cs.map putI).flatten).length ≤ 16 * cs.length := by
  induction cs with
  | nil => simp
  | cons c cs ih =>
    rw [List.map_cons, List.flatten_cons, List.length_append, putI_len, List.length_cons]
    have h1 := h c (by simp)
    have h2 := ih (fun d hd => h d (by simp [hd]))
    omega

/-- Done: the writer holds L. -/
def WrDone (n0 g : Nat) (L : List UInt8) (w : World) (e : Ending) (w' : World) : Prop := e = .returned (.tuple #[]) ∧ ∃ v', Wr w' n0 g v' L ∧ Below n0 w w'
theorem put_one {w : World} {n0 g : Nat} {v : Value} {l : List UInt8} (h : Wr w n0 g v l) (z : Int) (hl : l.length ≤ 70368744170000) (hn0 : n0 ≤ w.heap.size) :
    Calls Tryd.prog 50 #[.pointer (some ⟨g, 0, none⟩), .int .i64 z] w fun e w' => e = .returned (.tuple #[]) ∧ ∃ v', Wr w' n0 g v' (l ++ [b8 z]) ∧ Below n0 w w' := by
  have H := Lib.hid h
  clear h
  go_enter Tryd.func50, Tryd.ntmps50
  go_wp2_with fail
  rw [byte_conv z]
  refine (byte_ok H.out (b8 z) (by omega) hn0).mono ?_
  rintro e w1 ⟨rfl, v1, hw1, hb1⟩
  go_wp2_with fail
  go_end0
  exact ⟨rfl, v1, hw1, hb1⟩

set_option maxRecDepth 100000 in
set_option maxHeartbeats 2000000 in
theorem put_ints {w : World} {n0 g : Nat} {v : Value} {l : List UInt8} (h : Wr w n0 g v l) (A : Option Addr) (cc B : Nat) (c : List Int) (hc : Sl w B A (iv c)) (hB : B ≤ n0) (h12 : c.length ≤ 12) (hl : l.length ≤ 1000000) (hn0 : n0 ≤ w.heap.size) :
    Calls Tryd.prog 49 #[.pointer (some ⟨g, 0, none⟩), .slice A c.length cc, .func (.func 50) #[] #[]] w (WrDone n0 g (l ++ putI c) w) := by
  have H := Lib.hid h
  have HC := Lib.hid hc
  obtain ⟨n, hN⟩ : ∃ n, c.length = n := ⟨_, rfl⟩
  have HN := Lib.hid hN
  rw [hN] at h12 ⊢
  have hcv : IntKind.u64.wrap (n : Int) = (n : Int) := by rw [IntKind.wrap_u64]; omega
  have h12i : ¬ ((12 : Int) < (n : Int)) := by omega
  clear h hc hN
  have heq : ∀ W, Sem.run Tryd.prog (binOp BinOp.eql 85 (Value.func (Fn.func 50) #[] #[]) Value.nilFunc) W = .ok (.bool false) W := fun W => rfl
  go_enter Tryd.func49, Tryd.ntmps49
  go_wp2_with fail
  refine (number_ok H.out n 4 (by omega) (by decide) (by omega) hn0).mono ?_
  rintro e w1 ⟨rfl, v1, h1, hb1⟩
  have H1 : Hid (Wr w1 n0 g v1 (l ++ beBytes n 4 ++ (c.take 0).map b8)) := by show Wr _ _ _ _ _; rw [List.take_zero, List.map_nil, List.append_nil]; exact h1
  have HB1 := Lib.hid hb1
  clear h1 hb1 hcv
  go_wp2_with fail
  go_loopw [17] (fun s wr => ∃ (k : Nat) (v' : Value), k ≤ n ∧ s = .int .i64 (k : Int) ∧ Hid (Wr wr n0 g v' (l ++ beBytes n 4 ++ (c.take k).map b8)) ∧ Hid (Below n0 w wr)) (fun s _ => n - (intOf s).toNat)
  case atStart => exact ⟨0, v1, Nat.zero_le _, rfl, H1, HB1⟩
  case round =>
    clear H1 HB1
    obtain ⟨k, v', hk, rfl, hW, hBW⟩ := hrel
    by_cases hlt : k < n
    · have hi1 : (k : Int) < (n : Int) := by omega
      have hkl : k < c.length := by rw [HN.out]; exact hlt
      obtain ⟨b1, o1, rfl, hb1, hc1⟩ := (HC.out.below (hBW.out.mono hB)).at (k := k) (by simpa [iv] using hkl)
      have ea : (iv c)[k]'(by simpa [iv] using hkl) = Value.int .i64 c[k] := by simp [iv]
      rw [ea] at hc1
      have HJ : Hid (c.take (k + 1) = c.take k ++ [c[k]]) := List.take_succ_eq_append_getElem hkl
      obtain ⟨z, hz⟩ : ∃ z, c[k] = z := ⟨_, rfl⟩
      rw [hz] at hc1 HJ
      have hs : n0 ≤ wr.heap.size := Nat.le_trans hn0 hBW.out.size
      have hll : (l ++ beBytes n 4 ++ (c.take k).map b8).length ≤ 70368744170000 := by
        rw [List.length_append, List.length_append, be_len, List.length_map, List.length_take]; omega
      clear ea hz
      go_wp2_with fail
      refine (put_one hW.out z hll hs).mono ?_
      rintro e w2 ⟨rfl, v2, hw2, hb2⟩
      have HW2 : Hid (Wr w2 n0 g v2 (l ++ beBytes n 4 ++ (c.take (k + 1)).map b8)) := by
        show Wr _ _ _ _ _
        rw [HJ.out, List.map_append, ← List.append_assoc]
        exact hw2
      have HB2 := Lib.hid (hBW.out.trans hb2)
      clear hw2 hb2
      go_wp2_with fail
      go_roundw
      case rel => exact ⟨k + 1, v2, by omega, by go_num, HW2, HB2⟩
      case measure => simp [intOf]; omega
    · obtain rfl : k = n := by omega
      have hend : ¬ ((k : Int) < (k : Int)) := by omega
      have hf := hW.out
      rw [List.take_of_length_le (Nat.le_of_eq HN.out)] at hf
      have HF : Hid (Wr wr n0 g v' (l ++ putI c)) := by
        show Wr _ _ _ _ _
        unfold putI
        rw [HN.out, ← List.append_assoc]
        exact hf
      clear hf
      go_wp2_with fail
      go_end0
      exact ⟨rfl, v', HF.out, hBW.out⟩

theorem put_chain {w : World} {n0 g : Nat} {v : Value} {l : List UInt8} (h : Wr w n0 g v l) (A : Option Addr) (cc B : Nat) (c : List Int) (hc : Sl w B A (iv c)) (hB : B ≤ n0) (h12 : c.length ≤ 12) (hl : l.length ≤ 1000000) (hn0 : n0 ≤ w.heap.size) :
    Calls Tryd.prog 48 #[.pointer (some ⟨g, 0, none⟩), .slice A c.length cc] w (WrDone n0 g (l ++ putI c) w) := by
  have HP := Lib.hid (put_ints h A cc B c hc hB h12 hl hn0)
  clear h hc
  go_enter Tryd.func48, Tryd.ntmps48
  go_wp2_with fail
  refine HP.out.mono ?_
  rintro e w1 ⟨rfl, v1, hw1, hb1⟩
  go_wp2_with fail
  go_end0
  exact ⟨rfl, v1, hw1, hb1⟩

set_option maxRecDepth 100000 in
set_option maxHeartbeats 2000000 in
theorem put_chains {w : World} {n0 g : Nat} {v : Value} {l : List UInt8} (h : Wr w n0 g v l) (A : Option Addr) (cc B : Nat) (rs : List Ch) (hm : Mem w B A rs) (hB : B ≤ n0) (hr12 : rs.length ≤ 12) (h12 : ∀ r ∈ rs, r.l.length ≤ 12) (hl : l.length ≤ 1000) (hn0 : n0 ≤ w.heap.size) :
    Calls Tryd.prog 47 #[.pointer (some ⟨g, 0, none⟩), .slice A rs.length cc, .func (.func 48) #[] #[]] w (WrDone n0 g (l ++ beBytes rs.length 4 ++ ((rs.map (·.l)).map putI).flatten) w) := by
  obtain ⟨LL, hLL⟩ : ∃ x, l ++ beBytes rs.length 4 ++ ((rs.map (·.l)).map putI).flatten = x := ⟨_, rfl⟩
  rw [hLL]
  have HLL := Lib.hid hLL
  clear hLL
  have H := Lib.hid h
  have HM := Lib.hid hm
  have H12 := Lib.hid h12
  obtain ⟨n, hN⟩ : ∃ n, rs.length = n := ⟨_, rfl⟩
  have HN := Lib.hid hN
  rw [hN] at hr12 ⊢
  have hcv : IntKind.u64.wrap (n : Int) = (n : Int) := by rw [IntKind.wrap_u64]; omega
  have h12i : ¬ ((12 : Int) < (n : Int)) := by omega
  clear h hm hN h12
  have heq : ∀ W, Sem.run Tryd.prog (binOp BinOp.eql 86 (Value.func (Fn.func 48) #[] #[]) Value.nilFunc) W = .ok (.bool false) W := fun W => rfl
  go_enter Tryd.func47, Tryd.ntmps47
  go_wp2_with fail
  refine (number_ok H.out n 4 (by omega) (by decide) (by omega) hn0).mono ?_
  rintro e w1 ⟨rfl, v1, h1, hb1⟩
  have H1 : Hid (Wr w1 n0 g v1 (l ++ beBytes n 4 ++ (((rs.take 0).map (·.l)).map putI).flatten)) := by show Wr _ _ _ _ _; simp only [List.take_zero, List.map_nil, List.flatten_nil, List.append_nil]; exact h1
  have HB1 := Lib.hid hb1
  clear h1 hb1 hcv
  go_wp2_with fail
  go_loopw [17] (fun s wr => ∃ (k : Nat) (v' : Value), k ≤ n ∧ s = .int .i64 (k : Int) ∧ Hid (Wr wr n0 g v' (l ++ beBytes n 4 ++ (((rs.take k).map (·.l)).map putI).flatten)) ∧ Hid (Below n0 w wr)) (fun s _ => n - (intOf s).toNat)
  case atStart => exact ⟨0, v1, Nat.zero_le _, rfl, H1, HB1⟩
  case round =>
    clear H1 HB1
    obtain ⟨k, v', hk, rfl, hW, hBW⟩ := hrel
    by_cases hlt : k < n
    · have hi1 : (k : Int) < (n : Int) := by omega
      have hkl : k < rs.length := by rw [HN.out]; exact hlt
      obtain ⟨b1, o1, rfl, hb1, hc1⟩ := (HM.out.sl.below (hBW.out.mono hB)).at (k := k) (by simpa using hkl)
      rw [List.getElem_map] at hc1
      obtain ⟨hrow, -, -⟩ := HM.out.ok _ (List.getElem_mem hkl)
      have h12k := H12.out _ (List.getElem_mem hkl)
      have HJ : Hid (rs.take (k + 1) = rs.take k ++ [rs[k]]) := List.take_succ_eq_append_getElem hkl
      obtain ⟨⟨A2, c2, c⟩, hr⟩ : ∃ r, rs[k] = r := ⟨_, rfl⟩
      rw [hr] at hc1 hrow h12k HJ
      replace hc1 : wr.cell? ⟨b1, o1 + k, none⟩ = some (.slice A2 c.length c2) := hc1
      replace hrow : Sl w B A2 (iv c) := hrow
      replace h12k : c.length ≤ 12 := h12k
      have hs : n0 ≤ wr.heap.size := Nat.le_trans hn0 hBW.out.size
      have hll : (l ++ beBytes n 4 ++ (((rs.take k).map (·.l)).map putI).flatten).length ≤ 1000000 := by
        have h2 := flat_len (cs := (rs.take k).map (·.l)) (fun d hd => by
          obtain ⟨r, hr', rfl⟩ := List.mem_map.1 hd
          exact H12.out r (List.mem_of_mem_take hr'))
        rw [List.length_append, List.length_append, be_len]
        rw [List.length_map, List.length_take] at h2
        omega
      have HP := Lib.hid (put_chain hW.out A2 c2 B c (hrow.below (hBW.out.mono hB)) hB h12k hll hs)
      clear hr hrow hll
      go_wp2_with fail
      refine HP.out.mono ?_
      rintro e w2 ⟨rfl, v2, hw2, hb2⟩
      have HW2 : Hid (Wr w2 n0 g v2 (l ++ beBytes n 4 ++ (((rs.take (k + 1)).map (·.l)).map putI).flatten)) := by
        show Wr _ _ _ _ _
        rw [HJ.out]
        simp only [List.map_append, List.map_cons, List.map_nil, List.flatten_append, List.flatten_cons, List.flatten_nil, List.append_nil, ← List.append_assoc]
        exact hw2
      have HB2 := Lib.hid (hBW.out.trans hb2)
      clear hw2 hb2
      go_wp2_with fail
      go_roundw
      case rel => exact ⟨k + 1, v2, by omega, by go_num, HW2, HB2⟩
      case measure => simp [intOf]; omega
    · obtain rfl : k = n := by omega
      have hend : ¬ ((k : Int) < (k : Int)) := by omega
      have hf := hW.out
      rw [List.take_of_length_le (Nat.le_of_eq HN.out)] at hf
      have h2 := HLL.out
      rw [HN.out] at h2
      rw [h2] at hf
      have HF := Lib.hid hf
      clear hf h2
      go_wp2_with fail
      go_end0
      exact ⟨rfl, v', HF.out, hBW.out⟩

theorem encPlan_len {e : Int} {cs : List (List Int)} (hn : cs.length ≤ 12) (h : ∀ c ∈ cs, c.length ≤ 12) : (encPlan e cs).length ≤ 1000 := by
  unfold encPlan
  have h2 := flat_len h
  rw [List.length_append, List.length_append, be_len, be_len]
  omega

set_option maxRecDepth 100000 in
set_option maxHeartbeats 2000000 in
theorem pencode_ok (e : Int) (A : Option Addr) (c : Nat) (rs : List Ch) (B : Nat) (w : World) (hT : Tab w) (hm : Mem w B A rs) (hB : B ≤ w.heap.size) (hr12 : rs.length ≤ 12) (h12 : ∀ r ∈ rs, r.l.length ≤ 12) :
    Calls Tryd.prog 22 #[.agg #[.int .i64 e, .slice A rs.length c]] w fun en w' => NewBytes w.heap.size (wrapped (encPlan e (rs.map (·.l)))) en w' ∧ Below w.heap.size w w' := by
  obtain ⟨E, hE⟩ : ∃ E, encPlan e (rs.map (·.l)) = E := ⟨_, rfl⟩
  have hEl : E.length ≤ 1000 := by
    rw [← hE]
    exact encPlan_len (by rw [List.length_map]; exact hr12) (fun d hd => by obtain ⟨r, hr, rfl⟩ := List.mem_map.1 hd; exact h12 r hr)
  rw [hE]
  have HE := Lib.hid hE
  have HM := Lib.hid hm
  have H12 := Lib.hid h12
  have HT := Lib.hid hT
  clear hE hm h12 hT
  have hbx := (Blk.new w #[.int .i64 e, .slice A rs.length c] 24).alloc (.cells #[.slice none 0 0] 78)
  have HBX := Lib.hid hbx
  have HB0 : Hid (Below w.heap.size w ((w.alloc (.cells #[.int .i64 e, .slice A rs.length c] 24)).alloc (.cells #[.slice none 0 0] 78))) := ((Below.refl _ _).alloc (Nat.le_refl _) _).alloc (by simp) _
  have HW0 := Lib.hid (wr_new (w.alloc (.cells #[.int .i64 e, .slice A rs.length c] 24)) (w.heap.size + 1) (by simp))
  rw [World.size_alloc] at HW0
  clear hbx
  go_enter Tryd.func22, Tryd.ntmps22
  go_wp2_with fail
  rw [num_conv e]
  refine (number_ok HW0.out (u64of e) 4 (u64_lt _) (by decide) (by simp) (by simp)).mono ?_
  rintro en w1 ⟨rfl, v1, hw1, hb1⟩
  have hbx1 := HBX.out.below hb1 (by omega)
  have hc1 := hbx1.cell 1
  have HBk := Lib.hid (HB0.out.trans (hb1.mono (by omega)))
  have HW1 := Lib.hid hw1
  have hs1 : w.heap.size + 1 ≤ w1.heap.size := by have := hb1.size; simp at this; omega
  clear hbx1 hw1 hb1
  rw [List.nil_append] at HW1
  go_wp2_with fail
  refine (put_chains HW1.out A c B rs (HM.out.below (HBk.out.mono hB)) (by omega) hr12 H12.out (by rw [be_len]; omega) hs1).mono ?_
  rintro en w2 ⟨rfl, v2, hw2, hb2⟩
  have HW2 := Lib.hid hw2
  have hE2 : beBytes (u64of e) 4 ++ beBytes rs.length 4 ++ ((rs.map (·.l)).map putI).flatten = E := by rw [← HE.out]; unfold encPlan; rw [List.length_map]
  rw [hE2] at HW2
  have hs2 : w.heap.size + 1 ≤ w2.heap.size := Nat.le_trans hs1 hb2.size
  have HBk2 := Lib.hid (HBk.out.trans (hb2.mono (by omega)))
  clear hw2 hb2 hE2 hc1
  go_wp2_with fail
  refine (out_ok HW2.out (by omega) hs2).mono ?_
  rintro en w3 ⟨⟨A3, c3, rfl, ho⟩, hb3⟩
  have HO := Lib.hid ho
  have HBk3 := Lib.hid (HBk2.out.trans (hb3.mono HBk2.out.size))
  have hTn := HT.out.below HT.out.1 HBk3.out
  have HTn := Lib.hid hTn
  clear ho hb3 hTn
  go_wp2_with fail
  refine (wrap_ok A3 c3 w3.heap.size E w3 HTn.out (Sl.of_own HO.out) (fun e => by have hh := HO.out; rw [e] at hh; exact owns_nil0 hh) (by omega) (Nat.le_refl _)).mono ?_
  rintro en w4 ⟨⟨A4, c4, rfl, ho4⟩, hb4⟩
  go_wp2_with fail
  go_ret
  exact ⟨⟨A4, c4, rfl, row_low ho4 HBk3.out.size⟩, HBk3.out.trans (hb4.mono HBk3.out.size)⟩
end Go.Proofs.YtohahhijbneheaaDoor
