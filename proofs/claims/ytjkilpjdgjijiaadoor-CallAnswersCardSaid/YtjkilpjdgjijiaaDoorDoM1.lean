/- tidelineref04: the tree's do, by kinds: calls that are none; Mkdir, Create (printed by gen_do.py). tidelineref04: the tree's do, by kinds: Stat (printed by gen_do.py). tidelineref04: the tree's do, by kinds: Rmdir, Unlink (printed by gen_do.py). tidelineref04: the tree's do, by kinds: Cut (printed by gen_do.py). -/
import Derived.Test.YtjkilpjdgjijiaaDoorTrM
import Derived.Deep.CutRange
import Derived.Deep.RegionLaw
namespace Go.Proofs.YtjkilpjdgjijiaaDoor
open Go.RowKit
set_option linter.unusedVariables false
attribute [local go_sem] Oper.semAt_some
attribute [local go_sem ↓] exec_load_an4 exec_store_an4 exec_store_nd

set_option maxRecDepth 100000 in
set_option maxHeartbeats 8000000 in
theorem do_bad (g m : Nat) (a1 a4 a5 : Int) (a2 a3 : ByteArray) (A : Option Addr) (n c : Nat) (W : World) (h : Tr W g m) (hm : m + 1 ≤ 64) (ha2 : a2.size ≤ 400) (ha3 : a3.size ≤ 400) (hk : a1 < 1 ∨ 12 ≤ a1) :
    Calls Tryd.prog 53 #[.pointer (some ⟨g, 0, none⟩), .agg #[.int .i64 a1, .string a2, .string a3, .int .i64 a4, .int .i64 a5, .slice A n c]] W fun e w' => DoR w' e ∧ TrTo g (m + 1) W w' := by
  have hS := DoS.start h #[.int .i64 a1, .string a2, .string a3, .int .i64 a4, .int .i64 a5, .slice A n c]
  have HS := Lib.hid hS
  have HT0 := Lib.hid h
  have HB0 : Hid (Below W.heap.size W (((W.alloc (.cells #[.int .i64 a1, .string a2, .string a3, .int .i64 a4, .int .i64 a5, .slice A n c] 26)).alloc (.cells zAnCs 30)).alloc (.cells zAnCs 30))) := Lib.hid ((((Below.refl _ _).alloc (Nat.le_refl _) _).alloc (by simp) _).alloc (by simp; omega) _)
  have HA2 := Lib.hid ha2
  have HA3 := Lib.hid ha3
  have HM := Lib.hid hm
  clear h hS ha2 ha3 hm
  have hst0 := st_start W (.cells #[.int .i64 a1, .string a2, .string a3, .int .i64 a4, .int .i64 a5, .slice A n c] 26) (.cells #[.int .i64 0, .int .i64 0, .int .i64 0, .int .i64 0, .slice none 0 0, .slice none 0 0] 30)
  go_enter Tryd.func53, Tryd.ntmps53
  go_upto_region 2 with fail
  clear hst0
  obtain ⟨X0, hX0⟩ : ∃ X, (((W.alloc (.cells #[.int .i64 a1, .string a2, .string a3, .int .i64 a4, .int .i64 a5, .slice A n c] 26)).alloc (.cells #[.int .i64 0, .int .i64 0, .int .i64 0, .int .i64 0, .slice none 0 0, .slice none 0 0] 30)).alloc (.cells #[.int .i64 0, .int .i64 0, .int .i64 0, .int .i64 0, .slice none 0 0, .slice none 0 0] 30)) = X := ⟨_, rfl⟩
  rw [hX0] at HS HB0 ⊢
  clear hX0
  obtain ⟨q3, q4, f4, q6, l3, l4, l6⟩ := HS.out.facts
  have hld := HS.out.ld6
  have hst := HS.out.st4
  rcases hk with hk | hk
  · clear HM
    go_wp2_with fail
    refine bodyPost_ret (v := .tuple #[.agg zAnCs, .int .i64 1]) (results_row_tmp Tryd.results53 _ _ (W.heap.size + 1) 30 zAnCs (0, 0) _ _ rfl rfl (HS.out.row4 zAnCs) Tryd.underlying30 rfl (by kernel_rfl)) rfl ?_
    exact ⟨DoR.zero _ 1 (by omega) (by omega), HS.out.done zAnCs (by omega)⟩
  · by_cases h12 : a1 = 12
    · subst h12
      go_wp2_with fail
      refine bodyPost_ret (v := .tuple #[.agg zAnCs, .int .i64 0]) (results_row_tmp Tryd.results53 _ _ (W.heap.size + 1) 30 zAnCs (0, 0) _ _ rfl rfl (HS.out.row4 zAnCs) Tryd.underlying30 rfl (by kernel_rfl)) rfl ?_
      exact ⟨DoR.zero _ 0 (by omega) (by omega), HS.out.done zAnCs (by omega)⟩
    · have hgt : 12 < a1 := by omega
      go_wp2_with fail
      refine bodyPost_ret (v := .tuple #[.agg zAnCs, .int .i64 1]) (results_row_tmp Tryd.results53 _ _ (W.heap.size + 1) 30 zAnCs (0, 0) _ _ rfl rfl (HS.out.row4 zAnCs) Tryd.underlying30 rfl (by kernel_rfl)) rfl ?_
      exact ⟨DoR.zero _ 1 (by omega) (by omega), HS.out.done zAnCs (by omega)⟩

set_option maxRecDepth 100000 in
set_option maxHeartbeats 8000000 in
theorem do_make1 (g m : Nat) (a4 a5 : Int) (a2 a3 : ByteArray) (A : Option Addr) (n c : Nat) (W : World) (h : Tr W g m) (hm : m + 1 ≤ 64) (ha2 : a2.size ≤ 400) (ha3 : a3.size ≤ 400) :
    Calls Tryd.prog 53 #[.pointer (some ⟨g, 0, none⟩), .agg #[.int .i64 1, .string a2, .string a3, .int .i64 a4, .int .i64 a5, .slice A n c]] W fun e w' => DoR w' e ∧ TrTo g (m + 1) W w' := by
  have hS := DoS.start h #[.int .i64 1, .string a2, .string a3, .int .i64 a4, .int .i64 a5, .slice A n c]
  have HS := Lib.hid hS
  have HT0 := Lib.hid h
  have HB0 : Hid (Below W.heap.size W (((W.alloc (.cells #[.int .i64 1, .string a2, .string a3, .int .i64 a4, .int .i64 a5, .slice A n c] 26)).alloc (.cells zAnCs 30)).alloc (.cells zAnCs 30))) := Lib.hid ((((Below.refl _ _).alloc (Nat.le_refl _) _).alloc (by simp) _).alloc (by simp; omega) _)
  have HA2 := Lib.hid ha2
  have HA3 := Lib.hid ha3
  have HM := Lib.hid hm
  clear h hS ha2 ha3 hm
  have hst0 := st_start W (.cells #[.int .i64 1, .string a2, .string a3, .int .i64 a4, .int .i64 a5, .slice A n c] 26) (.cells #[.int .i64 0, .int .i64 0, .int .i64 0, .int .i64 0, .slice none 0 0, .slice none 0 0] 30)
  go_enter Tryd.func53, Tryd.ntmps53
  go_upto_region 2 with fail
  clear hst0
  obtain ⟨X0, hX0⟩ : ∃ X, (((W.alloc (.cells #[.int .i64 1, .string a2, .string a3, .int .i64 a4, .int .i64 a5, .slice A n c] 26)).alloc (.cells #[.int .i64 0, .int .i64 0, .int .i64 0, .int .i64 0, .slice none 0 0, .slice none 0 0] 30)).alloc (.cells #[.int .i64 0, .int .i64 0, .int .i64 0, .int .i64 0, .slice none 0 0, .slice none 0 0] 30)) = X := ⟨_, rfl⟩
  rw [hX0] at HS HB0 ⊢
  clear hX0
  obtain ⟨q3, q4, f4, q6, l3, l4, l6⟩ := HS.out.facts
  have hld := HS.out.ld6
  have hst := HS.out.st4
  have HP := Lib.hid (place_ref g m a2 X0 HS.out.tr HA2.out (by have := HM.out; omega))
  go_wp2_with fail
  refine HP.out.mono ?_
  rintro e W1 ⟨⟨j, nm, k, rfl, hj, hnm, hk0, hk1⟩, hb⟩
  have HS1 := Lib.hid (HS.out.below hb)
  clear q3 q4 f4 q6 l3 l4 l6 hld hst
  obtain ⟨q3, q4, f4, q6, l3, l4, l6⟩ := HS1.out.facts
  have hld := HS1.out.ld6
  have hst := HS1.out.st4
  have HNM := Lib.hid hnm
  clear hb hnm
  by_cases hk : k = 0
  · subst hk
    go_wp2_with fail
    go_loopw [10] (fun s wr => ∃ i : Nat, i ≤ 64 ∧ s = .int .i64 (i : Int) ∧ wr = W1) (fun s _ => 64 - (intOf s).toNat)
    case atStart => exact ⟨0, by omega, rfl, rfl⟩
    case round =>
      obtain ⟨i, hi, rfl, rfl⟩ := hrel
      by_cases hlt : i < 64
      · have hi1 : (i : Int) < 64 := by omega
        obtain ⟨x, hxo, qn, qk, ql, qd, qe, fz, lg⟩ := HS1.out.tr.nd hlt
        have HXO := Lib.hid hxo
        clear hxo
        obtain ⟨xk, hxk⟩ : ∃ k, x.k = k := ⟨_, rfl⟩
        rw [hxk] at qk
        clear hxk
        by_cases hx0 : xk = 0
        · subst hx0
          have hne64 : ¬ ((i : Int) = 64) := by omega
          obtain ⟨W2, hst2, ht2⟩ := HS1.out.tr.stN hlt (n := (i : Int)) (k := 1) (l := 1) ⟨by omega, by omega⟩ (by decide) (by decide)
          have HS2 := Lib.hid (HS1.out.to ht2)
          obtain ⟨q3', q4', f4', q6', l3', l4', l6'⟩ := HS2.out.facts
          obtain ⟨x2, hxo2, qn2, qk2, ql2, qd2, qe2, fz2, lg2⟩ := HS2.out.tr.nd hlt
          clear hxo2 ht2
          have HPUT := Lib.hid (put_any g m j nm (i : Int) W2 HS2.out.tr hj HM.out HNM.out (by omega) (by omega))
          clear q3 q4 f4 q6 l3 l4 l6 hld hst
          go_wp2_with fail
          refine HPUT.out.mono ?_
          rintro e W4 ⟨⟨v, rfl⟩, ht4⟩
          have HS4 := Lib.hid (HS2.out.to ht4)
          clear ht4
          obtain ⟨q3, q4, f4, q6, l3, l4, l6⟩ := HS4.out.facts
          have hld := HS4.out.ld6
          have hst := HS4.out.st4
          go_wp2_with fail
          refine bodyPost_ret (v := .tuple #[.agg zAnCs, .int .i64 0]) (results_row_tmp Tryd.results53 _ _ (W.heap.size + 1) 30 zAnCs (0, 0) _ _ rfl rfl (HS4.out.row4 zAnCs) Tryd.underlying30 rfl (by kernel_rfl)) rfl ?_
          exact ⟨DoR.zero _ 0 (by omega) (by omega), HS4.out.done zAnCs (by omega)⟩
        · go_wp2_with fail
          go_roundw
          case rel => exact ⟨i + 1, by omega, by go_num, by trivial⟩
          case measure => simp [intOf]; omega
      · obtain rfl : i = 64 := by omega
        go_wp2_with fail
        refine bodyPost_ret (v := .tuple #[.agg zAnCs, .int .i64 27]) (results_row_tmp Tryd.results53 _ _ (W.heap.size + 1) 30 zAnCs (0, 0) _ _ rfl rfl (HS1.out.row4 zAnCs) Tryd.underlying30 rfl (by kernel_rfl)) rfl ?_
        exact ⟨DoR.zero _ 27 (by omega) (by omega), HS1.out.done zAnCs (by omega)⟩
  · clear HP
    go_wp2_with fail
    refine bodyPost_ret (v := .tuple #[.agg zAnCs, .int .i64 k]) (results_row_tmp Tryd.results53 _ _ (W.heap.size + 1) 30 zAnCs (0, 0) _ _ rfl rfl (HS1.out.row4 zAnCs) Tryd.underlying30 rfl (by kernel_rfl)) rfl ?_
    exact ⟨DoR.zero _ k (by omega) (by omega), HS1.out.done zAnCs (by omega)⟩

set_option maxRecDepth 100000 in
set_option maxHeartbeats 8000000 in
theorem do_make3 (g m : Nat) (a4 a5 : Int) (a2 a3 : ByteArray) (A : Option Addr) (n c : Nat) (W : World) (h : Tr W g m) (hm : m + 1 ≤ 64) (ha2 : a2.size ≤ 400) (ha3 : a3.size ≤ 400) :
    Calls Tryd.prog 53 #[.pointer (some ⟨g, 0, none⟩), .agg #[.int .i64 3, .string a2, .string a3, .int .i64 a4, .int .i64 a5, .slice A n c]] W fun e w' => DoR w' e ∧ TrTo g (m + 1) W w' := by
  have hS := DoS.start h #[.int .i64 3, .string a2, .string a3, .int .i64 a4, .int .i64 a5, .slice A n c]
  have HS := Lib.hid hS
  have HT0 := Lib.hid h
  have HB0 : Hid (Below W.heap.size W (((W.alloc (.cells #[.int .i64 3, .string a2, .string a3, .int .i64 a4, .int .i64 a5, .slice A n c] 26)).alloc (.cells zAnCs 30)).alloc (.cells zAnCs 30))) := Lib.hid ((((Below.refl _ _).alloc (Nat.le_refl _) _).alloc (by simp) _).alloc (by simp; omega) _)
  have HA2 := Lib.hid ha2
  have HA3 := Lib.hid ha3
  have HM := Lib.hid hm
  clear h hS ha2 ha3 hm
  have hst0 := st_start W (.cells #[.int .i64 3, .string a2, .string a3, .int .i64 a4, .int .i64 a5, .slice A n c] 26) (.cells #[.int .i64 0, .int .i64 0, .int .i64 0, .int .i64 0, .slice none 0 0, .slice none 0 0] 30)
  go_enter Tryd.func53, Tryd.ntmps53
  go_upto_region 2 with fail
  clear hst0
  obtain ⟨X0, hX0⟩ : ∃ X, (((W.alloc (.cells #[.int .i64 3, .string a2, .string a3, .int .i64 a4, .int .i64 a5, .slice A n c] 26)).alloc (.cells #[.int .i64 0, .int .i64 0, .int .i64 0, .int .i64 0, .slice none 0 0, .slice none 0 0] 30)).alloc (.cells #[.int .i64 0, .int .i64 0, .int .i64 0, .int .i64 0, .slice none 0 0, .slice none 0 0] 30)) = X := ⟨_, rfl⟩
  rw [hX0] at HS HB0 ⊢
  clear hX0
  obtain ⟨q3, q4, f4, q6, l3, l4, l6⟩ := HS.out.facts
  have hld := HS.out.ld6
  have hst := HS.out.st4
  have HP := Lib.hid (place_ref g m a2 X0 HS.out.tr HA2.out (by have := HM.out; omega))
  go_wp2_with fail
  refine HP.out.mono ?_
  rintro e W1 ⟨⟨j, nm, k, rfl, hj, hnm, hk0, hk1⟩, hb⟩
  have HS1 := Lib.hid (HS.out.below hb)
  clear q3 q4 f4 q6 l3 l4 l6 hld hst
  obtain ⟨q3, q4, f4, q6, l3, l4, l6⟩ := HS1.out.facts
  have hld := HS1.out.ld6
  have hst := HS1.out.st4
  have HNM := Lib.hid hnm
  clear hb hnm
  by_cases hk : k = 0
  · subst hk
    go_wp2_with fail
    go_loopw [10] (fun s wr => ∃ i : Nat, i ≤ 64 ∧ s = .int .i64 (i : Int) ∧ wr = W1) (fun s _ => 64 - (intOf s).toNat)
    case atStart => exact ⟨0, by omega, rfl, rfl⟩
    case round =>
      obtain ⟨i, hi, rfl, rfl⟩ := hrel
      by_cases hlt : i < 64
      · have hi1 : (i : Int) < 64 := by omega
        obtain ⟨x, hxo, qn, qk, ql, qd, qe, fz, lg⟩ := HS1.out.tr.nd hlt
        have HXO := Lib.hid hxo
        clear hxo
        obtain ⟨xk, hxk⟩ : ∃ k, x.k = k := ⟨_, rfl⟩
        rw [hxk] at qk
        clear hxk
        by_cases hx0 : xk = 0
        · subst hx0
          have hne64 : ¬ ((i : Int) = 64) := by omega
          obtain ⟨W2, hst2, ht2⟩ := HS1.out.tr.stN hlt (n := (i : Int)) (k := 1) (l := 1) ⟨by omega, by omega⟩ (by decide) (by decide)
          have HS2 := Lib.hid (HS1.out.to ht2)
          obtain ⟨q3', q4', f4', q6', l3', l4', l6'⟩ := HS2.out.facts
          obtain ⟨x2, hxo2, qn2, qk2, ql2, qd2, qe2, fz2, lg2⟩ := HS2.out.tr.nd hlt
          clear hxo2 ht2
          have ht3 := HS2.out.tr.setK hlt (k := 2) (by decide)
          have HS3 := Lib.hid (HS2.out.to ht3)
          clear ht3
          have HPUT := Lib.hid (put_any g m j nm (i : Int) _ HS3.out.tr hj HM.out HNM.out (by omega) (by omega))
          clear q3 q4 f4 q6 l3 l4 l6 hld hst
          go_wp2_with fail
          refine HPUT.out.mono ?_
          rintro e W4 ⟨⟨v, rfl⟩, ht4⟩
          have HS4 := Lib.hid (HS3.out.to ht4)
          clear ht4
          obtain ⟨q3, q4, f4, q6, l3, l4, l6⟩ := HS4.out.facts
          have hld := HS4.out.ld6
          have hst := HS4.out.st4
          go_wp2_with fail
          refine bodyPost_ret (v := .tuple #[.agg zAnCs, .int .i64 0]) (results_row_tmp Tryd.results53 _ _ (W.heap.size + 1) 30 zAnCs (0, 0) _ _ rfl rfl (HS4.out.row4 zAnCs) Tryd.underlying30 rfl (by kernel_rfl)) rfl ?_
          exact ⟨DoR.zero _ 0 (by omega) (by omega), HS4.out.done zAnCs (by omega)⟩
        · go_wp2_with fail
          go_roundw
          case rel => exact ⟨i + 1, by omega, by go_num, by trivial⟩
          case measure => simp [intOf]; omega
      · obtain rfl : i = 64 := by omega
        go_wp2_with fail
        refine bodyPost_ret (v := .tuple #[.agg zAnCs, .int .i64 27]) (results_row_tmp Tryd.results53 _ _ (W.heap.size + 1) 30 zAnCs (0, 0) _ _ rfl rfl (HS1.out.row4 zAnCs) Tryd.underlying30 rfl (by kernel_rfl)) rfl ?_
        exact ⟨DoR.zero _ 27 (by omega) (by omega), HS1.out.done zAnCs (by omega)⟩
  · clear HP
    go_wp2_with fail
    refine bodyPost_ret (v := .tuple #[.agg zAnCs, .int .i64 k]) (results_row_tmp Tryd.results53 _ _ (W.heap.size + 1) 30 zAnCs (0, 0) _ _ rfl rfl (HS1.out.row4 zAnCs) Tryd.underlying30 rfl (by kernel_rfl)) rfl ?_
    exact ⟨DoR.zero _ k (by omega) (by omega), HS1.out.done zAnCs (by omega)⟩
end Go.Proofs.YtjkilpjdgjijiaaDoor
namespace Go.Proofs.YtjkilpjdgjijiaaDoor
open Go.RowKit
set_option linter.unusedVariables false
attribute [local go_sem] Oper.semAt_some
attribute [local go_sem ↓] exec_load_an4 exec_store_an4

set_option maxRecDepth 100000 in
set_option maxHeartbeats 8000000 in
theorem do_stat (g m : Nat) (a4 a5 : Int) (a2 a3 : ByteArray) (A : Option Addr) (n c : Nat) (W : World) (h : Tr W g m) (hm : m + 1 ≤ 64) (ha2 : a2.size ≤ 400) (ha3 : a3.size ≤ 400) :
    Calls Tryd.prog 53 #[.pointer (some ⟨g, 0, none⟩), .agg #[.int .i64 10, .string a2, .string a3, .int .i64 a4, .int .i64 a5, .slice A n c]] W fun e w' => DoR w' e ∧ TrTo g (m + 1) W w' := by
  have hS := DoS.start h #[.int .i64 10, .string a2, .string a3, .int .i64 a4, .int .i64 a5, .slice A n c]
  have HS := Lib.hid hS
  have HT0 := Lib.hid h
  have HB0 : Hid (Below W.heap.size W (((W.alloc (.cells #[.int .i64 10, .string a2, .string a3, .int .i64 a4, .int .i64 a5, .slice A n c] 26)).alloc (.cells zAnCs 30)).alloc (.cells zAnCs 30))) := Lib.hid ((((Below.refl _ _).alloc (Nat.le_refl _) _).alloc (by simp) _).alloc (by simp; omega) _)
  have HA2 := Lib.hid ha2
  have HA3 := Lib.hid ha3
  have HM := Lib.hid hm
  clear h hS ha2 ha3 hm
  have hst0 := st_start W (.cells #[.int .i64 10, .string a2, .string a3, .int .i64 a4, .int .i64 a5, .slice A n c] 26) (.cells #[.int .i64 0, .int .i64 0, .int .i64 0, .int .i64 0, .slice none 0 0, .slice none 0 0] 30)
  go_enter Tryd.func53, Tryd.ntmps53
  go_upto_region 2 with fail
  clear hst0
  obtain ⟨X0, hX0⟩ : ∃ X, (((W.alloc (.cells #[.int .i64 10, .string a2, .string a3, .int .i64 a4, .int .i64 a5, .slice A n c] 26)).alloc (.cells #[.int .i64 0, .int .i64 0, .int .i64 0, .int .i64 0, .slice none 0 0, .slice none 0 0] 30)).alloc (.cells #[.int .i64 0, .int .i64 0, .int .i64 0, .int .i64 0, .slice none 0 0, .slice none 0 0] 30)) = X := ⟨_, rfl⟩
  rw [hX0] at HS HB0 ⊢
  clear hX0
  obtain ⟨q3, q4, f4, q6, l3, l4, l6⟩ := HS.out.facts
  have hld := HS.out.ld6
  have hst := HS.out.st4
  have HU := Lib.hid (up_any a2 X0 HA2.out)
  go_wp2_with fail
  refine HU.out.mono ?_
  rintro e W1 ⟨⟨ab, nm, k1, rfl, hab, hnm, hk0, hk1⟩, hb⟩
  have HS1 := Lib.hid (HS.out.below hb)
  clear q3 q4 f4 q6 l3 l4 l6 hld hst
  obtain ⟨q3, q4, f4, q6, l3, l4, l6⟩ := HS1.out.facts
  have hld := HS1.out.ld6
  have hst := HS1.out.st4
  have HB1 := Lib.hid (HB0.out.trans (hb.mono HB0.out.size))
  have HAB := Lib.hid hab
  have HNM := Lib.hid hnm
  clear hb hnm hab
  go_upto_region 21 with fail
  go_cut [126] from 110 to 126 (fun s wx => s = .bool false ∧ wx = W1)
  case first =>
    by_cases hk : k1 = 0
    · subst hk
      go_wp2_with fail
      go_meet
      exact ⟨rfl, rfl⟩
    · go_wp2_with fail
      go_meet
      exact ⟨rfl, rfl⟩
  rename_i wc126
  obtain ⟨rfl, rfl⟩ := hcut
  have HF := Lib.hid (find_any g m a2 _ HS1.out.tr HA2.out (by have := HM.out; omega))
  clear hk0 hk1
  go_wp2_with fail
  refine HF.out.mono ?_
  rintro e W2 ⟨⟨j, k2, rfl, hj, hk0, hk1⟩, hb⟩
  have HS2 := Lib.hid (HS1.out.below hb)
  clear q3 q4 f4 q6 l3 l4 l6 hld hst
  obtain ⟨q3, q4, f4, q6, l3, l4, l6⟩ := HS2.out.facts
  have hld := HS2.out.ld6
  have hst := HS2.out.st4
  have hj64 : (j : Int) < 64 := by omega
  have HB2 := Lib.hid (HB1.out.trans (hb.mono HB1.out.size))
  clear hb
  by_cases hk : k2 = 0
  rotate_left
  · clear HF
    go_wp2_with fail
    refine bodyPost_ret (v := .tuple #[.agg zAnCs, .int .i64 k2]) (results_row_tmp Tryd.results53 _ _ (W.heap.size + 1) 30 zAnCs (0, 0) _ _ rfl rfl (HS2.out.row4 zAnCs) Tryd.underlying30 rfl (by kernel_rfl)) rfl ?_
    exact ⟨DoR.zero _ k2 (by omega) (by omega), HS2.out.done zAnCs (by omega)⟩
  subst hk
  have HG := Lib.hid (find_any g m ab _ HS2.out.tr HAB.out (by have := HM.out; omega))
  clear hk0 hk1
  go_wp2_with fail
  refine HG.out.mono ?_
  rintro e W3 ⟨⟨jn, k3, rfl, hjn, -, -⟩, hb⟩
  have HS3 := Lib.hid (HS2.out.below hb)
  clear q3 q4 f4 q6 l3 l4 l6 hld hst
  obtain ⟨q3, q4, f4, q6, l3, l4, l6⟩ := HS3.out.facts
  have hld := HS3.out.ld6
  have hst := HS3.out.st4
  have hjn64 : (jn : Int) < 64 := by omega
  have HB3 := Lib.hid (HB2.out.trans (hb.mono HB2.out.size))
  clear hb
  obtain ⟨x, hxo, qn, qk, ql, qd, qe, fz, lg⟩ := HS3.out.tr.nd hj
  have HXO := Lib.hid hxo
  clear hxo
  obtain ⟨xk, hxk0⟩ : ∃ k, x.k = k := ⟨_, rfl⟩
  rw [hxk0] at qk
  have HXO2 := HXO.out
  obtain ⟨dl, hdl⟩ : ∃ k, x.d.length = k := ⟨_, rfl⟩
  obtain ⟨el, hel⟩ : ∃ k, x.es.length = k := ⟨_, rfl⟩
  obtain ⟨xl, hxl⟩ : ∃ k, x.l = k := ⟨_, rfl⟩
  have hd1 := HXO2.d
  have he1 := HXO2.m
  have HL := Lib.hid HXO2.l
  have hm1 := HM.out
  rw [hdl] at qd hd1
  rw [hel] at qe he1
  rw [hxl] at ql HL
  have tt1 : ¬ ((512 : Int) < (dl : Int)) := by omega
  have tt2 : ¬ ((64 : Int) < (el : Int)) := by omega
  have HSZ : Hid (dl ≤ 512 ∧ el ≤ 64) := Lib.hid ⟨hd1, by omega⟩
  clear hdl hel hxl HXO2 hd1 he1 hm1
  obtain ⟨xn, hxn⟩ : ∃ k, x.n = k := ⟨_, rfl⟩
  rw [hxn] at qn
  have HK := Lib.hid HXO.out.k
  have HKE := Lib.hid hxk0
  clear hxn HXO hxk0
  have HS4 := Lib.hid (HS3.out.below ((Below.refl _ W3).alloc (Nat.le_refl _) (.cells #[.int .i64 xn, .int .i64 xk, .int .i64 xl, .slice x.A dl x.c, .slice x.B el x.cb] 93)))
  have hst4 := HS4.out.st4g 0 xk ((dl : Int) + (el : Int)) xl none none 0 0 0 0
  go_wp2_with fail
  refine bodyPost_ret (v := .tuple #[.agg #[.int .i64 0, .int .i64 xk, .int .i64 ((dl : Int) + (el : Int)), .int .i64 xl, .slice none 0 0, .slice none 0 0], .int .i64 0]) (results_row_tmp Tryd.results53 _ _ (W.heap.size + 1) 30 #[.int .i64 0, .int .i64 xk, .int .i64 ((dl : Int) + (el : Int)), .int .i64 xl, .slice none 0 0, .slice none 0 0] (0, 0) _ _ rfl rfl (HS4.out.row4 _) Tryd.underlying30 rfl (by kernel_rfl)) rfl ?_
  have hsz := HSZ.out
  have hss : InR ((dl : Int) + (el : Int)) := ⟨by omega, by omega⟩
  exact ⟨⟨⟨0, xk, (dl : Int) + (el : Int), xl, [], []⟩, none, 0, none, 0, 0, rfl, by omega, by omega, ⟨inR0, by rw [← HKE.out]; exact HK.out, hss, HL.out, by simp, by simp, by simp⟩, Sl.nil, fun _ => rfl, Sl.nil⟩, HS4.out.done _ (by omega)⟩
end Go.Proofs.YtjkilpjdgjijiaaDoor
namespace Go.Proofs.YtjkilpjdgjijiaaDoor
open Go.RowKit
set_option linter.unusedVariables false
attribute [local go_sem] Oper.semAt_some
attribute [local go_sem ↓] exec_load_an4 exec_store_an4 exec_store_nd

set_option maxRecDepth 100000 in
set_option maxHeartbeats 8000000 in
theorem do_rm2 (g m : Nat) (a4 a5 : Int) (a2 a3 : ByteArray) (A : Option Addr) (n c : Nat) (W : World) (h : Tr W g m) (hm : m + 1 ≤ 64) (ha2 : a2.size ≤ 400) (ha3 : a3.size ≤ 400) :
    Calls Tryd.prog 53 #[.pointer (some ⟨g, 0, none⟩), .agg #[.int .i64 2, .string a2, .string a3, .int .i64 a4, .int .i64 a5, .slice A n c]] W fun e w' => DoR w' e ∧ TrTo g (m + 1) W w' := by
  have hS := DoS.start h #[.int .i64 2, .string a2, .string a3, .int .i64 a4, .int .i64 a5, .slice A n c]
  have HS := Lib.hid hS
  have HT0 := Lib.hid h
  have HB0 : Hid (Below W.heap.size W (((W.alloc (.cells #[.int .i64 2, .string a2, .string a3, .int .i64 a4, .int .i64 a5, .slice A n c] 26)).alloc (.cells zAnCs 30)).alloc (.cells zAnCs 30))) := Lib.hid ((((Below.refl _ _).alloc (Nat.le_refl _) _).alloc (by simp) _).alloc (by simp; omega) _)
  have HA2 := Lib.hid ha2
  have HA3 := Lib.hid ha3
  have HM := Lib.hid hm
  clear h hS ha2 ha3 hm
  have hst0 := st_start W (.cells #[.int .i64 2, .string a2, .string a3, .int .i64 a4, .int .i64 a5, .slice A n c] 26) (.cells #[.int .i64 0, .int .i64 0, .int .i64 0, .int .i64 0, .slice none 0 0, .slice none 0 0] 30)
  go_enter Tryd.func53, Tryd.ntmps53
  go_upto_region 2 with fail
  clear hst0
  obtain ⟨X0, hX0⟩ : ∃ X, (((W.alloc (.cells #[.int .i64 2, .string a2, .string a3, .int .i64 a4, .int .i64 a5, .slice A n c] 26)).alloc (.cells #[.int .i64 0, .int .i64 0, .int .i64 0, .int .i64 0, .slice none 0 0, .slice none 0 0] 30)).alloc (.cells #[.int .i64 0, .int .i64 0, .int .i64 0, .int .i64 0, .slice none 0 0, .slice none 0 0] 30)) = X := ⟨_, rfl⟩
  rw [hX0] at HS HB0 ⊢
  clear hX0
  obtain ⟨q3, q4, f4, q6, l3, l4, l6⟩ := HS.out.facts
  have hld := HS.out.ld6
  have hst := HS.out.st4
  have HU := Lib.hid (up_any a2 X0 HA2.out)
  go_wp2_with fail
  refine HU.out.mono ?_
  rintro e W1 ⟨⟨ab, nm, k1, rfl, hab, hnm, hk0, hk1⟩, hb⟩
  have HS1 := Lib.hid (HS.out.below hb)
  clear q3 q4 f4 q6 l3 l4 l6 hld hst
  obtain ⟨q3, q4, f4, q6, l3, l4, l6⟩ := HS1.out.facts
  have hld := HS1.out.ld6
  have hst := HS1.out.st4
  have HB1 := Lib.hid (HB0.out.trans (hb.mono HB0.out.size))
  have HAB := Lib.hid hab
  have HNM := Lib.hid hnm
  clear hb hnm hab
  by_cases hk : k1 = 0
  rotate_left
  · clear HU
    go_wp2_with fail
    refine bodyPost_ret (v := .tuple #[.agg zAnCs, .int .i64 k1]) (results_row_tmp Tryd.results53 _ _ (W.heap.size + 1) 30 zAnCs (0, 0) _ _ rfl rfl (HS1.out.row4 zAnCs) Tryd.underlying30 rfl (by kernel_rfl)) rfl ?_
    exact ⟨DoR.zero _ k1 (by omega) (by omega), HS1.out.done zAnCs (by omega)⟩
  subst hk
  have HF := Lib.hid (find_any g m a2 _ HS1.out.tr HA2.out (by have := HM.out; omega))
  clear hk0 hk1
  go_wp2_with fail
  refine HF.out.mono ?_
  rintro e W2 ⟨⟨j, k2, rfl, hj, hk0, hk1⟩, hb⟩
  have HS2 := Lib.hid (HS1.out.below hb)
  clear q3 q4 f4 q6 l3 l4 l6 hld hst
  obtain ⟨q3, q4, f4, q6, l3, l4, l6⟩ := HS2.out.facts
  have hld := HS2.out.ld6
  have hst := HS2.out.st4
  have hj64 : (j : Int) < 64 := by omega
  have HB2 := Lib.hid (HB1.out.trans (hb.mono HB1.out.size))
  clear hb
  by_cases hk : k2 = 0
  rotate_left
  · clear HF
    go_wp2_with fail
    refine bodyPost_ret (v := .tuple #[.agg zAnCs, .int .i64 k2]) (results_row_tmp Tryd.results53 _ _ (W.heap.size + 1) 30 zAnCs (0, 0) _ _ rfl rfl (HS2.out.row4 zAnCs) Tryd.underlying30 rfl (by kernel_rfl)) rfl ?_
    exact ⟨DoR.zero _ k2 (by omega) (by omega), HS2.out.done zAnCs (by omega)⟩
  subst hk
  have HG := Lib.hid (find_any g m ab _ HS2.out.tr HAB.out (by have := HM.out; omega))
  clear hk0 hk1
  go_wp2_with fail
  refine HG.out.mono ?_
  rintro e W3 ⟨⟨jn, k3, rfl, hjn, -, -⟩, hb⟩
  have HS3 := Lib.hid (HS2.out.below hb)
  clear q3 q4 f4 q6 l3 l4 l6 hld hst
  obtain ⟨q3, q4, f4, q6, l3, l4, l6⟩ := HS3.out.facts
  have hld := HS3.out.ld6
  have hst := HS3.out.st4
  have hjn64 : (jn : Int) < 64 := by omega
  have HB3 := Lib.hid (HB2.out.trans (hb.mono HB2.out.size))
  clear hb
  obtain ⟨x, hxo, qn, qk, ql, qd, qe, fz, lg⟩ := HS3.out.tr.nd hj
  have HXO := Lib.hid hxo
  clear hxo
  obtain ⟨xk, hxk0⟩ : ∃ k, x.k = k := ⟨_, rfl⟩
  rw [hxk0] at qk
  clear hxk0
  by_cases hdir : xk = 1
  rotate_left
  · have hdb : (xk == 1) = false := by simpa using hdir
    go_wp2_with fail
    refine bodyPost_ret (v := .tuple #[.agg zAnCs, .int .i64 23]) (results_row_tmp Tryd.results53 _ _ (W.heap.size + 1) 30 zAnCs (0, 0) _ _ rfl rfl (HS3.out.row4 zAnCs) Tryd.underlying30 rfl (by kernel_rfl)) rfl ?_
    exact ⟨DoR.zero _ 23 (by omega) (by omega), HS3.out.done zAnCs (by omega)⟩
  subst hdir
  obtain ⟨ne, hne⟩ : ∃ k, x.es.length = k := ⟨_, rfl⟩
  rw [hne] at qe
  clear hne
  cases ne with
  | succ q =>
    have hpos : (0 : Int) < (q : Int) + 1 := by omega
    go_wp2_with fail
    refine bodyPost_ret (v := .tuple #[.agg zAnCs, .int .i64 25]) (results_row_tmp Tryd.results53 _ _ (W.heap.size + 1) 30 zAnCs (0, 0) _ _ rfl rfl (HS3.out.row4 zAnCs) Tryd.underlying30 rfl (by kernel_rfl)) rfl ?_
    exact ⟨DoR.zero _ 25 (by omega) (by omega), HS3.out.done zAnCs (by omega)⟩
  | zero =>
    have HD := Lib.hid (drop_any g m jn nm _ HS3.out.tr hjn (by have := HM.out; omega))
    go_wp2_with fail
    refine HD.out.mono ?_
    rintro e W4 ⟨⟨v, rfl⟩, ht⟩
    have HS4 := Lib.hid (HS3.out.to ht)
    clear ht q3 q4 f4 q6 l3 l4 l6 hld hst
    obtain ⟨q3, q4, f4, q6, l3, l4, l6⟩ := HS4.out.facts
    have hld := HS4.out.ld6
    have hst := HS4.out.st4
    clear qn qk ql qd qe fz lg HXO
    obtain ⟨x, hxo, qn, qk, ql, qd, qe, fz, lg⟩ := HS4.out.tr.nd hj
    have HXO := Lib.hid hxo
    clear hxo
    have HS5 := Lib.hid ((HS4.out.to (HS4.out.tr.setL hj (inR_iwrap (x.l - 1)))).below (Below.refl _ _).drew)
    clear qn qk qd qe
    go_upto_region 38 with fail
    go_cut [195] from 188 to 199 (fun s wx => Hid (DoS W g (m) #[.int .i64 2, .string a2, .string a3, .int .i64 a4, .int .i64 a5, .slice A n c] wx))
    case first =>
      go_region_law
        fail
      all_goals
        go_wp2_with fail
        go_meet
        exact HS5
    rename_i wcl
    clear HS5 ql fz lg HXO x q3 q4 f4 q6 l3 l4 l6 hld hst
    have HS5 := hcut
    clear hcut
    obtain ⟨q3, q4, f4, q6, l3, l4, l6⟩ := HS5.out.facts
    have hld := HS5.out.ld6
    have hst := HS5.out.st4
    obtain ⟨x, hxo, qn, qk, ql, qd, qe, fz, lg⟩ := HS5.out.tr.nd hj
    have HXO := Lib.hid hxo
    clear hxo
    obtain ⟨xl, hxl⟩ : ∃ k, x.l = k := ⟨_, rfl⟩
    rw [hxl] at ql
    clear hxl
    by_cases hl0 : xl = 0
    · subst hl0
      obtain ⟨W6, hst2, ht2⟩ := HS5.out.tr.stN hj (n := 0) (k := 0) (l := 0) (by decide) (by decide) (by decide)
      have HS6 := Lib.hid (HS5.out.to ht2)
      clear ht2
      have hld6 := HS6.out.ld6
      have hst6 := HS6.out.st4
      go_wp2_with fail
      refine bodyPost_ret (v := .tuple #[.agg zAnCs, .int .i64 0]) (results_row_tmp Tryd.results53 _ _ (W.heap.size + 1) 30 zAnCs (0, 0) _ _ rfl rfl (HS6.out.row4 zAnCs) Tryd.underlying30 rfl (by kernel_rfl)) rfl ?_
      exact ⟨DoR.zero _ 0 (by omega) (by omega), HS6.out.done zAnCs (by omega)⟩
    · have hlb : (xl == 0) = false := by simpa using hl0
      go_wp2_with fail
      refine bodyPost_ret (v := .tuple #[.agg zAnCs, .int .i64 0]) (results_row_tmp Tryd.results53 _ _ (W.heap.size + 1) 30 zAnCs (0, 0) _ _ rfl rfl (HS5.out.row4 zAnCs) Tryd.underlying30 rfl (by kernel_rfl)) rfl ?_
      exact ⟨DoR.zero _ 0 (by omega) (by omega), HS5.out.done zAnCs (by omega)⟩

set_option maxRecDepth 100000 in
set_option maxHeartbeats 8000000 in
theorem do_rm4 (g m : Nat) (a4 a5 : Int) (a2 a3 : ByteArray) (A : Option Addr) (n c : Nat) (W : World) (h : Tr W g m) (hm : m + 1 ≤ 64) (ha2 : a2.size ≤ 400) (ha3 : a3.size ≤ 400) :
    Calls Tryd.prog 53 #[.pointer (some ⟨g, 0, none⟩), .agg #[.int .i64 4, .string a2, .string a3, .int .i64 a4, .int .i64 a5, .slice A n c]] W fun e w' => DoR w' e ∧ TrTo g (m + 1) W w' := by
  have hS := DoS.start h #[.int .i64 4, .string a2, .string a3, .int .i64 a4, .int .i64 a5, .slice A n c]
  have HS := Lib.hid hS
  have HT0 := Lib.hid h
  have HB0 : Hid (Below W.heap.size W (((W.alloc (.cells #[.int .i64 4, .string a2, .string a3, .int .i64 a4, .int .i64 a5, .slice A n c] 26)).alloc (.cells zAnCs 30)).alloc (.cells zAnCs 30))) := Lib.hid ((((Below.refl _ _).alloc (Nat.le_refl _) _).alloc (by simp) _).alloc (by simp; omega) _)
  have HA2 := Lib.hid ha2
  have HA3 := Lib.hid ha3
  have HM := Lib.hid hm
  clear h hS ha2 ha3 hm
  have hst0 := st_start W (.cells #[.int .i64 4, .string a2, .string a3, .int .i64 a4, .int .i64 a5, .slice A n c] 26) (.cells #[.int .i64 0, .int .i64 0, .int .i64 0, .int .i64 0, .slice none 0 0, .slice none 0 0] 30)
  go_enter Tryd.func53, Tryd.ntmps53
  go_upto_region 2 with fail
  clear hst0
  obtain ⟨X0, hX0⟩ : ∃ X, (((W.alloc (.cells #[.int .i64 4, .string a2, .string a3, .int .i64 a4, .int .i64 a5, .slice A n c] 26)).alloc (.cells #[.int .i64 0, .int .i64 0, .int .i64 0, .int .i64 0, .slice none 0 0, .slice none 0 0] 30)).alloc (.cells #[.int .i64 0, .int .i64 0, .int .i64 0, .int .i64 0, .slice none 0 0, .slice none 0 0] 30)) = X := ⟨_, rfl⟩
  rw [hX0] at HS HB0 ⊢
  clear hX0
  obtain ⟨q3, q4, f4, q6, l3, l4, l6⟩ := HS.out.facts
  have hld := HS.out.ld6
  have hst := HS.out.st4
  have HU := Lib.hid (up_any a2 X0 HA2.out)
  go_wp2_with fail
  refine HU.out.mono ?_
  rintro e W1 ⟨⟨ab, nm, k1, rfl, hab, hnm, hk0, hk1⟩, hb⟩
  have HS1 := Lib.hid (HS.out.below hb)
  clear q3 q4 f4 q6 l3 l4 l6 hld hst
  obtain ⟨q3, q4, f4, q6, l3, l4, l6⟩ := HS1.out.facts
  have hld := HS1.out.ld6
  have hst := HS1.out.st4
  have HB1 := Lib.hid (HB0.out.trans (hb.mono HB0.out.size))
  have HAB := Lib.hid hab
  have HNM := Lib.hid hnm
  clear hb hnm hab
  by_cases hk : k1 = 0
  rotate_left
  · clear HU
    go_wp2_with fail
    refine bodyPost_ret (v := .tuple #[.agg zAnCs, .int .i64 k1]) (results_row_tmp Tryd.results53 _ _ (W.heap.size + 1) 30 zAnCs (0, 0) _ _ rfl rfl (HS1.out.row4 zAnCs) Tryd.underlying30 rfl (by kernel_rfl)) rfl ?_
    exact ⟨DoR.zero _ k1 (by omega) (by omega), HS1.out.done zAnCs (by omega)⟩
  subst hk
  have HF := Lib.hid (find_any g m a2 _ HS1.out.tr HA2.out (by have := HM.out; omega))
  clear hk0 hk1
  go_wp2_with fail
  refine HF.out.mono ?_
  rintro e W2 ⟨⟨j, k2, rfl, hj, hk0, hk1⟩, hb⟩
  have HS2 := Lib.hid (HS1.out.below hb)
  clear q3 q4 f4 q6 l3 l4 l6 hld hst
  obtain ⟨q3, q4, f4, q6, l3, l4, l6⟩ := HS2.out.facts
  have hld := HS2.out.ld6
  have hst := HS2.out.st4
  have hj64 : (j : Int) < 64 := by omega
  have HB2 := Lib.hid (HB1.out.trans (hb.mono HB1.out.size))
  clear hb
  by_cases hk : k2 = 0
  rotate_left
  · clear HF
    go_wp2_with fail
    refine bodyPost_ret (v := .tuple #[.agg zAnCs, .int .i64 k2]) (results_row_tmp Tryd.results53 _ _ (W.heap.size + 1) 30 zAnCs (0, 0) _ _ rfl rfl (HS2.out.row4 zAnCs) Tryd.underlying30 rfl (by kernel_rfl)) rfl ?_
    exact ⟨DoR.zero _ k2 (by omega) (by omega), HS2.out.done zAnCs (by omega)⟩
  subst hk
  have HG := Lib.hid (find_any g m ab _ HS2.out.tr HAB.out (by have := HM.out; omega))
  clear hk0 hk1
  go_wp2_with fail
  refine HG.out.mono ?_
  rintro e W3 ⟨⟨jn, k3, rfl, hjn, -, -⟩, hb⟩
  have HS3 := Lib.hid (HS2.out.below hb)
  clear q3 q4 f4 q6 l3 l4 l6 hld hst
  obtain ⟨q3, q4, f4, q6, l3, l4, l6⟩ := HS3.out.facts
  have hld := HS3.out.ld6
  have hst := HS3.out.st4
  have hjn64 : (jn : Int) < 64 := by omega
  have HB3 := Lib.hid (HB2.out.trans (hb.mono HB2.out.size))
  clear hb
  obtain ⟨x, hxo, qn, qk, ql, qd, qe, fz, lg⟩ := HS3.out.tr.nd hj
  have HXO := Lib.hid hxo
  clear hxo
  obtain ⟨xk, hxk0⟩ : ∃ k, x.k = k := ⟨_, rfl⟩
  rw [hxk0] at qk
  clear hxk0
  by_cases hdir : xk = 1
  · subst hdir
    go_wp2_with fail
    refine bodyPost_ret (v := .tuple #[.agg zAnCs, .int .i64 24]) (results_row_tmp Tryd.results53 _ _ (W.heap.size + 1) 30 zAnCs (0, 0) _ _ rfl rfl (HS3.out.row4 zAnCs) Tryd.underlying30 rfl (by kernel_rfl)) rfl ?_
    exact ⟨DoR.zero _ 24 (by omega) (by omega), HS3.out.done zAnCs (by omega)⟩
  have hdb : (xk == 1) = false := by simpa using hdir
  obtain ⟨ne, hne⟩ : ∃ k, x.es.length = k := ⟨_, rfl⟩
  rw [hne] at qe
  clear hne
  cases ne with
  | succ q =>
    have hpos : (0 : Int) < (q : Int) + 1 := by omega
    go_wp2_with fail
    refine bodyPost_ret (v := .tuple #[.agg zAnCs, .int .i64 25]) (results_row_tmp Tryd.results53 _ _ (W.heap.size + 1) 30 zAnCs (0, 0) _ _ rfl rfl (HS3.out.row4 zAnCs) Tryd.underlying30 rfl (by kernel_rfl)) rfl ?_
    exact ⟨DoR.zero _ 25 (by omega) (by omega), HS3.out.done zAnCs (by omega)⟩
  | zero =>
    have HD := Lib.hid (drop_any g m jn nm _ HS3.out.tr hjn (by have := HM.out; omega))
    go_wp2_with fail
    refine HD.out.mono ?_
    rintro e W4 ⟨⟨v, rfl⟩, ht⟩
    have HS4 := Lib.hid (HS3.out.to ht)
    clear ht q3 q4 f4 q6 l3 l4 l6 hld hst
    obtain ⟨q3, q4, f4, q6, l3, l4, l6⟩ := HS4.out.facts
    have hld := HS4.out.ld6
    have hst := HS4.out.st4
    clear qn qk ql qd qe fz lg HXO
    obtain ⟨x, hxo, qn, qk, ql, qd, qe, fz, lg⟩ := HS4.out.tr.nd hj
    have HXO := Lib.hid hxo
    clear hxo
    have HS5 := Lib.hid ((HS4.out.to (HS4.out.tr.setL hj (inR_iwrap (x.l - 1)))).below (Below.refl _ _).drew)
    clear qn qk qd qe
    go_upto_region 38 with fail
    go_cut [195] from 188 to 199 (fun s wx => Hid (DoS W g (m) #[.int .i64 4, .string a2, .string a3, .int .i64 a4, .int .i64 a5, .slice A n c] wx))
    case first =>
      go_region_law
        fail
      all_goals
        go_wp2_with fail
        go_meet
        exact HS5
    rename_i wcl
    clear HS5 ql fz lg HXO x q3 q4 f4 q6 l3 l4 l6 hld hst
    have HS5 := hcut
    clear hcut
    obtain ⟨q3, q4, f4, q6, l3, l4, l6⟩ := HS5.out.facts
    have hld := HS5.out.ld6
    have hst := HS5.out.st4
    obtain ⟨x, hxo, qn, qk, ql, qd, qe, fz, lg⟩ := HS5.out.tr.nd hj
    have HXO := Lib.hid hxo
    clear hxo
    obtain ⟨xl, hxl⟩ : ∃ k, x.l = k := ⟨_, rfl⟩
    rw [hxl] at ql
    clear hxl
    by_cases hl0 : xl = 0
    · subst hl0
      obtain ⟨W6, hst2, ht2⟩ := HS5.out.tr.stN hj (n := 0) (k := 0) (l := 0) (by decide) (by decide) (by decide)
      have HS6 := Lib.hid (HS5.out.to ht2)
      clear ht2
      have hld6 := HS6.out.ld6
      have hst6 := HS6.out.st4
      go_wp2_with fail
      refine bodyPost_ret (v := .tuple #[.agg zAnCs, .int .i64 0]) (results_row_tmp Tryd.results53 _ _ (W.heap.size + 1) 30 zAnCs (0, 0) _ _ rfl rfl (HS6.out.row4 zAnCs) Tryd.underlying30 rfl (by kernel_rfl)) rfl ?_
      exact ⟨DoR.zero _ 0 (by omega) (by omega), HS6.out.done zAnCs (by omega)⟩
    · have hlb : (xl == 0) = false := by simpa using hl0
      go_wp2_with fail
      refine bodyPost_ret (v := .tuple #[.agg zAnCs, .int .i64 0]) (results_row_tmp Tryd.results53 _ _ (W.heap.size + 1) 30 zAnCs (0, 0) _ _ rfl rfl (HS5.out.row4 zAnCs) Tryd.underlying30 rfl (by kernel_rfl)) rfl ?_
      exact ⟨DoR.zero _ 0 (by omega) (by omega), HS5.out.done zAnCs (by omega)⟩
end Go.Proofs.YtjkilpjdgjijiaaDoor
namespace Go.Proofs.YtjkilpjdgjijiaaDoor
open Go.RowKit
set_option linter.unusedVariables false
attribute [local go_sem] Oper.semAt_some
attribute [local go_sem ↓] exec_load_an4 exec_store_an4 exec_store_nd

set_option maxRecDepth 100000 in
set_option maxHeartbeats 8000000 in
theorem do_cut (g m : Nat) (a4 a5 : Int) (a2 a3 : ByteArray) (A : Option Addr) (n c : Nat) (W : World) (h : Tr W g m) (hm : m + 1 ≤ 64) (ha2 : a2.size ≤ 400) (ha3 : a3.size ≤ 400) :
    Calls Tryd.prog 53 #[.pointer (some ⟨g, 0, none⟩), .agg #[.int .i64 9, .string a2, .string a3, .int .i64 a4, .int .i64 a5, .slice A n c]] W fun e w' => DoR w' e ∧ TrTo g (m + 1) W w' := by
  have hS := DoS.start h #[.int .i64 9, .string a2, .string a3, .int .i64 a4, .int .i64 a5, .slice A n c]
  have HS := Lib.hid hS
  have HT0 := Lib.hid h
  have HB0 : Hid (Below W.heap.size W (((W.alloc (.cells #[.int .i64 9, .string a2, .string a3, .int .i64 a4, .int .i64 a5, .slice A n c] 26)).alloc (.cells zAnCs 30)).alloc (.cells zAnCs 30))) := Lib.hid ((((Below.refl _ _).alloc (Nat.le_refl _) _).alloc (by simp) _).alloc (by simp; omega) _)
  have HA2 := Lib.hid ha2
  have HA3 := Lib.hid ha3
  have HM := Lib.hid hm
  clear h hS ha2 ha3 hm
  have hst0 := st_start W (.cells #[.int .i64 9, .string a2, .string a3, .int .i64 a4, .int .i64 a5, .slice A n c] 26) (.cells #[.int .i64 0, .int .i64 0, .int .i64 0, .int .i64 0, .slice none 0 0, .slice none 0 0] 30)
  go_enter Tryd.func53, Tryd.ntmps53
  go_upto_region 2 with fail
  clear hst0
  obtain ⟨X0, hX0⟩ : ∃ X, (((W.alloc (.cells #[.int .i64 9, .string a2, .string a3, .int .i64 a4, .int .i64 a5, .slice A n c] 26)).alloc (.cells #[.int .i64 0, .int .i64 0, .int .i64 0, .int .i64 0, .slice none 0 0, .slice none 0 0] 30)).alloc (.cells #[.int .i64 0, .int .i64 0, .int .i64 0, .int .i64 0, .slice none 0 0, .slice none 0 0] 30)) = X := ⟨_, rfl⟩
  rw [hX0] at HS HB0 ⊢
  clear hX0
  obtain ⟨q3, q4, f4, q6, l3, l4, l6⟩ := HS.out.facts
  have hld := HS.out.ld6
  have hst := HS.out.st4
  have HU := Lib.hid (up_any a2 X0 HA2.out)
  go_wp2_with fail
  refine HU.out.mono ?_
  rintro e W1 ⟨⟨ab, nm, k1, rfl, hab, hnm, hk0, hk1⟩, hb⟩
  have HS1 := Lib.hid (HS.out.below hb)
  clear q3 q4 f4 q6 l3 l4 l6 hld hst
  obtain ⟨q3, q4, f4, q6, l3, l4, l6⟩ := HS1.out.facts
  have hld := HS1.out.ld6
  have hst := HS1.out.st4
  have HB1 := Lib.hid (HB0.out.trans (hb.mono HB0.out.size))
  have HAB := Lib.hid hab
  have HNM := Lib.hid hnm
  clear hb hnm hab
  go_upto_region 21 with fail
  go_cut [126] from 110 to 126 (fun s wx => s = .bool false ∧ wx = W1)
  case first =>
    by_cases hk : k1 = 0
    · subst hk
      go_wp2_with fail
      go_meet
      exact ⟨rfl, rfl⟩
    · go_wp2_with fail
      go_meet
      exact ⟨rfl, rfl⟩
  rename_i wc126
  obtain ⟨rfl, rfl⟩ := hcut
  have HF := Lib.hid (find_any g m a2 _ HS1.out.tr HA2.out (by have := HM.out; omega))
  clear hk0 hk1
  go_wp2_with fail
  refine HF.out.mono ?_
  rintro e W2 ⟨⟨j, k2, rfl, hj, hk0, hk1⟩, hb⟩
  have HS2 := Lib.hid (HS1.out.below hb)
  clear q3 q4 f4 q6 l3 l4 l6 hld hst
  obtain ⟨q3, q4, f4, q6, l3, l4, l6⟩ := HS2.out.facts
  have hld := HS2.out.ld6
  have hst := HS2.out.st4
  have hj64 : (j : Int) < 64 := by omega
  have HB2 := Lib.hid (HB1.out.trans (hb.mono HB1.out.size))
  clear hb
  by_cases hk : k2 = 0
  rotate_left
  · clear HF
    go_wp2_with fail
    refine bodyPost_ret (v := .tuple #[.agg zAnCs, .int .i64 k2]) (results_row_tmp Tryd.results53 _ _ (W.heap.size + 1) 30 zAnCs (0, 0) _ _ rfl rfl (HS2.out.row4 zAnCs) Tryd.underlying30 rfl (by kernel_rfl)) rfl ?_
    exact ⟨DoR.zero _ k2 (by omega) (by omega), HS2.out.done zAnCs (by omega)⟩
  subst hk
  have HG := Lib.hid (find_any g m ab _ HS2.out.tr HAB.out (by have := HM.out; omega))
  clear hk0 hk1
  go_wp2_with fail
  refine HG.out.mono ?_
  rintro e W3 ⟨⟨jn, k3, rfl, hjn, -, -⟩, hb⟩
  have HS3 := Lib.hid (HS2.out.below hb)
  clear q3 q4 f4 q6 l3 l4 l6 hld hst
  obtain ⟨q3, q4, f4, q6, l3, l4, l6⟩ := HS3.out.facts
  have hld := HS3.out.ld6
  have hst := HS3.out.st4
  have hjn64 : (jn : Int) < 64 := by omega
  have HB3 := Lib.hid (HB2.out.trans (hb.mono HB2.out.size))
  clear hb
  obtain ⟨x, hxo, qn, qk, ql, qd, qe, fz, lg⟩ := HS3.out.tr.nd hj
  have HXO := Lib.hid hxo
  clear hxo
  obtain ⟨xk, hxk0⟩ : ∃ k, x.k = k := ⟨_, rfl⟩
  rw [hxk0] at qk
  clear hxk0
  by_cases hdir : xk = 1
  · subst hdir
    go_wp2_with fail
    refine bodyPost_ret (v := .tuple #[.agg zAnCs, .int .i64 24]) (results_row_tmp Tryd.results53 _ _ (W.heap.size + 1) 30 zAnCs (0, 0) _ _ rfl rfl (HS3.out.row4 zAnCs) Tryd.underlying30 rfl (by kernel_rfl)) rfl ?_
    exact ⟨DoR.zero _ 24 (by omega) (by omega), HS3.out.done zAnCs (by omega)⟩
  have hdb : (xk == 1) = false := by simpa using hdir
  clear qn ql qd qe fz HXO
  obtain ⟨x, hxo, qn, qk2, ql, qd, qe, fz, lg0⟩ := HT0.out.nd hj
  obtain ⟨dl, hdl⟩ : ∃ k, x.d.length = k := ⟨_, rfl⟩
  have HDL := Lib.hid hdl
  have HOD := Lib.hid hxo.od
  have hd5 := hxo.d
  rw [hdl] at qd hd5 HOD
  have qd3 := (HB3.out.cell (p := ⟨g, j * 5 + 3, none⟩) lg0).trans qd
  have lg3 : g < W3.heap.size := Nat.lt_of_lt_of_le lg0 HB3.out.size
  have tt1 : ¬ ((512 : Int) < (dl : Int)) := by omega
  have HD5 : Hid (dl ≤ 512) := Lib.hid hd5
  clear qn qk2 ql qd qe fz hxo hdl hd5
  go_upto_region 76 with fail
  clear qd3 qk lg lg3
  by_cases n1 : a5 < 0
  · skip
    go_wp2_with fail
    refine bodyPost_ret (v := .tuple #[.agg zAnCs, .int .i64 1]) (results_row_tmp Tryd.results53 _ _ (W.heap.size + 1) 30 zAnCs (0, 0) _ _ rfl rfl (HS3.out.row4 zAnCs) Tryd.underlying30 rfl (by kernel_rfl)) rfl ?_
    exact ⟨DoR.zero _ 1 (by omega) (by omega), HS3.out.done zAnCs (by omega)⟩
  by_cases n2 : 512 < a5
  · skip
    go_wp2_with fail
    refine bodyPost_ret (v := .tuple #[.agg zAnCs, .int .i64 27]) (results_row_tmp Tryd.results53 _ _ (W.heap.size + 1) 30 zAnCs (0, 0) _ _ rfl rfl (HS3.out.row4 zAnCs) Tryd.underlying30 rfl (by kernel_rfl)) rfl ?_
    exact ⟨DoR.zero _ 27 (by omega) (by omega), HS3.out.done zAnCs (by omega)⟩
  obtain ⟨N, rfl⟩ : ∃ N : Nat, a5 = (N : Int) := ⟨a5.toNat, by omega⟩
  have hN : N ≤ 512 := by omega
  have HSZ : Hid (∀ w, Below W.heap.size W w → Calls Tryd.prog 70 #[.slice x.A dl x.c, .int .i64 (N : Int)] w fun e w' => (∃ v, e = .returned v ∧ OutB w.heap.size N v w') ∧ Below w.heap.size w w') := Lib.hid (fun w hb => by
    have h := size_any x.A x.c w.heap.size N x.d w (by have h := sown_keep HOD.out hb; rw [← HDL.out] at h; exact Sl.of_own h) (Nat.le_refl _) (by rw [HDL.out]; exact HD5.out) hN
    rw [HDL.out] at h
    exact h)
  have HN : Hid (N ≤ 512) := Lib.hid hN
  have HTC : Hid (∀ w, Below W3.drew.heap.size W3.drew w → (∃ v, w.cell? ⟨g, j * 5 + 3, none⟩ = some v) ∧ w.frozen? ⟨g, j * 5 + 3, none⟩ = false ∧ g < w.heap.size) := Lib.hid (fun w hb => by
    obtain ⟨y, -, -, -, -, h3, -, h5, h6⟩ := (HS3.out.tr.below (Below.refl _ W3).drew |>.below hb).nd hj
    exact ⟨⟨_, h3⟩, h5 _, h6⟩)
  have HFIN : Hid (∀ w A9 c9, Below W3.drew.heap.size W3.drew w → OutB W3.drew.heap.size N (.slice A9 N c9) w → DoS W g m #[.int .i64 9, .string a2, .string a3, .int .i64 a4, .int .i64 (N : Int), .slice A n c] (w.setCell ⟨g, j * 5 + 3, none⟩ (.slice A9 N c9))) := Lib.hid (fun w A9 c9 hb ho => by
    obtain ⟨A', c', L, e1, h1, h2⟩ := ho
    injection e1 with e1 e2 e3
    subst e1 e3
    have hz := ((HS3.out.below (Below.refl _ W3).drew).below hb)
    exact hz.to (hz.tr.setD hj h1 HN.out h2))
  clear hN
  go_upto_region 101 with fail
  have hbD : Below W.heap.size W W3.drew := HB3.out.drew
  go_region_law
    (go_simp; go_at_call 70
     with_reducible refine (HSZ.out _ hbD).mono ?_
     rintro e W4 ⟨⟨v, rfl, ho⟩, hb4⟩
     obtain ⟨A4, c4, L4, rfl, hL4, ho4⟩ := ho
     have HF4 := Lib.hid (HFIN.out W4 A4 c4 hb4 ⟨A4, c4, L4, rfl, hL4, ho4⟩)
     obtain ⟨⟨vv, hc4⟩, hf4, hl4⟩ := HTC.out W4 hb4
     clear hL4 ho4)
  all_goals
    clear q3 q4 f4 q6 l3 l4 l6 hld hst
    have hld4 := HF4.out.ld6
    have hst4 := HF4.out.st4
    go_wp2_with fail
    refine bodyPost_ret (v := .tuple #[.agg zAnCs, .int .i64 0]) (results_row_tmp Tryd.results53 _ _ (W.heap.size + 1) 30 zAnCs (0, 0) _ _ rfl rfl (HF4.out.row4 zAnCs) Tryd.underlying30 rfl (by kernel_rfl)) rfl ?_
    exact ⟨DoR.zero _ 0 (by omega) (by omega), HF4.out.done zAnCs (by omega)⟩
end Go.Proofs.YtjkilpjdgjijiaaDoor
