/- tidelineref04: the tree's do, by kinds: Link, Rename (printed by gen_do.py). tidelineref04: the tree's do, by kinds: Read (printed by gen_do.py). -/
import Derived.Test.YtjkilpjdgjijiaaDoorTrM
import Derived.Deep.CutRange
import Derived.Deep.RegionLaw
import Derived.Deep.AppendLies
namespace Go.Proofs.YtjkilpjdgjijiaaDoor
open Go.RowKit
set_option linter.unusedVariables false
attribute [local go_sem] Oper.semAt_some
attribute [local go_sem ↓] exec_load_an4 exec_store_an4 exec_store_nd

set_option maxRecDepth 100000 in
set_option maxHeartbeats 8000000 in
theorem do_link (g m : Nat) (a4 a5 : Int) (a2 a3 : ByteArray) (A : Option Addr) (n c : Nat) (W : World) (h : Tr W g m) (hm : m + 1 ≤ 64) (ha2 : a2.size ≤ 400) (ha3 : a3.size ≤ 400) :
    Calls Tryd.prog 53 #[.pointer (some ⟨g, 0, none⟩), .agg #[.int .i64 5, .string a2, .string a3, .int .i64 a4, .int .i64 a5, .slice A n c]] W fun e w' => DoR w' e ∧ TrTo g (m + 1) W w' := by
  have hS := DoS.start h #[.int .i64 5, .string a2, .string a3, .int .i64 a4, .int .i64 a5, .slice A n c]
  have HS := Lib.hid hS
  have HT0 := Lib.hid h
  have HB0 : Hid (Below W.heap.size W (((W.alloc (.cells #[.int .i64 5, .string a2, .string a3, .int .i64 a4, .int .i64 a5, .slice A n c] 26)).alloc (.cells zAnCs 30)).alloc (.cells zAnCs 30))) := Lib.hid ((((Below.refl _ _).alloc (Nat.le_refl _) _).alloc (by simp) _).alloc (by simp; omega) _)
  have HA2 := Lib.hid ha2
  have HA3 := Lib.hid ha3
  have HM := Lib.hid hm
  clear h hS ha2 ha3 hm
  have hst0 := st_start W (.cells #[.int .i64 5, .string a2, .string a3, .int .i64 a4, .int .i64 a5, .slice A n c] 26) (.cells #[.int .i64 0, .int .i64 0, .int .i64 0, .int .i64 0, .slice none 0 0, .slice none 0 0] 30)
  go_enter Tryd.func53, Tryd.ntmps53
  go_upto_region 2 with fail
  clear hst0
  obtain ⟨X0, hX0⟩ : ∃ X, (((W.alloc (.cells #[.int .i64 5, .string a2, .string a3, .int .i64 a4, .int .i64 a5, .slice A n c] 26)).alloc (.cells #[.int .i64 0, .int .i64 0, .int .i64 0, .int .i64 0, .slice none 0 0, .slice none 0 0] 30)).alloc (.cells #[.int .i64 0, .int .i64 0, .int .i64 0, .int .i64 0, .slice none 0 0, .slice none 0 0] 30)) = X := ⟨_, rfl⟩
  rw [hX0] at HS HB0 ⊢
  clear hX0
  obtain ⟨q3, q4, f4, q6, l3, l4, l6⟩ := HS.out.facts
  have hld := HS.out.ld6
  have hst := HS.out.st4
  have HU := Lib.hid (up_any a2 X0 HA2.out)
  go_wp2_with fail
  refine HU.out.mono ?_
  rintro e W1 ⟨⟨ab, nm, k1, rfl, hab, hnm, hk0, hk1⟩, hb⟩
  have HS1 := Lib.hid (HS.out.below hb)
  clear q3 q4 f4 q6 l3 l4 l6 hld hst
  obtain ⟨q3, q4, f4, q6, l3, l4, l6⟩ := HS1.out.facts
  have hld := HS1.out.ld6
  have hst := HS1.out.st4
  have HB1 := Lib.hid (HB0.out.trans (hb.mono HB0.out.size))
  have HAB := Lib.hid hab
  have HNM := Lib.hid hnm
  clear hb hnm hab
  go_upto_region 21 with fail
  go_cut [126] from 110 to 126 (fun s wx => s = .bool false ∧ wx = W1)
  case first =>
    by_cases hk : k1 = 0
    · subst hk
      go_wp2_with fail
      go_meet
      exact ⟨rfl, rfl⟩
    · go_wp2_with fail
      go_meet
      exact ⟨rfl, rfl⟩
  rename_i wc126
  obtain ⟨rfl, rfl⟩ := hcut
  have HF := Lib.hid (find_any g m a2 _ HS1.out.tr HA2.out (by have := HM.out; omega))
  clear hk0 hk1
  go_wp2_with fail
  refine HF.out.mono ?_
  rintro e W2 ⟨⟨j, k2, rfl, hj, hk0, hk1⟩, hb⟩
  have HS2 := Lib.hid (HS1.out.below hb)
  clear q3 q4 f4 q6 l3 l4 l6 hld hst
  obtain ⟨q3, q4, f4, q6, l3, l4, l6⟩ := HS2.out.facts
  have hld := HS2.out.ld6
  have hst := HS2.out.st4
  have hj64 : (j : Int) < 64 := by omega
  have HB2 := Lib.hid (HB1.out.trans (hb.mono HB1.out.size))
  clear hb
  by_cases hk : k2 = 0
  rotate_left
  · clear HF
    go_wp2_with fail
    refine bodyPost_ret (v := .tuple #[.agg zAnCs, .int .i64 k2]) (results_row_tmp Tryd.results53 _ _ (W.heap.size + 1) 30 zAnCs (0, 0) _ _ rfl rfl (HS2.out.row4 zAnCs) Tryd.underlying30 rfl (by kernel_rfl)) rfl ?_
    exact ⟨DoR.zero _ k2 (by omega) (by omega), HS2.out.done zAnCs (by omega)⟩
  subst hk
  have HG := Lib.hid (find_any g m ab _ HS2.out.tr HAB.out (by have := HM.out; omega))
  clear hk0 hk1
  go_wp2_with fail
  refine HG.out.mono ?_
  rintro e W3 ⟨⟨jn, k3, rfl, hjn, -, -⟩, hb⟩
  have HS3 := Lib.hid (HS2.out.below hb)
  clear q3 q4 f4 q6 l3 l4 l6 hld hst
  obtain ⟨q3, q4, f4, q6, l3, l4, l6⟩ := HS3.out.facts
  have hld := HS3.out.ld6
  have hst := HS3.out.st4
  have hjn64 : (jn : Int) < 64 := by omega
  have HB3 := Lib.hid (HB2.out.trans (hb.mono HB2.out.size))
  clear hb
  obtain ⟨x, hxo, qn, qk, ql, qd, qe, fz, lg⟩ := HS3.out.tr.nd hj
  have HXO := Lib.hid hxo
  clear hxo
  obtain ⟨xk, hxk0⟩ : ∃ k, x.k = k := ⟨_, rfl⟩
  rw [hxk0] at qk
  clear hxk0
  by_cases hdir : xk = 1
  · subst hdir
    go_wp2_with fail
    refine bodyPost_ret (v := .tuple #[.agg zAnCs, .int .i64 24]) (results_row_tmp Tryd.results53 _ _ (W.heap.size + 1) 30 zAnCs (0, 0) _ _ rfl rfl (HS3.out.row4 zAnCs) Tryd.underlying30 rfl (by kernel_rfl)) rfl ?_
    exact ⟨DoR.zero _ 24 (by omega) (by omega), HS3.out.done zAnCs (by omega)⟩
  have hdb : (xk == 1) = false := by simpa using hdir
  have HP := Lib.hid (place_ref g m a3 _ HS3.out.tr HA3.out (by have := HM.out; omega))
  go_wp2_with fail
  refine HP.out.mono ?_
  rintro e W4 ⟨⟨jt, nt, k4, rfl, hjt, hnt, hk0, hk1⟩, hb⟩
  have HS4 := Lib.hid (HS3.out.below hb)
  clear q3 q4 f4 q6 l3 l4 l6 hld hst
  obtain ⟨q3, q4, f4, q6, l3, l4, l6⟩ := HS4.out.facts
  have hld := HS4.out.ld6
  have hst := HS4.out.st4
  have HNT := Lib.hid hnt
  clear hb hnt qn qk ql qd qe fz lg HXO
  by_cases hk : k4 = 0
  rotate_left
  · clear HP
    go_wp2_with fail
    refine bodyPost_ret (v := .tuple #[.agg zAnCs, .int .i64 k4]) (results_row_tmp Tryd.results53 _ _ (W.heap.size + 1) 30 zAnCs (0, 0) _ _ rfl rfl (HS4.out.row4 zAnCs) Tryd.underlying30 rfl (by kernel_rfl)) rfl ?_
    exact ⟨DoR.zero _ k4 (by omega) (by omega), HS4.out.done zAnCs (by omega)⟩
  subst hk
  have HPUT := Lib.hid (put_any g m jt nt (j : Int) _ HS4.out.tr hjt HM.out HNT.out (by omega) (by omega))
  clear hk0 hk1
  go_wp2_with fail
  refine HPUT.out.mono ?_
  rintro e W5 ⟨⟨v, rfl⟩, ht⟩
  have HS5 := Lib.hid (HS4.out.to ht)
  clear ht q3 q4 f4 q6 l3 l4 l6 hld hst
  obtain ⟨q3, q4, f4, q6, l3, l4, l6⟩ := HS5.out.facts
  have hld := HS5.out.ld6
  have hst := HS5.out.st4
  obtain ⟨x, hxo, qn, qk, ql, qd, qe, fz, lg⟩ := HS5.out.tr.nd hj
  have HXO := Lib.hid hxo
  clear hxo
  have HS6 := Lib.hid ((HS5.out.to (HS5.out.tr.setL hj (inR_iwrap (x.l + 1)))).below (Below.refl _ _).drew)
  clear qn qk qd qe
  go_upto_region 49 with fail
  go_cut [243] from 236 to 247 (fun s wx => Hid (DoS W g (m + 1) #[.int .i64 5, .string a2, .string a3, .int .i64 a4, .int .i64 a5, .slice A n c] wx))
  case first =>
    go_region_law
      fail
    all_goals
      go_wp2_with fail
      go_meet
      exact HS6
  rename_i wcl
  clear HS6 ql fz lg HXO x q3 q4 f4 q6 l3 l4 l6 hld hst
  have HS6 := hcut
  clear hcut
  obtain ⟨q3, q4, f4, q6, l3, l4, l6⟩ := HS6.out.facts
  have hld := HS6.out.ld6
  have hst := HS6.out.st4
  go_wp2_with fail
  refine bodyPost_ret (v := .tuple #[.agg zAnCs, .int .i64 0]) (results_row_tmp Tryd.results53 _ _ (W.heap.size + 1) 30 zAnCs (0, 0) _ _ rfl rfl (HS6.out.row4 zAnCs) Tryd.underlying30 rfl (by kernel_rfl)) rfl ?_
  exact ⟨DoR.zero _ 0 (by omega) (by omega), HS6.out.done zAnCs (by omega)⟩

set_option maxRecDepth 100000 in
set_option maxHeartbeats 8000000 in
theorem do_rename (g m : Nat) (a4 a5 : Int) (a2 a3 : ByteArray) (A : Option Addr) (n c : Nat) (W : World) (h : Tr W g m) (hm : m + 1 ≤ 64) (ha2 : a2.size ≤ 400) (ha3 : a3.size ≤ 400) :
    Calls Tryd.prog 53 #[.pointer (some ⟨g, 0, none⟩), .agg #[.int .i64 6, .string a2, .string a3, .int .i64 a4, .int .i64 a5, .slice A n c]] W fun e w' => DoR w' e ∧ TrTo g (m + 1) W w' := by
  have hS := DoS.start h #[.int .i64 6, .string a2, .string a3, .int .i64 a4, .int .i64 a5, .slice A n c]
  have HS := Lib.hid hS
  have HT0 := Lib.hid h
  have HB0 : Hid (Below W.heap.size W (((W.alloc (.cells #[.int .i64 6, .string a2, .string a3, .int .i64 a4, .int .i64 a5, .slice A n c] 26)).alloc (.cells zAnCs 30)).alloc (.cells zAnCs 30))) := Lib.hid ((((Below.refl _ _).alloc (Nat.le_refl _) _).alloc (by simp) _).alloc (by simp; omega) _)
  have HA2 := Lib.hid ha2
  have HA3 := Lib.hid ha3
  have HM := Lib.hid hm
  clear h hS ha2 ha3 hm
  have hst0 := st_start W (.cells #[.int .i64 6, .string a2, .string a3, .int .i64 a4, .int .i64 a5, .slice A n c] 26) (.cells #[.int .i64 0, .int .i64 0, .int .i64 0, .int .i64 0, .slice none 0 0, .slice none 0 0] 30)
  go_enter Tryd.func53, Tryd.ntmps53
  go_upto_region 2 with fail
  clear hst0
  obtain ⟨X0, hX0⟩ : ∃ X, (((W.alloc (.cells #[.int .i64 6, .string a2, .string a3, .int .i64 a4, .int .i64 a5, .slice A n c] 26)).alloc (.cells #[.int .i64 0, .int .i64 0, .int .i64 0, .int .i64 0, .slice none 0 0, .slice none 0 0] 30)).alloc (.cells #[.int .i64 0, .int .i64 0, .int .i64 0, .int .i64 0, .slice none 0 0, .slice none 0 0] 30)) = X := ⟨_, rfl⟩
  rw [hX0] at HS HB0 ⊢
  clear hX0
  obtain ⟨q3, q4, f4, q6, l3, l4, l6⟩ := HS.out.facts
  have hld := HS.out.ld6
  have hst := HS.out.st4
  have HU := Lib.hid (up_any a2 X0 HA2.out)
  go_wp2_with fail
  refine HU.out.mono ?_
  rintro e W1 ⟨⟨ab, nm, k1, rfl, hab, hnm, hk0, hk1⟩, hb⟩
  have HS1 := Lib.hid (HS.out.below hb)
  clear q3 q4 f4 q6 l3 l4 l6 hld hst
  obtain ⟨q3, q4, f4, q6, l3, l4, l6⟩ := HS1.out.facts
  have hld := HS1.out.ld6
  have hst := HS1.out.st4
  have HB1 := Lib.hid (HB0.out.trans (hb.mono HB0.out.size))
  have HAB := Lib.hid hab
  have HNM := Lib.hid hnm
  clear hb hnm hab
  by_cases hk : k1 = 0
  rotate_left
  · clear HU
    go_wp2_with fail
    refine bodyPost_ret (v := .tuple #[.agg zAnCs, .int .i64 k1]) (results_row_tmp Tryd.results53 _ _ (W.heap.size + 1) 30 zAnCs (0, 0) _ _ rfl rfl (HS1.out.row4 zAnCs) Tryd.underlying30 rfl (by kernel_rfl)) rfl ?_
    exact ⟨DoR.zero _ k1 (by omega) (by omega), HS1.out.done zAnCs (by omega)⟩
  subst hk
  have HF := Lib.hid (find_any g m a2 _ HS1.out.tr HA2.out (by have := HM.out; omega))
  clear hk0 hk1
  go_wp2_with fail
  refine HF.out.mono ?_
  rintro e W2 ⟨⟨j, k2, rfl, hj, hk0, hk1⟩, hb⟩
  have HS2 := Lib.hid (HS1.out.below hb)
  clear q3 q4 f4 q6 l3 l4 l6 hld hst
  obtain ⟨q3, q4, f4, q6, l3, l4, l6⟩ := HS2.out.facts
  have hld := HS2.out.ld6
  have hst := HS2.out.st4
  have hj64 : (j : Int) < 64 := by omega
  have HB2 := Lib.hid (HB1.out.trans (hb.mono HB1.out.size))
  clear hb
  by_cases hk : k2 = 0
  rotate_left
  · clear HF
    go_wp2_with fail
    refine bodyPost_ret (v := .tuple #[.agg zAnCs, .int .i64 k2]) (results_row_tmp Tryd.results53 _ _ (W.heap.size + 1) 30 zAnCs (0, 0) _ _ rfl rfl (HS2.out.row4 zAnCs) Tryd.underlying30 rfl (by kernel_rfl)) rfl ?_
    exact ⟨DoR.zero _ k2 (by omega) (by omega), HS2.out.done zAnCs (by omega)⟩
  subst hk
  have HG := Lib.hid (find_any g m ab _ HS2.out.tr HAB.out (by have := HM.out; omega))
  clear hk0 hk1
  go_wp2_with fail
  refine HG.out.mono ?_
  rintro e W3 ⟨⟨jn, k3, rfl, hjn, -, -⟩, hb⟩
  have HS3 := Lib.hid (HS2.out.below hb)
  clear q3 q4 f4 q6 l3 l4 l6 hld hst
  obtain ⟨q3, q4, f4, q6, l3, l4, l6⟩ := HS3.out.facts
  have hld := HS3.out.ld6
  have hst := HS3.out.st4
  have hjn64 : (jn : Int) < 64 := by omega
  have HB3 := Lib.hid (HB2.out.trans (hb.mono HB2.out.size))
  clear hb
  obtain ⟨x, hxo, qn, qk, ql, qd, qe, fz, lg⟩ := HS3.out.tr.nd hj
  have HXO := Lib.hid hxo
  clear hxo
  obtain ⟨xk, hxk0⟩ : ∃ k, x.k = k := ⟨_, rfl⟩
  rw [hxk0] at qk
  clear hxk0
  clear ql qd qe fz HXO
  by_cases heq : a3.toList = a2.toList
  · have hd : (a3.toList == a2.toList) = true := by rw [heq]; simp
    go_wp2_with fail
    refine bodyPost_ret (v := .tuple #[.agg zAnCs, .int .i64 0]) (results_row_tmp Tryd.results53 _ _ (W.heap.size + 1) 30 zAnCs (0, 0) _ _ rfl rfl (HS3.out.row4 zAnCs) Tryd.underlying30 rfl (by kernel_rfl)) rfl ?_
    exact ⟨DoR.zero _ 0 (by omega) (by omega), HS3.out.done zAnCs (by omega)⟩
  have hd : (a3.toList == a2.toList) = false := by simpa using heq
  have HI := Lib.hid (rinside_any a3 a2 W3 (by have := HA3.out; omega) (by have := HA2.out; omega))
  obtain ⟨ins, hins⟩ : ∃ b, insideP a3.data.toList a2.data.toList = b := ⟨_, rfl⟩
  rw [hins] at HI
  clear hins
  go_wp2_with fail
  refine HI.out.mono ?_
  rintro e W4 ⟨rfl, hb⟩
  have HS4 := Lib.hid (HS3.out.below hb)
  clear q3 q4 f4 q6 l3 l4 l6 hld hst
  obtain ⟨q3, q4, f4, q6, l3, l4, l6⟩ := HS4.out.facts
  have hld := HS4.out.ld6
  have hst := HS4.out.st4
  clear hb
  cases ins with
  | true =>
    go_wp2_with fail
    refine bodyPost_ret (v := .tuple #[.agg zAnCs, .int .i64 26]) (results_row_tmp Tryd.results53 _ _ (W.heap.size + 1) 30 zAnCs (0, 0) _ _ rfl rfl (HS4.out.row4 zAnCs) Tryd.underlying30 rfl (by kernel_rfl)) rfl ?_
    exact ⟨DoR.zero _ 26 (by omega) (by omega), HS4.out.done zAnCs (by omega)⟩
  | false =>
    have HP := Lib.hid (place_ref g m a3 _ HS4.out.tr HA3.out (by have := HM.out; omega))
    go_wp2_with fail
    refine HP.out.mono ?_
    rintro e W5 ⟨⟨jt, nt, k4, rfl, hjt, hnt, hk0, hk1⟩, hb⟩
    have HS5 := Lib.hid (HS4.out.below hb)
    clear q3 q4 f4 q6 l3 l4 l6 hld hst
    obtain ⟨q3, q4, f4, q6, l3, l4, l6⟩ := HS5.out.facts
    have hld := HS5.out.ld6
    have hst := HS5.out.st4
    have HNT := Lib.hid hnt
    clear hb hnt
    by_cases hk : k4 = 0
    rotate_left
    · clear HP
      go_wp2_with fail
      refine bodyPost_ret (v := .tuple #[.agg zAnCs, .int .i64 k4]) (results_row_tmp Tryd.results53 _ _ (W.heap.size + 1) 30 zAnCs (0, 0) _ _ rfl rfl (HS5.out.row4 zAnCs) Tryd.underlying30 rfl (by kernel_rfl)) rfl ?_
      exact ⟨DoR.zero _ k4 (by omega) (by omega), HS5.out.done zAnCs (by omega)⟩
    subst hk
    have HD := Lib.hid (drop_any g m jn nm _ HS5.out.tr hjn (by have := HM.out; omega))
    clear hk0 hk1
    go_wp2_with fail
    refine HD.out.mono ?_
    rintro e W6 ⟨⟨v, rfl⟩, ht⟩
    have HS6 := Lib.hid (HS5.out.to ht)
    clear ht q3 q4 f4 q6 l3 l4 l6 hld hst
    obtain ⟨q3, q4, f4, q6, l3, l4, l6⟩ := HS6.out.facts
    have hld := HS6.out.ld6
    have hst := HS6.out.st4
    have HPUT := Lib.hid (put_any g m jt nt (j : Int) _ HS6.out.tr hjt HM.out HNT.out (by omega) (by omega))
    go_wp2_with fail
    refine HPUT.out.mono ?_
    rintro e W7 ⟨⟨v, rfl⟩, ht⟩
    have HS7 := Lib.hid (HS6.out.to ht)
    clear ht q3 q4 f4 q6 l3 l4 l6 hld hst
    obtain ⟨q3, q4, f4, q6, l3, l4, l6⟩ := HS7.out.facts
    have hld := HS7.out.ld6
    have hst := HS7.out.st4
    go_wp2_with fail
    refine bodyPost_ret (v := .tuple #[.agg zAnCs, .int .i64 0]) (results_row_tmp Tryd.results53 _ _ (W.heap.size + 1) 30 zAnCs (0, 0) _ _ rfl rfl (HS7.out.row4 zAnCs) Tryd.underlying30 rfl (by kernel_rfl)) rfl ?_
    exact ⟨DoR.zero _ 0 (by omega) (by omega), HS7.out.done zAnCs (by omega)⟩
end Go.Proofs.YtjkilpjdgjijiaaDoor
namespace Go.Proofs.YtjkilpjdgjijiaaDoor
open Go.RowKit
set_option linter.unusedVariables false
attribute [local go_sem] Oper.semAt_some
attribute [local go_sem ↓] exec_load_an4 exec_store_an4 exec_store_nd

set_option maxRecDepth 100000 in
set_option maxHeartbeats 8000000 in
theorem do_read (g m : Nat) (a4 a5 : Int) (a2 a3 : ByteArray) (A : Option Addr) (n c : Nat) (W : World) (h : Tr W g m) (hm : m + 1 ≤ 64) (ha2 : a2.size ≤ 400) (ha3 : a3.size ≤ 400) :
    Calls Tryd.prog 53 #[.pointer (some ⟨g, 0, none⟩), .agg #[.int .i64 8, .string a2, .string a3, .int .i64 a4, .int .i64 a5, .slice A n c]] W fun e w' => DoR w' e ∧ TrTo g (m + 1) W w' := by
  have hS := DoS.start h #[.int .i64 8, .string a2, .string a3, .int .i64 a4, .int .i64 a5, .slice A n c]
  have HS := Lib.hid hS
  have HT0 := Lib.hid h
  have HB0 : Hid (Below W.heap.size W (((W.alloc (.cells #[.int .i64 8, .string a2, .string a3, .int .i64 a4, .int .i64 a5, .slice A n c] 26)).alloc (.cells zAnCs 30)).alloc (.cells zAnCs 30))) := Lib.hid ((((Below.refl _ _).alloc (Nat.le_refl _) _).alloc (by simp) _).alloc (by simp; omega) _)
  have HA2 := Lib.hid ha2
  have HA3 := Lib.hid ha3
  have HM := Lib.hid hm
  clear h hS ha2 ha3 hm
  have hst0 := st_start W (.cells #[.int .i64 8, .string a2, .string a3, .int .i64 a4, .int .i64 a5, .slice A n c] 26) (.cells #[.int .i64 0, .int .i64 0, .int .i64 0, .int .i64 0, .slice none 0 0, .slice none 0 0] 30)
  go_enter Tryd.func53, Tryd.ntmps53
  go_upto_region 2 with fail
  clear hst0
  obtain ⟨X0, hX0⟩ : ∃ X, (((W.alloc (.cells #[.int .i64 8, .string a2, .string a3, .int .i64 a4, .int .i64 a5, .slice A n c] 26)).alloc (.cells #[.int .i64 0, .int .i64 0, .int .i64 0, .int .i64 0, .slice none 0 0, .slice none 0 0] 30)).alloc (.cells #[.int .i64 0, .int .i64 0, .int .i64 0, .int .i64 0, .slice none 0 0, .slice none 0 0] 30)) = X := ⟨_, rfl⟩
  rw [hX0] at HS HB0 ⊢
  clear hX0
  obtain ⟨q3, q4, f4, q6, l3, l4, l6⟩ := HS.out.facts
  have hld := HS.out.ld6
  have hst := HS.out.st4
  have HU := Lib.hid (up_any a2 X0 HA2.out)
  go_wp2_with fail
  refine HU.out.mono ?_
  rintro e W1 ⟨⟨ab, nm, k1, rfl, hab, hnm, hk0, hk1⟩, hb⟩
  have HS1 := Lib.hid (HS.out.below hb)
  clear q3 q4 f4 q6 l3 l4 l6 hld hst
  obtain ⟨q3, q4, f4, q6, l3, l4, l6⟩ := HS1.out.facts
  have hld := HS1.out.ld6
  have hst := HS1.out.st4
  have HB1 := Lib.hid (HB0.out.trans (hb.mono HB0.out.size))
  have HAB := Lib.hid hab
  have HNM := Lib.hid hnm
  clear hb hnm hab
  go_upto_region 21 with fail
  go_cut [126] from 110 to 126 (fun s wx => s = .bool false ∧ wx = W1)
  case first =>
    by_cases hk : k1 = 0
    · subst hk
      go_wp2_with fail
      go_meet
      exact ⟨rfl, rfl⟩
    · go_wp2_with fail
      go_meet
      exact ⟨rfl, rfl⟩
  rename_i wc126
  obtain ⟨rfl, rfl⟩ := hcut
  have HF := Lib.hid (find_any g m a2 _ HS1.out.tr HA2.out (by have := HM.out; omega))
  clear hk0 hk1
  go_wp2_with fail
  refine HF.out.mono ?_
  rintro e W2 ⟨⟨j, k2, rfl, hj, hk0, hk1⟩, hb⟩
  have HS2 := Lib.hid (HS1.out.below hb)
  clear q3 q4 f4 q6 l3 l4 l6 hld hst
  obtain ⟨q3, q4, f4, q6, l3, l4, l6⟩ := HS2.out.facts
  have hld := HS2.out.ld6
  have hst := HS2.out.st4
  have hj64 : (j : Int) < 64 := by omega
  have HB2 := Lib.hid (HB1.out.trans (hb.mono HB1.out.size))
  clear hb
  by_cases hk : k2 = 0
  rotate_left
  · clear HF
    go_wp2_with fail
    refine bodyPost_ret (v := .tuple #[.agg zAnCs, .int .i64 k2]) (results_row_tmp Tryd.results53 _ _ (W.heap.size + 1) 30 zAnCs (0, 0) _ _ rfl rfl (HS2.out.row4 zAnCs) Tryd.underlying30 rfl (by kernel_rfl)) rfl ?_
    exact ⟨DoR.zero _ k2 (by omega) (by omega), HS2.out.done zAnCs (by omega)⟩
  subst hk
  have HG := Lib.hid (find_any g m ab _ HS2.out.tr HAB.out (by have := HM.out; omega))
  clear hk0 hk1
  go_wp2_with fail
  refine HG.out.mono ?_
  rintro e W3 ⟨⟨jn, k3, rfl, hjn, -, -⟩, hb⟩
  have HS3 := Lib.hid (HS2.out.below hb)
  clear q3 q4 f4 q6 l3 l4 l6 hld hst
  obtain ⟨q3, q4, f4, q6, l3, l4, l6⟩ := HS3.out.facts
  have hld := HS3.out.ld6
  have hst := HS3.out.st4
  have hjn64 : (jn : Int) < 64 := by omega
  have HB3 := Lib.hid (HB2.out.trans (hb.mono HB2.out.size))
  clear hb
  obtain ⟨x, hxo, qn, qk, ql, qd, qe, fz, lg⟩ := HS3.out.tr.nd hj
  have HXO := Lib.hid hxo
  clear hxo
  obtain ⟨xk, hxk0⟩ : ∃ k, x.k = k := ⟨_, rfl⟩
  rw [hxk0] at qk
  clear hxk0
  by_cases hdir : xk = 1
  · subst hdir
    go_wp2_with fail
    refine bodyPost_ret (v := .tuple #[.agg zAnCs, .int .i64 24]) (results_row_tmp Tryd.results53 _ _ (W.heap.size + 1) 30 zAnCs (0, 0) _ _ rfl rfl (HS3.out.row4 zAnCs) Tryd.underlying30 rfl (by kernel_rfl)) rfl ?_
    exact ⟨DoR.zero _ 24 (by omega) (by omega), HS3.out.done zAnCs (by omega)⟩
  have hdb : (xk == 1) = false := by simpa using hdir
  clear qn ql qd qe fz HXO
  obtain ⟨x, hxo, qn, qk2, ql, qd, qe, fz, lg0⟩ := HT0.out.nd hj
  obtain ⟨dl, hdl⟩ : ∃ k, x.d.length = k := ⟨_, rfl⟩
  have HDL := Lib.hid hdl
  have HOD := Lib.hid hxo.od
  have hd5 := hxo.d
  rw [hdl] at qd hd5 HOD
  have qd3 := (HB3.out.cell (p := ⟨g, j * 5 + 3, none⟩) lg0).trans qd
  have lg3 : g < W3.heap.size := Nat.lt_of_lt_of_le lg0 HB3.out.size
  have tt1 : ¬ ((512 : Int) < (dl : Int)) := by omega
  have HD5 : Hid (dl ≤ 512) := Lib.hid hd5
  clear qn qk2 ql qd qe fz hxo hdl hd5
  go_upto_region 76 with fail
  clear qd3 qk lg lg3
  by_cases n0 : a4 < 0
  · skip
    go_wp2_with fail
    refine bodyPost_ret (v := .tuple #[.agg zAnCs, .int .i64 1]) (results_row_tmp Tryd.results53 _ _ (W.heap.size + 1) 30 zAnCs (0, 0) _ _ rfl rfl (HS3.out.row4 zAnCs) Tryd.underlying30 rfl (by kernel_rfl)) rfl ?_
    exact ⟨DoR.zero _ 1 (by omega) (by omega), HS3.out.done zAnCs (by omega)⟩
  by_cases n1 : a5 < 0
  · skip
    go_wp2_with fail
    refine bodyPost_ret (v := .tuple #[.agg zAnCs, .int .i64 1]) (results_row_tmp Tryd.results53 _ _ (W.heap.size + 1) 30 zAnCs (0, 0) _ _ rfl rfl (HS3.out.row4 zAnCs) Tryd.underlying30 rfl (by kernel_rfl)) rfl ?_
    exact ⟨DoR.zero _ 1 (by omega) (by omega), HS3.out.done zAnCs (by omega)⟩
  by_cases n2 : 256 < a5
  · skip
    go_wp2_with fail
    refine bodyPost_ret (v := .tuple #[.agg zAnCs, .int .i64 1]) (results_row_tmp Tryd.results53 _ _ (W.heap.size + 1) 30 zAnCs (0, 0) _ _ rfl rfl (HS3.out.row4 zAnCs) Tryd.underlying30 rfl (by kernel_rfl)) rfl ?_
    exact ⟨DoR.zero _ 1 (by omega) (by omega), HS3.out.done zAnCs (by omega)⟩
  obtain ⟨N, rfl⟩ : ∃ N : Nat, a5 = (N : Int) := ⟨a5.toNat, by omega⟩
  obtain ⟨o, rfl⟩ : ∃ N : Nat, a4 = (N : Int) := ⟨a4.toNat, by omega⟩
  have HN : Hid (N ≤ 256) := Lib.hid (by omega)
  go_upto_region 93 with fail
  obtain ⟨xA, hxA⟩ : ∃ a, x.A = a := ⟨_, rfl⟩
  have HXA := Lib.hid hxA
  rw [hxA] at HOD ⊢
  clear hxA
  rcases own_two HOD.out with ⟨rfl, rfl⟩ | ⟨b1, rfl⟩
  · skip
    go_loopw [29] (fun s wr => ∃ (i : Nat), i ≤ N ∧ s = .int .i64 (i : Int) ∧ ReadI W #[.int .i64 8, .string a2, .string a3, .int .i64 (o : Int), .int .i64 (N : Int), .slice A n c] i wr) (fun s _ => N - (intOf s).toNat)
    case atStart => exact ⟨0, Nat.zero_le _, rfl, .slice none 0 0, [], HS3.out.toL HB3.out, rfl, World.ownsRow_nil _ _ _ _⟩
    case round =>
      obtain ⟨i, hi, rfl, ⟨v, L, hL, hLL, hR⟩⟩ := hrel
      have HL := Lib.hid hL
      have HLL := Lib.hid hLL
      have HR := Lib.hid hR
      clear hL hLL hR
      obtain ⟨A6, c6, rfl⟩ := own_form HR.out
      have HZ := Lib.hid (HL.out.toZ HT0.out)
      clear q3 q4 f4 q6 l3 l4 l6 hld hst
      obtain ⟨q3, q4, f4, q6, l3, l4, l6⟩ := HZ.out.facts
      have f6 := (Blk.of_heap HL.out.b6).free
      by_cases c1 : (i : Int) < (N : Int)
      · have c2 : ¬ ((o : Int) < ((0 : Nat) : Int)) := by omega
        have hldN := HZ.out.ld6g rfl
        have hstN := HZ.out.st4g 0 0 0 0 A6 none i c6 0 0
        go_wp2_with fail
        refine bodyPost_ret (v := .tuple #[.agg #[.int .i64 0, .int .i64 0, .int .i64 0, .int .i64 0, .slice A6 i c6, .slice none 0 0], .int .i64 0]) (results_row_tmp Tryd.results53 _ _ (W.heap.size + 1) 30 #[.int .i64 0, .int .i64 0, .int .i64 0, .int .i64 0, .slice A6 i c6, .slice none 0 0] (0, 0) _ _ rfl rfl (HZ.out.row4 _) Tryd.underlying30 rfl (by kernel_rfl)) rfl ?_
        refine ⟨⟨⟨0, 0, 0, 0, L, []⟩, A6, c6, none, 0, 0, by rw [An.val, HLL.out]; rfl, by omega, by omega, ⟨inR0, inR0, inR0, inR0, by have h1 := HLL.out; have h2 := HN.out; show L.length ≤ 256; omega, by simp, by simp⟩, ?_, own_none HR.out, Sl.nil⟩, HZ.out.done _ (by omega)⟩
        exact Sl.of_own (HL.out.own4 HR.out (by decide) _)
      · skip
        have hldN := HZ.out.ld6g rfl
        have hstN := HZ.out.st4g 0 0 0 0 A6 none i c6 0 0
        go_wp2_with fail
        refine bodyPost_ret (v := .tuple #[.agg #[.int .i64 0, .int .i64 0, .int .i64 0, .int .i64 0, .slice A6 i c6, .slice none 0 0], .int .i64 0]) (results_row_tmp Tryd.results53 _ _ (W.heap.size + 1) 30 #[.int .i64 0, .int .i64 0, .int .i64 0, .int .i64 0, .slice A6 i c6, .slice none 0 0] (0, 0) _ _ rfl rfl (HZ.out.row4 _) Tryd.underlying30 rfl (by kernel_rfl)) rfl ?_
        refine ⟨⟨⟨0, 0, 0, 0, L, []⟩, A6, c6, none, 0, 0, by rw [An.val, HLL.out]; rfl, by omega, by omega, ⟨inR0, inR0, inR0, inR0, by have h1 := HLL.out; have h2 := HN.out; show L.length ≤ 256; omega, by simp, by simp⟩, ?_, own_none HR.out, Sl.nil⟩, HZ.out.done _ (by omega)⟩
        exact Sl.of_own (HL.out.own4 HR.out (by decide) _)
  go_loopw [29] (fun s wr => ∃ (i : Nat), i ≤ N ∧ s = .int .i64 (i : Int) ∧ ReadI W #[.int .i64 8, .string a2, .string a3, .int .i64 (o : Int), .int .i64 (N : Int), .slice A n c] i wr) (fun s _ => N - (intOf s).toNat)
  case atStart => exact ⟨0, Nat.zero_le _, rfl, .slice none 0 0, [], HS3.out.toL HB3.out, rfl, World.ownsRow_nil _ _ _ _⟩
  case round =>
    obtain ⟨i, hi, rfl, ⟨v, L, hL, hLL, hR⟩⟩ := hrel
    have HL := Lib.hid hL
    have HLL := Lib.hid hLL
    have HR := Lib.hid hR
    clear hL hLL hR
    obtain ⟨A6, c6, rfl⟩ := own_form HR.out
    have HZ := Lib.hid (HL.out.toZ HT0.out)
    clear q3 q4 f4 q6 l3 l4 l6 hld hst
    obtain ⟨q3, q4, f4, q6, l3, l4, l6⟩ := HZ.out.facts
    have f6 := (Blk.of_heap HL.out.b6).free
    by_cases c1 : (i : Int) < (N : Int)
    · by_cases c2 : (o : Int) < (dl : Int)
      · by_cases c3 : (o : Int) + (i : Int) < (dl : Int)
        · skip
          have hil : o + i < x.d.length := by rw [HDL.out]; omega
          have hc1 : wr.cell? ⟨b1, o + i, none⟩ = some (.int .u8 (x.d[o + i].toNat : Int)) := by
            obtain ⟨b', e', h'⟩ := own_at (by have h := sown_keep HOD.out HL.out.bel; exact h) (bv_get hil)
            injection e' with e'
            injection e' with e'
            subst e'
            exact h'
          obtain ⟨z, hz⟩ : ∃ z, x.d[o + i] = z := ⟨_, rfl⟩
          rw [hz] at hc1
          obtain ⟨q, hq⟩ : ∃ q, o + i = q := ⟨_, rfl⟩
          rw [hq] at hc1
          have hwr : IntKind.i64.wrap ((o : Int) + (i : Int)) = (q : Int) := by rw [IntKind.wrap_i64]; omega
          have hq1 : (q : Int) < (dl : Int) := by omega
          have hq0 : (0 : Int) ≤ (q : Int) := by omega
          have H63 : Hid (i + 1 ≤ maxLen) := Lib.hid (by have := HN.out; unfold maxLen; omega)
          have HBY : Hid ((i + 1) * 1 ≤ 140737488355328) := Lib.hid (by have := HN.out; omega)
          have HSW : ∀ o, Hid (W.heap.size ≤ (wr.drew.alloc o).heap.size) := fun o => Lib.hid (by have := HL.out.bel.size; simp; omega)
          have HRD : Hid ((wr.alloc (.cells #[.int .u8 (z.toNat : Int)] 5)).drew.ownsRow W.heap.size 5 1 (.slice A6 i c6) i (bv L)) := Lib.hid (HR.out.alloc _)
          have HGW : Hid (∀ w2, (wr.alloc (.cells #[.int .u8 (z.toNat : Int)] 5)).drew.grownBy w2 (Value.slice A6 i c6).ownBlock → DoL W #[.int .i64 8, .string a2, .string a3, .int .i64 (o : Int), .int .i64 (N : Int), .slice A n c] #[.int .i64 0, .int .i64 0, .int .i64 0, .int .i64 0, .slice A6 i c6, .slice none 0 0] w2) := Lib.hid (fun w2 hg => (HL.out.below (((Below.refl _ wr).alloc (Nat.le_refl _) (.cells #[.int .u8 (z.toNat : Int)] 5)).drew)).grown (HR.out.alloc _) (by decide) (by decide) hg)
          go_upto_region 95 with fail
          clear hz hil hq
          go_region_law
            (obtain ⟨i0, hi0, hz0, hz1, hz2⟩ := info_parts Tryd.info_u8
             refine step_append_lies _ (by rfl) _ _ _ (by rfl) W.heap.size 5 i0 _ 1 1 Tryd.underlying22 hi0 hz0 hz1 hz2 rfl (Nat.zero_lt_succ 0) (.slice A6 i c6) i (bv L) (by go_simp) HRD.out
               ⟨wr.heap.size, 0, none⟩ 1 1 [.int .u8 (z.toNat : Int)] (by go_simp) (by rfl) (World.news_of_block (cs := #[.int .u8 (z.toNat : Int)]) (t := 5) (fr := (0, 0)) (heap_alloc_new wr _)) (by simp [Value.oneCell'])
               (Nat.zero_lt_succ 0) H63.out HBY.out (HSW _).out (wr.heap.size + 1) (by simp) ?_
             intro gg cap w2 hown2 hgrow hat hlt2
             clear hi0 hz0 hz1 hz2 i0
             have hL2 := HGW.out w2 hgrow
             have hc2 := (Blk.of_heap hL2.b6).cell 4
             have hf2 := (Blk.of_heap hL2.b6).free 4
             have hl2 := (Blk.of_heap hL2.b6).lt
             have HL2 := Lib.hid hL2
             have HO2 := Lib.hid hown2
             clear hL2 hown2 hgrow hat hlt2)
          all_goals
            go_wp2_with fail
            go_roundw
            case rel =>
              refine ⟨i + 1, by omega, by go_num, .slice (some ⟨gg, 0, none⟩) (i + 1) cap, L ++ [z], HL2.out.set6 4 _, by rw [List.length_append, HLL.out]; rfl, ?_⟩
              rw [bv_app]
              exact HL2.out.own6 HO2.out (by decide) 4 _
            case measure => simp [intOf]; omega
        · skip
          have hldN := HZ.out.ld6g rfl
          have hstN := HZ.out.st4g 0 0 0 0 A6 none i c6 0 0
          go_wp2_with fail
          refine bodyPost_ret (v := .tuple #[.agg #[.int .i64 0, .int .i64 0, .int .i64 0, .int .i64 0, .slice A6 i c6, .slice none 0 0], .int .i64 0]) (results_row_tmp Tryd.results53 _ _ (W.heap.size + 1) 30 #[.int .i64 0, .int .i64 0, .int .i64 0, .int .i64 0, .slice A6 i c6, .slice none 0 0] (0, 0) _ _ rfl rfl (HZ.out.row4 _) Tryd.underlying30 rfl (by kernel_rfl)) rfl ?_
          refine ⟨⟨⟨0, 0, 0, 0, L, []⟩, A6, c6, none, 0, 0, by rw [An.val, HLL.out]; rfl, by omega, by omega, ⟨inR0, inR0, inR0, inR0, by have h1 := HLL.out; have h2 := HN.out; show L.length ≤ 256; omega, by simp, by simp⟩, ?_, own_none HR.out, Sl.nil⟩, HZ.out.done _ (by omega)⟩
          exact Sl.of_own (HL.out.own4 HR.out (by decide) _)
      · skip
        have hldN := HZ.out.ld6g rfl
        have hstN := HZ.out.st4g 0 0 0 0 A6 none i c6 0 0
        go_wp2_with fail
        refine bodyPost_ret (v := .tuple #[.agg #[.int .i64 0, .int .i64 0, .int .i64 0, .int .i64 0, .slice A6 i c6, .slice none 0 0], .int .i64 0]) (results_row_tmp Tryd.results53 _ _ (W.heap.size + 1) 30 #[.int .i64 0, .int .i64 0, .int .i64 0, .int .i64 0, .slice A6 i c6, .slice none 0 0] (0, 0) _ _ rfl rfl (HZ.out.row4 _) Tryd.underlying30 rfl (by kernel_rfl)) rfl ?_
        refine ⟨⟨⟨0, 0, 0, 0, L, []⟩, A6, c6, none, 0, 0, by rw [An.val, HLL.out]; rfl, by omega, by omega, ⟨inR0, inR0, inR0, inR0, by have h1 := HLL.out; have h2 := HN.out; show L.length ≤ 256; omega, by simp, by simp⟩, ?_, own_none HR.out, Sl.nil⟩, HZ.out.done _ (by omega)⟩
        exact Sl.of_own (HL.out.own4 HR.out (by decide) _)
    · skip
      have hldN := HZ.out.ld6g rfl
      have hstN := HZ.out.st4g 0 0 0 0 A6 none i c6 0 0
      go_wp2_with fail
      refine bodyPost_ret (v := .tuple #[.agg #[.int .i64 0, .int .i64 0, .int .i64 0, .int .i64 0, .slice A6 i c6, .slice none 0 0], .int .i64 0]) (results_row_tmp Tryd.results53 _ _ (W.heap.size + 1) 30 #[.int .i64 0, .int .i64 0, .int .i64 0, .int .i64 0, .slice A6 i c6, .slice none 0 0] (0, 0) _ _ rfl rfl (HZ.out.row4 _) Tryd.underlying30 rfl (by kernel_rfl)) rfl ?_
      refine ⟨⟨⟨0, 0, 0, 0, L, []⟩, A6, c6, none, 0, 0, by rw [An.val, HLL.out]; rfl, by omega, by omega, ⟨inR0, inR0, inR0, inR0, by have h1 := HLL.out; have h2 := HN.out; show L.length ≤ 256; omega, by simp, by simp⟩, ?_, own_none HR.out, Sl.nil⟩, HZ.out.done _ (by omega)⟩
      exact Sl.of_own (HL.out.own4 HR.out (by decide) _)
end Go.Proofs.YtjkilpjdgjijiaaDoor
