/- tidelineref04: the tree's do, by kinds: List (printed by gen_do.py). tidelineref04: the tree's do, by kinds: Write (printed by gen_do.py). -/
import Derived.Test.YtjkilpjdgjijiaaDoorTrM
import Derived.Deep.CutRange
import Derived.Deep.RegionLaw
import Derived.Deep.AppendLies
namespace Go.Proofs.YtjkilpjdgjijiaaDoor
open Go.RowKit
set_option linter.unusedVariables false
attribute [local go_sem] Oper.semAt_some
attribute [local go_sem ↓] exec_load_an4 exec_store_an4 exec_store_nd

set_option maxRecDepth 100000 in
set_option maxHeartbeats 8000000 in
theorem do_list (g m : Nat) (a4 a5 : Int) (a2 a3 : ByteArray) (A : Option Addr) (n c : Nat) (W : World) (h : Tr W g m) (hm : m + 1 ≤ 64) (ha2 : a2.size ≤ 400) (ha3 : a3.size ≤ 400) :
    Calls Tryd.prog 53 #[.pointer (some ⟨g, 0, none⟩), .agg #[.int .i64 11, .string a2, .string a3, .int .i64 a4, .int .i64 a5, .slice A n c]] W fun e w' => DoR w' e ∧ TrTo g (m + 1) W w' := by
  have hS := DoS.start h #[.int .i64 11, .string a2, .string a3, .int .i64 a4, .int .i64 a5, .slice A n c]
  have HS := Lib.hid hS
  have HT0 := Lib.hid h
  have HB0 : Hid (Below W.heap.size W (((W.alloc (.cells #[.int .i64 11, .string a2, .string a3, .int .i64 a4, .int .i64 a5, .slice A n c] 26)).alloc (.cells zAnCs 30)).alloc (.cells zAnCs 30))) := Lib.hid ((((Below.refl _ _).alloc (Nat.le_refl _) _).alloc (by simp) _).alloc (by simp; omega) _)
  have HA2 := Lib.hid ha2
  have HA3 := Lib.hid ha3
  have HM := Lib.hid hm
  clear h hS ha2 ha3 hm
  have hst0 := st_start W (.cells #[.int .i64 11, .string a2, .string a3, .int .i64 a4, .int .i64 a5, .slice A n c] 26) (.cells #[.int .i64 0, .int .i64 0, .int .i64 0, .int .i64 0, .slice none 0 0, .slice none 0 0] 30)
  go_enter Tryd.func53, Tryd.ntmps53
  go_upto_region 2 with fail
  clear hst0
  obtain ⟨X0, hX0⟩ : ∃ X, (((W.alloc (.cells #[.int .i64 11, .string a2, .string a3, .int .i64 a4, .int .i64 a5, .slice A n c] 26)).alloc (.cells #[.int .i64 0, .int .i64 0, .int .i64 0, .int .i64 0, .slice none 0 0, .slice none 0 0] 30)).alloc (.cells #[.int .i64 0, .int .i64 0, .int .i64 0, .int .i64 0, .slice none 0 0, .slice none 0 0] 30)) = X := ⟨_, rfl⟩
  rw [hX0] at HS HB0 ⊢
  clear hX0
  obtain ⟨q3, q4, f4, q6, l3, l4, l6⟩ := HS.out.facts
  have hld := HS.out.ld6
  have hst := HS.out.st4
  have HU := Lib.hid (up_any a2 X0 HA2.out)
  go_wp2_with fail
  refine HU.out.mono ?_
  rintro e W1 ⟨⟨ab, nm, k1, rfl, hab, hnm, hk0, hk1⟩, hb⟩
  have HS1 := Lib.hid (HS.out.below hb)
  clear q3 q4 f4 q6 l3 l4 l6 hld hst
  obtain ⟨q3, q4, f4, q6, l3, l4, l6⟩ := HS1.out.facts
  have hld := HS1.out.ld6
  have hst := HS1.out.st4
  have HB1 := Lib.hid (HB0.out.trans (hb.mono HB0.out.size))
  have HAB := Lib.hid hab
  have HNM := Lib.hid hnm
  clear hb hnm hab
  go_upto_region 21 with fail
  go_cut [126] from 110 to 126 (fun s wx => s = .bool false ∧ wx = W1)
  case first =>
    by_cases hk : k1 = 0
    · subst hk
      go_wp2_with fail
      go_meet
      exact ⟨rfl, rfl⟩
    · go_wp2_with fail
      go_meet
      exact ⟨rfl, rfl⟩
  rename_i wc126
  obtain ⟨rfl, rfl⟩ := hcut
  have HF := Lib.hid (find_any g m a2 _ HS1.out.tr HA2.out (by have := HM.out; omega))
  clear hk0 hk1
  go_wp2_with fail
  refine HF.out.mono ?_
  rintro e W2 ⟨⟨j, k2, rfl, hj, hk0, hk1⟩, hb⟩
  have HS2 := Lib.hid (HS1.out.below hb)
  clear q3 q4 f4 q6 l3 l4 l6 hld hst
  obtain ⟨q3, q4, f4, q6, l3, l4, l6⟩ := HS2.out.facts
  have hld := HS2.out.ld6
  have hst := HS2.out.st4
  have hj64 : (j : Int) < 64 := by omega
  have HB2 := Lib.hid (HB1.out.trans (hb.mono HB1.out.size))
  clear hb
  by_cases hk : k2 = 0
  rotate_left
  · clear HF
    go_wp2_with fail
    refine bodyPost_ret (v := .tuple #[.agg zAnCs, .int .i64 k2]) (results_row_tmp Tryd.results53 _ _ (W.heap.size + 1) 30 zAnCs (0, 0) _ _ rfl rfl (HS2.out.row4 zAnCs) Tryd.underlying30 rfl (by kernel_rfl)) rfl ?_
    exact ⟨DoR.zero _ k2 (by omega) (by omega), HS2.out.done zAnCs (by omega)⟩
  subst hk
  have HG := Lib.hid (find_any g m ab _ HS2.out.tr HAB.out (by have := HM.out; omega))
  clear hk0 hk1
  go_wp2_with fail
  refine HG.out.mono ?_
  rintro e W3 ⟨⟨jn, k3, rfl, hjn, -, -⟩, hb⟩
  have HS3 := Lib.hid (HS2.out.below hb)
  clear q3 q4 f4 q6 l3 l4 l6 hld hst
  obtain ⟨q3, q4, f4, q6, l3, l4, l6⟩ := HS3.out.facts
  have hld := HS3.out.ld6
  have hst := HS3.out.st4
  have hjn64 : (jn : Int) < 64 := by omega
  have HB3 := Lib.hid (HB2.out.trans (hb.mono HB2.out.size))
  clear hb
  obtain ⟨x, hxo, qn, qk, ql, qd, qe, fz, lg⟩ := HS3.out.tr.nd hj
  have HXO := Lib.hid hxo
  clear hxo
  obtain ⟨xk, hxk0⟩ : ∃ k, x.k = k := ⟨_, rfl⟩
  rw [hxk0] at qk
  clear hxk0
  by_cases hdir : xk = 1
  rotate_left
  · have hdb : (xk == 1) = false := by simpa using hdir
    go_wp2_with fail
    refine bodyPost_ret (v := .tuple #[.agg zAnCs, .int .i64 23]) (results_row_tmp Tryd.results53 _ _ (W.heap.size + 1) 30 zAnCs (0, 0) _ _ rfl rfl (HS3.out.row4 zAnCs) Tryd.underlying30 rfl (by kernel_rfl)) rfl ?_
    exact ⟨DoR.zero _ 23 (by omega) (by omega), HS3.out.done zAnCs (by omega)⟩
  subst hdir
  clear ql qd qe fz HXO qn x
  obtain ⟨x, hxo, qn, qk2, ql, qd, qe, fz, lg0⟩ := HT0.out.nd hj
  obtain ⟨el, hel⟩ : ∃ k, x.es.length = k := ⟨_, rfl⟩
  have HEL := Lib.hid hel
  have HOE := Lib.hid hxo.oe
  have HES := Lib.hid hxo.es
  have hem := hxo.m
  have hm1 := HM.out
  rw [hel] at qe hem HOE
  have t70 : ¬ ((70 : Int) < (el : Int)) := by omega
  have HEM : Hid (el ≤ 64) := Lib.hid (by omega)
  have QE := Lib.hid qe
  clear qn qk2 ql qd fz hxo hel hem hm1
  go_upto_region 69 with fail
  go_loopw [26] (fun s wr => ∃ (i : Nat) (v : Value), i ≤ el ∧ s = .int .i64 (i : Int) ∧ Hid (DoL W #[.int .i64 11, .string a2, .string a3, .int .i64 a4, .int .i64 a5, .slice A n c] #[.int .i64 0, .int .i64 0, .int .i64 0, .int .i64 0, .slice none 0 0, v] wr) ∧ Hid (wr.ownsRow W.heap.size 9 1 v i (enames (x.es.take i)))) (fun s _ => el - (intOf s).toNat)
  case atStart => exact ⟨0, .slice none 0 0, Nat.zero_le _, rfl, Lib.hid (HS3.out.toL HB3.out), Lib.hid (World.ownsRow_nil _ _ _ _)⟩
  case round =>
    obtain ⟨i, v, hi, rfl, HL, HR⟩ := hrel
    obtain ⟨A6, c6, rfl⟩ := own_form HR.out
    have HZ := Lib.hid (HL.out.toZ HT0.out)
    clear q3 q4 f4 q6 l3 l4 l6 hld hst qk lg qe
    obtain ⟨q3, q4, f4, q6, l3, l4, l6⟩ := HZ.out.facts
    have f6 := (Blk.of_heap HL.out.b6).free
    have qe2 := (HL.out.bel.cell (p := ⟨g, j * 5 + 4, none⟩) lg0).trans QE.out
    by_cases hlt : i < el
    · have hi1 : (i : Int) < (el : Int) := by omega
      have hil : i < x.es.length := by rw [HEL.out]; exact hlt
      obtain ⟨b, hb, q1, q2⟩ := own_ent (by have h := sown_keep HOE.out HL.out.bel; rw [← HEL.out] at h; exact h) hil
      have HTK : Hid (x.es.take (i + 1) = x.es.take i ++ [x.es[i]]) := List.take_succ_eq_append_getElem hil
      obtain ⟨z, hze⟩ : ∃ z, x.es[i] = z := ⟨_, rfl⟩
      rw [hze] at q1 q2 HTK
      obtain ⟨z1, z2⟩ := z
      have H63 : Hid (i + 1 ≤ maxLen) := Lib.hid (by have := HEM.out; unfold maxLen; omega)
      have HBY : Hid ((i + 1) * 16 ≤ 140737488355328) := Lib.hid (by have := HEM.out; omega)
      have HSW : ∀ o, Hid (W.heap.size ≤ (wr.drew.alloc o).heap.size) := fun o => Lib.hid (by have := HL.out.bel.size; simp; omega)
      clear hze hil
      have HRD : Hid ((wr.alloc (.cells #[.string z1] 9)).drew.ownsRow W.heap.size 9 1 (.slice A6 i c6) i (enames (x.es.take i))) := Lib.hid (HR.out.alloc _)
      have HGW : Hid (∀ w2, (wr.alloc (.cells #[.string z1] 9)).drew.grownBy w2 (Value.slice A6 i c6).ownBlock → DoL W #[.int .i64 11, .string a2, .string a3, .int .i64 a4, .int .i64 a5, .slice A n c] #[.int .i64 0, .int .i64 0, .int .i64 0, .int .i64 0, .slice none 0 0, .slice A6 i c6] w2) := Lib.hid (fun w2 hg => (HL.out.below (((Below.refl _ wr).alloc (Nat.le_refl _) (.cells #[.string z1] 9)).drew)).grown (HR.out.alloc _) (by decide) (by decide) hg)
      go_upto_region 71 with fail
      go_region_law
        (obtain ⟨i0, hi0, hz0, hz1, hz2⟩ := info_parts info_strD
         refine step_append_lies _ (by rfl) _ _ _ (by rfl) W.heap.size 9 i0 _ 1 16 Tryd.underlying28 hi0 hz0 hz1 hz2 rfl (Nat.zero_lt_succ 0) (.slice A6 i c6) i (enames (x.es.take i)) (by go_simp) HRD.out
           ⟨wr.heap.size, 0, none⟩ 1 1 [.string z1] (by go_simp) (by rfl) (World.news_of_block (cs := #[.string z1]) (t := 9) (fr := (0, 0)) (heap_alloc_new wr _)) (by simp [Value.oneCell'])
           (Nat.zero_lt_succ 0) H63.out HBY.out (HSW _).out (wr.heap.size + 1) (by simp) ?_
         intro gg cap w2 hown2 hgrow hat hlt2
         clear hi0 hz0 hz1 hz2 i0
         have hL2 := HGW.out w2 hgrow
         have hc2 := (Blk.of_heap hL2.b6).cell 5
         have hf2 := (Blk.of_heap hL2.b6).free 5
         have hl2 := (Blk.of_heap hL2.b6).lt
         have HL2 := Lib.hid hL2
         have HO2 := Lib.hid hown2
         clear hL2 hown2 hgrow hat hlt2)
      all_goals
        go_wp2_with fail
        go_roundw
        case rel =>
          refine ⟨i + 1, .slice (some ⟨gg, 0, none⟩) (i + 1) cap, by omega, by go_num, Lib.hid (HL2.out.set6 5 _), Lib.hid ?_⟩
          rw [HTK.out, enames_app, enames_one]
          exact HL2.out.own6 HO2.out (by decide) 5 _
        case measure => simp [intOf]; omega
    · obtain rfl : i = el := by omega
      have hend : ¬ ((i : Int) < (i : Int)) := by omega
      have hldN := HZ.out.ld6g rfl
      have hstN := HZ.out.st4g 0 0 0 0 none A6 0 0 i c6
      have HTT : Hid (x.es.take i = x.es) := List.take_of_length_le (Nat.le_of_eq HEL.out)
      go_wp2_with fail
      refine bodyPost_ret (v := .tuple #[.agg #[.int .i64 0, .int .i64 0, .int .i64 0, .int .i64 0, .slice none 0 0, .slice A6 i c6], .int .i64 0]) (results_row_tmp Tryd.results53 _ _ (W.heap.size + 1) 30 #[.int .i64 0, .int .i64 0, .int .i64 0, .int .i64 0, .slice none 0 0, .slice A6 i c6] (0, 0) _ _ rfl rfl (HZ.out.row4 _) Tryd.underlying30 rfl (by kernel_rfl)) rfl ?_
      refine ⟨⟨⟨0, 0, 0, 0, [], x.es.map (·.1)⟩, none, 0, A6, c6, 0, by rw [An.val, List.length_map, HEL.out]; rfl, by omega, by omega, ⟨inR0, inR0, inR0, inR0, by simp, by rw [List.length_map, HEL.out]; exact HEM.out, fun s hs => ?_⟩, Sl.nil, fun _ => rfl, ?_⟩, HZ.out.done _ (by omega)⟩
      · obtain ⟨e, he, rfl⟩ := List.mem_map.1 hs
        exact (HES.out e he).1
      · have h := HR.out
        rw [HTT.out] at h
        rw [List.map_map]
        show Sl _ _ _ (enames x.es)
        exact Sl.of_own (HL.out.own4 h (by decide) _)
end Go.Proofs.YtjkilpjdgjijiaaDoor
namespace Go.Proofs.YtjkilpjdgjijiaaDoor
open Go.RowKit
set_option linter.unusedVariables false
attribute [local go_sem] Oper.semAt_some
attribute [local go_sem ↓] exec_load_an4 exec_store_an4 exec_store_nd

set_option maxRecDepth 100000 in
set_option maxHeartbeats 8000000 in
theorem do_write (g m : Nat) (a4 a5 : Int) (a2 a3 : ByteArray) (A : Option Addr) (n c : Nat) (W : World) (h : Tr W g m) (hm : m + 1 ≤ 64) (ha2 : a2.size ≤ 400) (ha3 : a3.size ≤ 400) (ld : List UInt8) (hld0 : Sl W W.heap.size A (bv ld)) (hln : ld.length = n) :
    Calls Tryd.prog 53 #[.pointer (some ⟨g, 0, none⟩), .agg #[.int .i64 7, .string a2, .string a3, .int .i64 a4, .int .i64 a5, .slice A n c]] W fun e w' => DoR w' e ∧ TrTo g (m + 1) W w' := by
  have hS := DoS.start h #[.int .i64 7, .string a2, .string a3, .int .i64 a4, .int .i64 a5, .slice A n c]
  have HS := Lib.hid hS
  have HT0 := Lib.hid h
  have HB0 : Hid (Below W.heap.size W (((W.alloc (.cells #[.int .i64 7, .string a2, .string a3, .int .i64 a4, .int .i64 a5, .slice A n c] 26)).alloc (.cells zAnCs 30)).alloc (.cells zAnCs 30))) := Lib.hid ((((Below.refl _ _).alloc (Nat.le_refl _) _).alloc (by simp) _).alloc (by simp; omega) _)
  have HA2 := Lib.hid ha2
  have HA3 := Lib.hid ha3
  have HM := Lib.hid hm
  have HLD := Lib.hid hld0
  have HLN := Lib.hid hln
  clear hld0 hln
  clear h hS ha2 ha3 hm
  have hst0 := st_start W (.cells #[.int .i64 7, .string a2, .string a3, .int .i64 a4, .int .i64 a5, .slice A n c] 26) (.cells #[.int .i64 0, .int .i64 0, .int .i64 0, .int .i64 0, .slice none 0 0, .slice none 0 0] 30)
  go_enter Tryd.func53, Tryd.ntmps53
  go_upto_region 2 with fail
  clear hst0
  obtain ⟨X0, hX0⟩ : ∃ X, (((W.alloc (.cells #[.int .i64 7, .string a2, .string a3, .int .i64 a4, .int .i64 a5, .slice A n c] 26)).alloc (.cells #[.int .i64 0, .int .i64 0, .int .i64 0, .int .i64 0, .slice none 0 0, .slice none 0 0] 30)).alloc (.cells #[.int .i64 0, .int .i64 0, .int .i64 0, .int .i64 0, .slice none 0 0, .slice none 0 0] 30)) = X := ⟨_, rfl⟩
  rw [hX0] at HS HB0 ⊢
  clear hX0
  obtain ⟨q3, q4, f4, q6, l3, l4, l6⟩ := HS.out.facts
  have hld := HS.out.ld6
  have hst := HS.out.st4
  have HU := Lib.hid (up_any a2 X0 HA2.out)
  go_wp2_with fail
  refine HU.out.mono ?_
  rintro e W1 ⟨⟨ab, nm, k1, rfl, hab, hnm, hk0, hk1⟩, hb⟩
  have HS1 := Lib.hid (HS.out.below hb)
  clear q3 q4 f4 q6 l3 l4 l6 hld hst
  obtain ⟨q3, q4, f4, q6, l3, l4, l6⟩ := HS1.out.facts
  have hld := HS1.out.ld6
  have hst := HS1.out.st4
  have HB1 := Lib.hid (HB0.out.trans (hb.mono HB0.out.size))
  have HAB := Lib.hid hab
  have HNM := Lib.hid hnm
  clear hb hnm hab
  go_upto_region 21 with fail
  go_cut [126] from 110 to 126 (fun s wx => s = .bool false ∧ wx = W1)
  case first =>
    by_cases hk : k1 = 0
    · subst hk
      go_wp2_with fail
      go_meet
      exact ⟨rfl, rfl⟩
    · go_wp2_with fail
      go_meet
      exact ⟨rfl, rfl⟩
  rename_i wc126
  obtain ⟨rfl, rfl⟩ := hcut
  have HF := Lib.hid (find_any g m a2 _ HS1.out.tr HA2.out (by have := HM.out; omega))
  clear hk0 hk1
  go_wp2_with fail
  refine HF.out.mono ?_
  rintro e W2 ⟨⟨j, k2, rfl, hj, hk0, hk1⟩, hb⟩
  have HS2 := Lib.hid (HS1.out.below hb)
  clear q3 q4 f4 q6 l3 l4 l6 hld hst
  obtain ⟨q3, q4, f4, q6, l3, l4, l6⟩ := HS2.out.facts
  have hld := HS2.out.ld6
  have hst := HS2.out.st4
  have hj64 : (j : Int) < 64 := by omega
  have HB2 := Lib.hid (HB1.out.trans (hb.mono HB1.out.size))
  clear hb
  by_cases hk : k2 = 0
  rotate_left
  · clear HF
    go_wp2_with fail
    refine bodyPost_ret (v := .tuple #[.agg zAnCs, .int .i64 k2]) (results_row_tmp Tryd.results53 _ _ (W.heap.size + 1) 30 zAnCs (0, 0) _ _ rfl rfl (HS2.out.row4 zAnCs) Tryd.underlying30 rfl (by kernel_rfl)) rfl ?_
    exact ⟨DoR.zero _ k2 (by omega) (by omega), HS2.out.done zAnCs (by omega)⟩
  subst hk
  have HG := Lib.hid (find_any g m ab _ HS2.out.tr HAB.out (by have := HM.out; omega))
  clear hk0 hk1
  go_wp2_with fail
  refine HG.out.mono ?_
  rintro e W3 ⟨⟨jn, k3, rfl, hjn, -, -⟩, hb⟩
  have HS3 := Lib.hid (HS2.out.below hb)
  clear q3 q4 f4 q6 l3 l4 l6 hld hst
  obtain ⟨q3, q4, f4, q6, l3, l4, l6⟩ := HS3.out.facts
  have hld := HS3.out.ld6
  have hst := HS3.out.st4
  have hjn64 : (jn : Int) < 64 := by omega
  have HB3 := Lib.hid (HB2.out.trans (hb.mono HB2.out.size))
  clear hb
  obtain ⟨x, hxo, qn, qk, ql, qd, qe, fz, lg⟩ := HS3.out.tr.nd hj
  have HXO := Lib.hid hxo
  clear hxo
  obtain ⟨xk, hxk0⟩ : ∃ k, x.k = k := ⟨_, rfl⟩
  rw [hxk0] at qk
  clear hxk0
  by_cases hdir : xk = 1
  · subst hdir
    go_wp2_with fail
    refine bodyPost_ret (v := .tuple #[.agg zAnCs, .int .i64 24]) (results_row_tmp Tryd.results53 _ _ (W.heap.size + 1) 30 zAnCs (0, 0) _ _ rfl rfl (HS3.out.row4 zAnCs) Tryd.underlying30 rfl (by kernel_rfl)) rfl ?_
    exact ⟨DoR.zero _ 24 (by omega) (by omega), HS3.out.done zAnCs (by omega)⟩
  have hdb : (xk == 1) = false := by simpa using hdir
  clear qn ql qd qe fz HXO
  obtain ⟨x, hxo, qn, qk2, ql, qd, qe, fz, lg0⟩ := HT0.out.nd hj
  obtain ⟨dl, hdl⟩ : ∃ k, x.d.length = k := ⟨_, rfl⟩
  have HDL := Lib.hid hdl
  have HOD := Lib.hid hxo.od
  have hd5 := hxo.d
  rw [hdl] at qd hd5 HOD
  have qd3 := (HB3.out.cell (p := ⟨g, j * 5 + 3, none⟩) lg0).trans qd
  have lg3 : g < W3.heap.size := Nat.lt_of_lt_of_le lg0 HB3.out.size
  have tt1 : ¬ ((512 : Int) < (dl : Int)) := by omega
  have HD5 : Hid (dl ≤ 512) := Lib.hid hd5
  clear qn qk2 ql qd qe fz hxo hdl hd5
  go_upto_region 76 with fail
  clear qd3 qk lg lg3
  by_cases n0 : a4 < 0
  · skip
    go_wp2_with fail
    refine bodyPost_ret (v := .tuple #[.agg zAnCs, .int .i64 1]) (results_row_tmp Tryd.results53 _ _ (W.heap.size + 1) 30 zAnCs (0, 0) _ _ rfl rfl (HS3.out.row4 zAnCs) Tryd.underlying30 rfl (by kernel_rfl)) rfl ?_
    exact ⟨DoR.zero _ 1 (by omega) (by omega), HS3.out.done zAnCs (by omega)⟩
  by_cases n1 : 256 < (n : Int)
  · skip
    go_wp2_with fail
    refine bodyPost_ret (v := .tuple #[.agg zAnCs, .int .i64 1]) (results_row_tmp Tryd.results53 _ _ (W.heap.size + 1) 30 zAnCs (0, 0) _ _ rfl rfl (HS3.out.row4 zAnCs) Tryd.underlying30 rfl (by kernel_rfl)) rfl ?_
    exact ⟨DoR.zero _ 1 (by omega) (by omega), HS3.out.done zAnCs (by omega)⟩
  by_cases n2 : 512 < a4
  · skip
    go_wp2_with fail
    refine bodyPost_ret (v := .tuple #[.agg zAnCs, .int .i64 27]) (results_row_tmp Tryd.results53 _ _ (W.heap.size + 1) 30 zAnCs (0, 0) _ _ rfl rfl (HS3.out.row4 zAnCs) Tryd.underlying30 rfl (by kernel_rfl)) rfl ?_
    exact ⟨DoR.zero _ 27 (by omega) (by omega), HS3.out.done zAnCs (by omega)⟩
  obtain ⟨o, rfl⟩ : ∃ N : Nat, a4 = (N : Int) := ⟨a4.toNat, by omega⟩
  by_cases n3 : 512 < (o : Int) + (n : Int)
  · skip
    go_wp2_with fail
    refine bodyPost_ret (v := .tuple #[.agg zAnCs, .int .i64 27]) (results_row_tmp Tryd.results53 _ _ (W.heap.size + 1) 30 zAnCs (0, 0) _ _ rfl rfl (HS3.out.row4 zAnCs) Tryd.underlying30 rfl (by kernel_rfl)) rfl ?_
    exact ⟨DoR.zero _ 27 (by omega) (by omega), HS3.out.done zAnCs (by omega)⟩
  by_cases hz : n = 0
  · subst hz
    go_wp2_with fail
    refine bodyPost_ret (v := .tuple #[.agg zAnCs, .int .i64 0]) (results_row_tmp Tryd.results53 _ _ (W.heap.size + 1) 30 zAnCs (0, 0) _ _ rfl rfl (HS3.out.row4 zAnCs) Tryd.underlying30 rfl (by kernel_rfl)) rfl ?_
    exact ⟨DoR.zero _ 0 (by omega) (by omega), HS3.out.done zAnCs (by omega)⟩
  have hpos : (0 : Int) < (n : Int) := by omega
  obtain ⟨M, hM⟩ : ∃ M : Nat, M = max dl (o + n) := ⟨_, rfl⟩
  have HMM : Hid (M ≤ 512 ∧ o + n ≤ M) := Lib.hid (by have := HD5.out; omega)
  have HSZ : Hid (Calls Tryd.prog 70 #[.slice x.A dl x.c, .int .i64 (M : Int)] W3 fun e w' => (∃ v, e = .returned v ∧ OutB W3.heap.size M v w') ∧ Below W3.heap.size W3 w') := Lib.hid (by
    have h := size_any x.A x.c W3.heap.size M x.d W3 (by have h := sown_keep HOD.out HB3.out; rw [← HDL.out] at h; exact Sl.of_own h) (Nat.le_refl _) (by rw [HDL.out]; exact HD5.out) HMM.out.1
    rw [HDL.out] at h
    exact h)
  have hmx : max (dl : Int) ((o : Int) + (n : Int)) = (M : Int) := by omega
  have HMX := Lib.hid hmx
  clear hmx hM
  go_wp2_with fail
  rw [HMX.out]
  refine HSZ.out.mono ?_
  rintro e W4 ⟨⟨v, rfl, ho⟩, hb4⟩
  obtain ⟨A5, c5, L0, rfl, hL0, ho0⟩ := ho
  rcases own_two ho0 with ⟨-, hM0⟩ | ⟨gb, rfl⟩
  · exact absurd hM0 (by have := HMM.out.2; omega)
  rcases HLD.out with hnil | ⟨b1, o1, rfl, hb1, hrd⟩
  · exact absurd HLN.out (by
      have : ld = [] := by simpa [bv] using hnil
      subst this; intro h; exact hz h.symm)
  have HRD := Lib.hid hrd
  have HW0 : Hid (WriteI W3.heap.size gb M c5 W3 W4) := Lib.hid ⟨hb4, L0, hL0, ho0⟩
  clear ho0 hL0 hb4 hrd q3 q4 f4 q6 l3 l4 l6 hld hst
  go_upto_region 85 with fail
  go_loopw [28] (fun s wr => ∃ (i : Nat), i ≤ n ∧ s = .int .i64 (i : Int) ∧ WriteI W3.heap.size gb M c5 W3 wr) (fun s _ => n - (intOf s).toNat)
  case atStart => exact ⟨0, Nat.zero_le _, rfl, HW0.out⟩
  case round =>
    obtain ⟨i, hi, rfl, ⟨hbel, L, hL, hown⟩⟩ := hrel
    have HBW := Lib.hid hbel
    have HL := Lib.hid hL
    have HO := Lib.hid hown
    have HSR := Lib.hid (HS3.out.below hbel)
    clear hbel hL hown
    by_cases hlt : i < n
    · have hi1 : (i : Int) < (n : Int) := by omega
      obtain ⟨q3, q4, f4, q6, l3, l4, l6⟩ := HSR.out.facts
      have hld := HSR.out.ld6
      have hst := HSR.out.st4
      have hil : i < ld.length := by rw [HLN.out]; exact hlt
      have hb1w : Below W.heap.size W wr := HB3.out.trans (HBW.out.mono HB3.out.size)
      have hc1 := (hb1w.cell (p := ⟨b1, o1 + i, none⟩) hb1).trans (HRD.out i _ (bv_get hil))
      obtain ⟨z, hzz⟩ : ∃ z, ld[i] = z := ⟨_, rfl⟩
      rw [hzz] at hc1
      obtain ⟨q, hq⟩ : ∃ q, o + i = q := ⟨_, rfl⟩
      have hwr : IntKind.i64.wrap ((o : Int) + (i : Int)) = (q : Int) := by rw [IntKind.wrap_i64]; omega
      have hq1 : (q : Int) < (M : Int) := by have := HMM.out.2; omega
      have hq0 : (0 : Int) ≤ (q : Int) := by omega
      have hql : q < L.length := by rw [HL.out]; omega
      obtain ⟨vo, hc2, hf2⟩ : ∃ v, wr.cell? ⟨gb, q, none⟩ = some v ∧ wr.frozen? ⟨gb, q, none⟩ = false := ⟨_, owns_cellx HO.out (bv_get hql)⟩
      have hgb : gb < wr.heap.size := by obtain ⟨-, cur, hg⟩ := row_obj HO.out; exact (Array.getElem?_eq_some_iff.1 hg).1
      have HW1 : Hid (WriteI W3.heap.size gb M c5 W3 (wr.setCell ⟨gb, q, none⟩ (.int .u8 (z.toNat : Int))).drew) := Lib.hid (WriteI.set ⟨HBW.out, L, HL.out, HO.out⟩ q z)
      clear hil hb1w hzz hql
      go_upto_region 87 with fail
      clear hq
      go_region_law
        fail
      all_goals
        go_wp2_with fail
        go_roundw
        case rel => exact ⟨i + 1, by omega, by go_num, HW1.out⟩
        case measure => simp [intOf]; omega
    · obtain rfl : i = n := by omega
      have hend : ¬ ((i : Int) < (i : Int)) := by omega
      obtain ⟨q3, q4, f4, q6, l3, l4, l6⟩ := HSR.out.facts
      have hld := HSR.out.ld6
      have hst := HSR.out.st4
      obtain ⟨y, -, -, -, -, qd4, -, fz4, lg4⟩ := HSR.out.tr.nd hj
      have HS5 := Lib.hid (HSR.out.to (HSR.out.tr.setD hj HL.out HMM.out.1 HO.out))
      have fz5 := fz4 (j * 5 + 3)
      clear hld hst
      have hld := HS5.out.ld6
      have hst := HS5.out.st4
      go_wp2_with fail
      refine bodyPost_ret (v := .tuple #[.agg zAnCs, .int .i64 0]) (results_row_tmp Tryd.results53 _ _ (W.heap.size + 1) 30 zAnCs (0, 0) _ _ rfl rfl (HS5.out.row4 zAnCs) Tryd.underlying30 rfl (by kernel_rfl)) rfl ?_
      exact ⟨DoR.zero _ 0 (by omega) (by omega), HS5.out.done zAnCs (by omega)⟩
end Go.Proofs.YtjkilpjdgjijiaaDoor
