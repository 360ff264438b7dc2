/- tidelineref05.EncodeAnswer. -/
import Derived.Test.YtjkilpjdgjijiaaDoorAnE
import Derived.Deep.CutRange
import Derived.Deep.RegionLaw
import Derived.Deep.RegionHeld3
namespace Go.Proofs.YtjkilpjdgjijiaaDoor
open Go.RowKit
set_option linter.unusedVariables false
attribute [local go_sem] Oper.semAt_some

set_option maxRecDepth 100000 in
set_option maxHeartbeats 8000000 in
theorem ranenc_ok (x : An) (A1 : Option Addr) (c1 : Nat) (A2 : Option Addr) (c2 B : Nat) (w : World) (h1 : Sl w B A1 (bv x.d)) (n1 : A1 = none → c1 = 0) (h2 : Sl w B A2 (sv x.ns)) (hB : B ≤ w.heap.size) (z1 : x.d.length ≤ 1000000) (z2 : x.ns.length ≤ 1000) (zs : ∀ s ∈ x.ns, s.size ≤ 1000000) :
    Calls Tryd.prog 18 #[x.val A1 c1 A2 c2] w fun e w' => NewBytes w.heap.size (wrapped (encAn x)) e w' ∧ Below w.heap.size w w' := by
  obtain ⟨E, hE⟩ : ∃ E, encAn x = E := ⟨_, rfl⟩
  rw [hE]
  have HE := Lib.hid hE
  have HN1 := Lib.hid n1
  have HZS := Lib.hid zs
  clear hE n1 zs
  obtain ⟨a1, a2, a3, a4, a5, a6⟩ := x
  have z1 : a5.length ≤ 1000000 := z1
  have z2 : a6.length ≤ 1000 := z2
  replace HZS : Hid (∀ s ∈ a6, s.size ≤ 1000000) := HZS
  obtain ⟨nn, hnn⟩ : ∃ n, a6.length = n := ⟨_, rfl⟩
  have HNN := Lib.hid hnn
  rw [show (An.val ⟨a1, a2, a3, a4, a5, a6⟩ A1 c1 A2 c2) = .agg #[.int .i64 a1, .int .i64 a2, .int .i64 a3, .int .i64 a4, .slice A1 a5.length c1, .slice A2 nn c2] from by rw [← hnn]]
  rw [hnn] at z2
  clear hnn
  go_enter Tryd.func18, Tryd.ntmps18
  go_upto_region 1 with fail
  have hbx0 : Blk (w.alloc (.cells #[.int .i64 a1, .int .i64 a2, .int .i64 a3, .int .i64 a4, .slice A1 a5.length c1, .slice A2 nn c2] 30)) w.heap.size #[.int .i64 a1, .int .i64 a2, .int .i64 a3, .int .i64 a4, .slice A1 a5.length c1, .slice A2 nn c2] := Blk.new w _ _
  have Bk0 : Below w.heap.size w (w.alloc (.cells #[.int .i64 a1, .int .i64 a2, .int .i64 a3, .int .i64 a4, .slice A1 a5.length c1, .slice A2 nn c2] 30)) := (Below.refl _ _).alloc (Nat.le_refl _) _
  have hs0 : (w.alloc (.cells #[.int .i64 a1, .int .i64 a2, .int .i64 a3, .int .i64 a4, .slice A1 a5.length c1, .slice A2 nn c2] 30)).heap.size = w.heap.size + 1 := by simp
  obtain ⟨w0, hw0⟩ : ∃ X, w.alloc (.cells #[.int .i64 a1, .int .i64 a2, .int .i64 a3, .int .i64 a4, .slice A1 a5.length c1, .slice A2 nn c2] 30) = X := ⟨_, rfl⟩
  rw [hw0] at hbx0 Bk0 hs0 ⊢
  obtain ⟨n0, hn0⟩ : ∃ n0, w.heap.size + 1 = n0 := ⟨_, rfl⟩
  have hbn : w.heap.size < n0 := by omega
  have hB1 : B ≤ n0 := by omega
  have hwn : w.heap.size ≤ n0 := by omega
  rw [hn0] at hs0
  have hs0' : n0 ≤ w0.heap.size := by omega
  obtain ⟨b0, hb0⟩ : ∃ b, w.heap.size = b := ⟨_, rfl⟩
  have HB0 := Lib.hid hb0
  rw [hb0] at hbx0 hbn ⊢
  have hcc := hbx0.cell
  have d0 := hcc 0
  have d1 := hcc 1
  have d2 := hcc 2
  have d3 := hcc 3
  have HS0 := Lib.hid hs0
  clear hw0 hn0 hcc hs0 hb0
  go_cut [3] from 5 to 17 (fun s3 wx => Hid (Own wx n0 s3 ([] ++ beBytes (u64of a1) 8 ++ beBytes (u64of a2) 8 ++ beBytes (u64of a3) 8 ++ beBytes (u64of a4) 8)) ∧ Hid (Below n0 w0 wx))
  case first =>
    have HOE : Hid (Own (w0.drew.alloc (.cells #[] 5)) n0 (.slice (some ⟨w0.heap.size, 0, none⟩) 0 0) []) := Lib.hid (World.ownsRow_made w0.drew #[] 0 hs0' (Nat.zero_le _) rfl)
    have HBE : Hid (Below n0 w0 (w0.drew.alloc (.cells #[] 5))) := Lib.hid ((Below.refl _ _).drew.alloc hs0' _)
    have bD : Below n0 w0 w0.drew := (Below.refl _ _).drew
    have bDA : Below n0 w0 (w0.drew.alloc (.cells #[] 5)) := HBE.out
    have bAD : Below n0 w0 ((w0.alloc (.cells #[] 5)).drew) := HBE.out
    have HOF : Hid (Own ((w0.alloc (.cells #[] 5)).drew) n0 (.slice (some ⟨w0.heap.size, 0, none⟩) 0 0) []) := HOE
    have HCI : Hid (∀ (W : World) (v : Value) (l : List UInt8) (z : Int), Own W n0 v l → l.length ≤ 1000 → Below n0 w0 W → Calls Tryd.prog 45 #[v, .int .i64 z] W fun e w' => ∃ v', e = .returned v' ∧ Own w' n0 v' (l ++ beBytes (u64of z) 8) ∧ Below n0 w0 w') := Lib.hid (fun W v l z ho hl hb =>
      (rint_own ho z (by omega) (Nat.le_trans hs0' hb.size)).mono fun e w' ⟨v', he, h1, h2⟩ => ⟨v', he, h1, hb.trans h2⟩)
    have HSS : Hid (∀ W, Below n0 w0 W → W.cell? ⟨b0, 0, none⟩ = some (.int .i64 a1) ∧ W.cell? ⟨b0, 1, none⟩ = some (.int .i64 a2) ∧ W.cell? ⟨b0, 2, none⟩ = some (.int .i64 a3) ∧ W.cell? ⟨b0, 3, none⟩ = some (.int .i64 a4)) := Lib.hid (fun W hb =>
      ⟨(hb.cell (p := ⟨b0, 0, none⟩) hbn).trans d0, (hb.cell (p := ⟨b0, 1, none⟩) hbn).trans d1, (hb.cell (p := ⟨b0, 2, none⟩) hbn).trans d2, (hb.cell (p := ⟨b0, 3, none⟩) hbn).trans d3⟩)
    have HL1 : Hid (([] : List UInt8).length ≤ 1000) := Lib.hid (by simp)
    have HL2 : Hid (([] ++ beBytes (u64of a1) 8).length ≤ 1000) := Lib.hid (by simp [be_len])
    have HL3 : Hid (([] ++ beBytes (u64of a1) 8 ++ beBytes (u64of a2) 8).length ≤ 1000) := Lib.hid (by simp [be_len])
    have HL4 : Hid (([] ++ beBytes (u64of a1) 8 ++ beBytes (u64of a2) 8 ++ beBytes (u64of a3) 8).length ≤ 1000) := Lib.hid (by simp [be_len])
    go_region_held3 (fun w' => w'.cell? ⟨b0, 0, none⟩ = some (.int .i64 a1) ∧ w'.cell? ⟨b0, 1, none⟩ = some (.int .i64 a2) ∧ w'.cell? ⟨b0, 2, none⟩ = some (.int .i64 a3) ∧ w'.cell? ⟨b0, 3, none⟩ = some (.int .i64 a4))
      (first | exact HSS.out _ bD | exact HSS.out _ bDA | exact HSS.out _ bAD | exact HSS.out _ hb1 | exact HSS.out _ hb2 | exact HSS.out _ hb3 | exact HSS.out _ hb4 | fail "keep")
      (first
        | (go_at_call 45; (with_reducible refine (HCI.out _ _ _ a1 HOF.out HL1.out bAD).mono ?_); rintro e q1 ⟨y1, rfl, hy1, hb1⟩)
        | (go_at_call 45; (with_reducible refine (HCI.out _ _ _ a2 hy1 HL2.out hb1).mono ?_); rintro e q2 ⟨y2, rfl, hy2, hb2⟩)
        | (go_at_call 45; (with_reducible refine (HCI.out _ _ _ a3 hy2 HL3.out hb2).mono ?_); rintro e q3 ⟨y3, rfl, hy3, hb3⟩)
        | (go_at_call 45; (with_reducible refine (HCI.out _ _ _ a4 hy3 HL4.out hb3).mono ?_); rintro e q4 ⟨y4, rfl, hy4, hb4⟩)
        | fail "arm")
    all_goals
      go_wp2
      go_meet
      exact ⟨hy4, hb4⟩
  case rest =>
    obtain ⟨HOC, HBC⟩ := hcut
    obtain ⟨l1, hl1⟩ : ∃ l, [] ++ beBytes (u64of a1) 8 ++ beBytes (u64of a2) 8 ++ beBytes (u64of a3) 8 ++ beBytes (u64of a4) 8 = l := ⟨_, rfl⟩
    have hn1 : l1.length ≤ 32 := by rw [← hl1]; simp [be_len]
    rw [hl1] at HOC
    have HL1 := Lib.hid hl1
    have hbx1 := hbx0.below HBC.out hbn
    have hc1 := hbx1.cell
    have hs1 : n0 ≤ wc.heap.size := Nat.le_trans hs0' HBC.out.size
    have Bk1 := Bk0.trans (HBC.out.mono hwn)
    clear hl1 d0 d1 d2 d3
    go_wp2_with fail
    refine (rbytes_own HOC.out A1 c1 B a5 (h1.below (Bk1.mono hB)) HN1.out hB1 (by omega) hs1).mono ?_
    rintro e w2 ⟨v2, rfl, ho2, hb2⟩
    obtain ⟨l2, hl2⟩ : ∃ l, l1 ++ lenBytes a5 = l := ⟨_, rfl⟩
    have hn2 : l2.length ≤ l1.length + (4 + a5.length) := app_len hl2 (lenBytes_len _)
    rw [hl2] at ho2
    have HL2 := Lib.hid hl2
    have HO2 := Lib.hid ho2
    have hbx2 := hbx1.below hb2 hbn
    have hc2 := hbx2.cell
    have hs2 : n0 ≤ w2.heap.size := Nat.le_trans hs1 hb2.size
    have Bk2 := Bk1.trans (hb2.mono hwn)
    have hcv : IntKind.u64.wrap (nn : Int) = (nn : Int) := by rw [IntKind.wrap_u64]; omega
    clear hl2 ho2 hb2 hs1 hc1 hbx1
    go_wp2_with fail
    refine (put_own HO2.out nn 4 (by omega) (by decide) (by omega) hs2).mono ?_
    rintro e w3 ⟨v3, rfl, ho3, hb3⟩
    have HO3 : Hid (Own w3 n0 v3 (l2 ++ beBytes nn 4 ++ ((a6.take 0).map putS).flatten)) := Lib.hid (by rw [List.take_zero, List.map_nil, List.flatten_nil, List.append_nil]; exact ho3)
    have hbx3 := hbx2.below hb3 hbn
    have HB3 : Hid (Below n0 w3 w3) := Lib.hid (Below.refl _ _)
    have hs3 : n0 ≤ w3.heap.size := Nat.le_trans hs2 hb3.size
    have Bk3 := Bk2.trans (hb3.mono hwn)
    have HBX3 := Lib.hid hbx3
    clear ho3 hb3 hs2 hc2 hbx2 hcv hbx3
    go_wp2_with fail
    go_loopw [3, 4] (fun s3 s4 wr => ∃ (k : Nat) (v' : Value), k ≤ nn ∧ s4 = .int .i64 (k : Int) ∧ s3 = v' ∧ Hid (Own wr n0 v' (l2 ++ beBytes nn 4 ++ ((a6.take k).map putS).flatten)) ∧ Hid (Below n0 w3 wr)) (fun _ s _ => nn - (intOf s).toNat)
    case atStart => exact ⟨0, v3, Nat.zero_le _, rfl, rfl, HO3, HB3⟩
    case round =>
      clear HO3 HB3
      obtain ⟨k, v', hk, rfl, rfl, hW, hBW⟩ := hrel
      have hbr := HBX3.out.below hBW.out hbn
      have hcr := hbr.cell 5
      have hcr : wr.cell? ⟨b0, 5, none⟩ = some (.slice A2 nn c2) := hcr
      have hsr : n0 ≤ wr.heap.size := Nat.le_trans hs3 hBW.out.size
      clear hbr
      by_cases hlt : k < nn
      · have hi1 : (k : Int) < (nn : Int) := by omega
        have hkl : k < a6.length := by rw [HNN.out]; exact hlt
        have hslr := h2.below ((Bk3.mono hB).trans (hBW.out.mono hB1))
        obtain ⟨b1, o1, rfl, hb1, hc1⟩ := hslr.at (k := k) (by rw [sv_len]; exact hkl)
        have ea : (sv a6)[k]'(by rw [sv_len]; exact hkl) = Value.string a6[k] := by simp [sv]
        rw [ea] at hc1
        have HJ : Hid (a6.take (k + 1) = a6.take k ++ [a6[k]]) := List.take_succ_eq_append_getElem hkl
        have hzs := HZS.out _ (List.getElem_mem hkl)
        obtain ⟨z, hz⟩ : ∃ z, a6[k] = z := ⟨_, rfl⟩
        rw [hz] at hc1 HJ hzs
        obtain ⟨zb, hzb⟩ : ∃ l, z.data.toList = l := ⟨_, rfl⟩
        have hzbl : zb.length = z.size := by rw [← hzb, size_list]
        have hll : (l2 ++ beBytes nn 4 ++ ((a6.take k).map putS).flatten).length + 4 + zb.length ≤ 70368744170000 := by
          have h3 := flatS_len (ns := a6.take k) (fun s hs => HZS.out s (List.mem_of_mem_take hs))
          rw [List.length_take] at h3
          rw [List.length_append, List.length_append, be_len]; omega
        have HP := Lib.hid (rtext_own hW.out z zb hzb hll hsr)
        have HZB := Lib.hid hzb
        clear ea hz hll hslr hzbl hzb hzs
        go_wp2_with fail
        refine HP.out.mono ?_
        rintro e w4 ⟨v4, rfl, hw4, hb4⟩
        have HW4 : Hid (Own w4 n0 v4 (l2 ++ beBytes nn 4 ++ ((a6.take (k + 1)).map putS).flatten)) := Lib.hid (by
          have e2 : ((a6.take (k + 1)).map putS).flatten = ((a6.take k).map putS).flatten ++ lenBytes zb := by
            rw [HJ.out, List.map_append, List.flatten_append, ← HZB.out]
            simp [putS]
          rw [e2, ← List.append_assoc]
          exact hw4)
        have HB4 := Lib.hid (hBW.out.trans hb4)
        clear hw4 hb4
        go_wp2_with fail
        go_roundw
        case rel => exact ⟨k + 1, v4, by omega, by go_num, rfl, HW4, HB4⟩
        case measure => simp [intOf]; omega
      · obtain rfl : k = nn := by omega
        have hend : ¬ ((k : Int) < (k : Int)) := by omega
        have hf := hW.out
        rw [List.take_of_length_le (Nat.le_of_eq HNN.out)] at hf
        have hfl := flatS_len HZS.out
        rw [HNN.out] at hfl
        obtain ⟨L, hL⟩ : ∃ L, l2 ++ beBytes k 4 ++ (a6.map putS).flatten = L := ⟨_, rfl⟩
        have hLl : L.length ≤ 10000000000 := by rw [← hL, List.length_append, List.length_append, be_len]; omega
        rw [hL] at hf
        obtain ⟨A3, c3, rfl⟩ := Own.form hf
        have HF := Lib.hid hf
        have HEQ : Hid (E = L) := Lib.hid (by
          rw [← HE.out, ← hL, ← HL2.out, ← HL1.out]
          unfold encAn
          rw [HNN.out]
          simp only [List.append_assoc])
        have Bk4 := Bk3.trans (hBW.out.mono hwn)
        clear hf hfl hL hcr
        go_wp2_with fail
        refine (rwrap_ok A3 c3 wr.heap.size L wr (Sl.of_own HF.out) (fun e => by have hh := HF.out; rw [e] at hh; exact owns_nil0 hh) (by omega) (Nat.le_refl _)).mono ?_
        rintro e w11 ⟨⟨A4, c4, rfl, ho4⟩, hb11⟩
        go_wp2
        go_ret
        rw [HEQ.out]
        have hs := Bk4.size
        exact ⟨⟨A4, c4, rfl, own_low ho4 hs⟩, Bk4.trans (hb11.mono hs)⟩
end Go.Proofs.YtjkilpjdgjijiaaDoor
