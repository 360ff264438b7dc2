/- NetEmpties: the walk. -/
import Derived.Test.YtiglgepbffcdeaaDoorNetL
import Derived.Test.YtiglgepbffcdeaaDoorNetA
import Derived.Test.YtiglgepbffcdeaaDoorReadM
import Derived.Test.YtiglgepbffcdeaaDoorSeenC
import Derived.Test.YtiglgepbffcdeaaDoorNfullw
namespace Go.Proofs.YtiglgepbffcdeaaDoor
open Go.RowKit
set_option linter.unusedVariables false

/-- The map stays while the net turns. -/
theorem SeenC.net {n0 g mb : Nat} {v : Value} {ms : List Mm} {S : List Int} {w w' : World} (hs : SeenC w mb S) (h : NetS w n0 g v ms) (hf : Fr (NM g v) w w') : SeenC w' mb S := by
  obtain ⟨es, c, h1⟩ := hs.seen.obj
  have hne : ¬ NM g v mb := by
    rintro (e | e)
    · subst e; have := h.blk; rw [h1] at this; cases this
    · rcases h.row.2 with ⟨rfl, _⟩ | ⟨gg, cap, cur, rfl, _, hh, _⟩
      · simp [Value.ownBlock] at e
      · have : gg = mb := by simpa [Value.ownBlock] using e
        subst this
        rw [hh] at h1; cases h1
  exact hs.block (hf.block mb hs.seen.lt hne)

/-- A row of bytes stays while the net turns. -/
theorem NetS.bytes {n0 g : Nat} {v : Value} {ms : List Mm} {w w' : World} (h : NetS w n0 g v ms) (hf : Fr (NM g v) w w') {base n : Nat} {u : Value} {xs : List Value} (hu : w.ownsRow base 5 1 u n xs) : w'.ownsRow base 5 1 u n xs :=
  hf.owns hu (fun k hk hm => by
    rcases hm with rfl | hm
    · exact owns_ne hu h.blk (by decide) hk
    · exact owns_apart hu h.row (by decide) k hk hm)
/-- A message's block stays while the net turns. -/
theorem NetS.away {n0 g k : Nat} {v : Value} {ms : List Mm} {w w' : World} (h : NetS w n0 g v ms) (hf : Fr (NM g v) w w') (hk : k < w.heap.size) (hg : g ≠ k) (hv : ∀ j, v.ownBlock = some j → j ≠ k) : w'.heap[k]? = w.heap[k]? :=
  hf.block k hk (fun hm => by
    rcases hm with e | e
    · exact hg e.symm
    · exact hv k e rfl)
/-- What the first loop holds: of the first i messages those that may be are under way, numbered. -/
structure PutS (n0 g i : Nat) (v : Value) (ms : List Mm) (w W : World) : Prop where
  net : NetS W n0 g v ms
  len : ms.length ≤ i
  nd : (nums ms).Nodup
  rg : ∀ x ∈ nums ms, 0 ≤ x ∧ x < i
  bel : Below n0 w W
theorem PutS.put {n0 g i : Nat} {v : Value} {ms : List Mm} {m : Msg} {w W W' : World} (h : PutS n0 g i v ms w W) (hn0 : n0 ≤ W.heap.size) (hm : m.nu = (i : Int)) (hp : Putted n0 g v ms m W W') : ∃ v' ms', ms'.length = ms.length + 1 ∧ PutS n0 g (i + 1) v' ms' w W' := by
  have hb := hp.below h.net hn0
  obtain ⟨v', x, hx, hS, _, _⟩ := hp
  refine ⟨v', ms ++ [x], by simp, hS, by have := h.len; simp; omega, ?_, ?_, h.bel.trans hb⟩
  · rw [nums_app, List.nodup_append]
    refine ⟨h.nd, by simp [nums], fun a ha b hb e => ?_⟩
    have h1 := (h.rg a ha).2
    have h2 : b = (i : Int) := by simpa [nums, hx, hm] using hb
    omega
  · intro y hy
    rw [nums_app] at hy
    rcases List.mem_append.1 hy with hy | hy
    · have := h.rg y hy; omega
    · have h2 : y = (i : Int) := by simpa [nums, hx, hm] using hy
      omega
theorem PutS.skip {n0 g i : Nat} {v : Value} {ms : List Mm} {w W W' : World} (h : PutS n0 g i v ms w W) (hn0 : n0 ≤ W.heap.size) (hb : Below W.heap.size W W') : PutS n0 g (i + 1) v ms w W' :=
  ⟨h.net.below hb, by have := h.len; omega, h.nd, fun x hx => by have := h.rg x hx; omega, h.bel.trans (hb.mono hn0)⟩
/-- What the second loop holds. -/
structure EmpS (n0 g mb n : Nat) (v : Value) (ms : List Mm) (S : List Int) (w W : World) : Prop where
  net : NetS W n0 g v ms
  seen : SeenC W mb S
  nd : (nums ms).Nodup
  ap : ∀ x ∈ nums ms, x ∉ S
  rg : ∀ x ∈ nums ms, 0 ≤ x ∧ x < 40
  len : ms.length + S.length = n
  bel : Below n0 w W
theorem EmpS.next {n0 g mb n i : Nat} {v v' : Value} {ms : List Mm} {S : List Int} {w W W1 W2 : World} (h : EmpS n0 g mb n v ms S w W) (hi : i < ms.length) (hS : NetS W1 n0 g v' (ms.eraseIdx i)) (hse1 : SeenC W1 mb S) (hb1 : Below n0 w W1)
    (hse : SeenC W2 mb (S ++ [ms[i].m.nu])) (hg : W1.grownBy W2 (some mb)) (hmb : n0 ≤ mb) (hn1 : n0 ≤ W1.heap.size) : EmpS n0 g mb n v' (ms.eraseIdx i) (S ++ [ms[i].m.nu]) w W2 := by
  have hin : i < (nums ms).length := by rw [nums_len]; exact hi
  have hz : ms[i].m.nu = (nums ms)[i] := by simp [nums]
  have hsub : ((nums ms).eraseIdx i).Sublist (nums ms) := List.eraseIdx_sublist (nums ms) i
  have hnm : (nums ms)[i] ∉ (nums ms).eraseIdx i := by
    intro hm
    rw [List.mem_eraseIdx_iff_getElem] at hm
    obtain ⟨j, hj, hne, he⟩ := hm
    exact hne ((List.getElem_inj h.nd).1 he)
  refine ⟨hS.map hse1.seen hg, hse, by rw [nums_erase]; exact h.nd.sublist hsub, ?_, ?_, ?_, hb1.trans ((Below.refl _ W1).grown hg hn1 (fun q e => by cases e; exact hmb))⟩
  · intro x hx hm
    rw [nums_erase] at hx
    rcases List.mem_append.1 hm with hm | hm
    · exact h.ap x (hsub.subset hx) hm
    · rw [List.mem_singleton.1 hm, hz] at hx
      exact hnm hx
  · intro x hx
    rw [nums_erase] at hx
    exact h.rg x (hsub.subset hx)
  · have := h.len
    rw [List.length_eraseIdx_of_lt hi, List.length_append]
    simp
    omega

set_option maxRecDepth 100000 in
set_option maxHeartbeats 8000000 in
theorem nemp_main (A A2 : Option Addr) (c c2 : Nat) (ls : List Mm) (zs : List Int) (w : World) (hT : Tab w) (hl : Sl w w.heap.size A (mcells ls)) (hin : ∀ x ∈ ls, InM w w.heap.size x) (hz : Sl w w.heap.size A2 (iv zs)) (hzl : zs.length ≤ maxLen) (hl40 : ls.length ≤ 40) (hz0 : zs ≠ []) :
    Calls Tryd.prog 5 #[.slice A ls.length c, .slice A2 zs.length c2] w fun e w' => e = .returned (.bool true) ∧ Below w.heap.size w w' := by
  have HT := Lib.hid hT
  have H0 := Lib.hid hT.1
  have HZ := Lib.hid hz
  have HL := Lib.hid hl
  have HIN := Lib.hid hin
  unfold maxLen at hzl
  obtain ⟨n, hN⟩ : ∃ n, ls.length = n := ⟨_, rfl⟩
  have HN := Lib.hid hN
  obtain ⟨r, hR⟩ : ∃ r, zs.length = r := ⟨_, rfl⟩
  have HR := Lib.hid hR
  have hr0 : ¬ (r = 0) := fun e => hz0 (List.eq_nil_of_length_eq_zero (by rw [hR, e]))
  have hr1 : ¬ ((r : Int) = 0) := by omega
  have hrb : ((r : Int) == 0) = false := by rw [beq_eq_false_iff_ne]; exact hr1
  rw [hN] at hl40 ⊢
  rw [hR] at hzl ⊢
  have hn40 : ¬ ((40 : Int) < (n : Int)) := by omega
  have HSM : Hid (n ≤ 40) := hl40
  have HRL : Hid (r ≤ 9223372036854775807) := by show _ ≤ _; omega
  clear hT hz hl hin hN hR hz0 hzl hl40
  go_enter Tryd.func5, Tryd.ntmps5
  go_wp2_with fail
  refine (speaks13 _ HT.out).mono ?_
  rintro en W1 ⟨rfl, hb1⟩
  have T1 := Lib.hid (HT.out.low H0.out hb1)
  have HB1 := Lib.hid hb1
  clear hb1
  go_wp2_with fail
  refine (net_new _).mono ?_
  rintro en W2 ⟨rfl, hS2, hb2⟩
  have HP2 : Hid (PutS W1.heap.size W1.heap.size 0 (.slice none 0 0) [] W1 W2) := ⟨hS2, Nat.le_refl _, List.nodup_nil, by simp [nums], hb2⟩
  have H1 : Hid (0 < W1.heap.size) := T1.out.1
  clear hS2 hb2
  go_wp2_with fail
  go_loopw [6, 31] (fun s6 s31 wr => ∃ (i : Nat) (v : Value) (ms : List Mm), i ≤ n ∧ s31 = .int .i64 (i : Int) ∧ s6 = .int .i64 (ms.length : Int) ∧ Hid (PutS W1.heap.size W1.heap.size i v ms W1 wr)) (fun _ s31 _ => n - (intOf s31).toNat)
  case atStart => exact ⟨0, _, [], Nat.zero_le _, rfl, rfl, HP2⟩
  case round =>
    clear HP2
    obtain ⟨i, v, ms, hi, rfl, rfl, hP⟩ := hrel
    by_cases hlt : i < n
    · have hi1 : (i : Int) < (n : Int) := by omega
      have hil : i < ls.length := by rw [HN.out]; exact hlt
      have hbw : Below w.heap.size w wr := HB1.out.trans (hP.out.bel.mono HB1.out.size)
      obtain ⟨b, o, rfl, hbb, hrow⟩ : ∃ b o, A = some ⟨b, o, none⟩ ∧ b < w.heap.size ∧ RowAt wr b o (mcells ls) := by
        rcases HL.out.below hbw with h | ⟨b, o, e, h1, h2⟩
        · have := congrArg List.length h
          rw [mcells_len] at this
          simp at this
          omega
        · exact ⟨b, o, e, h1, h2⟩
      have hld := ld_msg_sl hrow hil (B := 0)
      have hx := (HIN.out ls[i] (List.getElem_mem hil)).below hbw
      obtain ⟨x, hxe⟩ : ∃ x, ls[i] = x := ⟨_, rfl⟩
      rw [hxe] at hld hx
      obtain ⟨⟨a1, a2, a3, a4, a5, a6, a7, a8, a9, a10, a11, a12, a13, a14, a15, a16⟩, A1, c1, A3, c3⟩ := x
      replace hld : ldR Tryd.prog 34 (.pointer (some ⟨b, o + i * 16, none⟩)) wr = .ok (.value (.agg (mcs a1 a2 a3 a4 a5 a6 a7 a8 (.slice A1 a9.length c1) a10 a11 (.slice A3 a12.length c3) a13 a14 a15 a16))) wr := hld
      have hx1 : Sl wr w.heap.size A1 (bv a9) := hx.s1
      have hx2 : Sl wr w.heap.size A3 (bv a12) := hx.s2
      have hx3 : A1 = none → c1 = 0 := hx.n1
      have hx4 : A3 = none → c3 = 0 := hx.n2
      have HX1 := Lib.hid hx1
      have HX2 := Lib.hid hx2
      have HX3 := Lib.hid hx3
      have HX4 := Lib.hid hx4
      have hwsz : w.heap.size ≤ wr.heap.size := hbw.size
      have HBW := Lib.hid hbw
      have hml : ms.length ≤ 40 := by have := hP.out.len; have := HSM.out; omega
      have hmli : ¬ ((40 : Int) < ((ms.length : Nat) : Int)) := by omega
      clear hrow hx hxe hx1 hx2 hx3 hx4 hbw
      by_cases h300 : (300 : Int) < ((a9.length : Nat) : Int)
      · go_wp2_with fail
        go_ret
        exact ⟨rfl, HBW.out.alloc HBW.out.size _⟩
      · obtain ⟨W3, hW3⟩ : ∃ X, (wr.alloc (.cells (mcs a1 a2 a3 a4 a5 a6 a7 a8 (.slice A1 a9.length c1) a10 a11 (.slice A3 a12.length c3) a13 a14 a15 a16) 34)).setCell ⟨wr.heap.size, 2, none⟩ (.int .i64 (i : Int)) = X := ⟨_, rfl⟩
        have hb3 : Below wr.heap.size wr W3 := by rw [← hW3]; exact ((Below.refl _ _).alloc (Nat.le_refl _) _).setCell (p := ⟨wr.heap.size, 2, none⟩) (Nat.le_refl _) _
        have m3 : W3.heap[wr.heap.size]? = some (.cells (mcs a1 a2 (i : Int) a4 a5 a6 a7 a8 (.slice A1 a9.length c1) a10 a11 (.slice A3 a12.length c3) a13 a14 a15 a16) 34 (0, 0)) := by rw [← hW3]; exact cell_set (i := 2) (heap_alloc_new wr _) _
        have hld3 := ldR_row (P := Tryd.prog) 34 W3 wr.heap.size 34 (mcs a1 a2 (i : Int) a4 a5 a6 a7 a8 (.slice A1 a9.length c1) a10 a11 (.slice A3 a12.length c3) a13 a14 a15 a16) (0, 0) _ m3 Tryd.underlying34 rfl (by kernel_rfl)
        clear m3
        have T3 := Lib.hid ((T1.out.low H1.out hP.out.bel).low (Nat.lt_of_lt_of_le H1.out hP.out.bel.size) hb3)
        have hP3 := hP.out.net.below hb3
        by_cases hrt : (Msg.mk a1 a2 (i : Int) a4 a5 a6 a7 a8 a9 a10 a11 a12 a13 a14 a15 a16).right = true
        · have HPUT := Lib.hid (net_put_lit a1 a2 (i : Int) a4 a5 a6 a7 a8 a9 a10 a11 a12 a13 a14 a15 a16 A1 A3 c1 c3 w.heap.size hP3 (by omega) T3.out (HX1.out.below (hb3.mono hwsz)) (HX2.out.below (hb3.mono hwsz)) HX3.out HX4.out (Nat.le_trans hwsz hb3.size) (Nat.le_trans hP.out.bel.size hb3.size) hrt)
          have HP3 : Hid (PutS W1.heap.size W1.heap.size i v ms W1 W3) := ⟨hP3, hP.out.len, hP.out.nd, hP.out.rg, hP.out.bel.trans (hb3.mono hP.out.bel.size)⟩
          clear hP3 hb3 hrt
          go_wp2_with fail
          refine HPUT.out.mono ?_
          rintro en4 W4 ⟨rfl, hp4⟩
          obtain ⟨v4, ms4, hl4, hP4⟩ := HP3.out.put HP3.out.bel.size rfl hp4
          have HP4 := Lib.hid hP4
          have HL4 := Lib.hid hl4
          clear hp4 hP4 hl4
          go_wp2_with fail
          have hii := hi1
          go_roundw
          case rel => exact ⟨i + 1, v4, ms4, by omega, by have := HSM.out; go_num, by rw [HL4.out]; go_num, HP4⟩
          case measure => simp [intOf]; omega
        · have HPUT := Lib.hid (net_put_bad (Msg.mk a1 a2 (i : Int) a4 a5 a6 a7 a8 a9 a10 a11 a12 a13 a14 a15 a16) A1 A3 c1 c3 W3 W1.heap.size (by simpa using hrt))
          have HP3 : Hid (PutS W1.heap.size W1.heap.size i v ms W1 W3) := ⟨hP3, hP.out.len, hP.out.nd, hP.out.rg, hP.out.bel.trans (hb3.mono hP.out.bel.size)⟩
          clear hP3 hb3 hrt
          go_wp2_with fail
          refine HPUT.out.mono ?_
          rintro en4 W4 ⟨rfl, hb4⟩
          have HP4 := Lib.hid (HP3.out.skip HP3.out.bel.size hb4)
          clear hb4
          go_wp2_with fail
          go_roundw
          case rel => exact ⟨i + 1, v, ms, by omega, by have := HSM.out; go_num, rfl, HP4⟩
          case measure => simp [intOf]; omega
    · obtain rfl : i = n := by omega
      have hend : ¬ ((i : Int) < (i : Int)) := by omega
      have hmm := @run_makeMap Tryd.prog
      obtain ⟨cnt, hcnt⟩ : ∃ x, ms.length = x := ⟨_, rfl⟩
      have HCN := Lib.hid hcnt
      have hc40 : cnt ≤ 40 := by have := hP.out.len; have := HSM.out; omega
      have hc40i : ¬ ((40 : Int) < (cnt : Int)) := by omega
      have HE0 : Hid (EmpS W1.heap.size W1.heap.size wr.heap.size cnt v ms [] W1 (wr.alloc (.map #[] 0))) :=
        ⟨hP.out.net.below ((Below.refl _ _).alloc (Nat.le_refl _) _), SeenC.new wr, hP.out.nd, by simp, fun x hx => by have := hP.out.rg x hx; have := HSM.out; omega, by rw [hcnt]; rfl, hP.out.bel.alloc hP.out.bel.size _⟩
      have HMB : Hid (W1.heap.size ≤ wr.heap.size) := hP.out.bel.size
      have HC40 := Lib.hid hc40
      rw [hcnt]
      clear hcnt hc40
      go_wp2_with fail
      obtain ⟨mb, hmb⟩ : ∃ x, wr.heap.size = x := ⟨_, rfl⟩
      rw [hmb] at HE0 HMB ⊢
      go_loopw [10] (fun s wr => ∃ (k : Nat) (v : Value) (ms : List Mm) (S : List Int), k ≤ cnt ∧ s = .int .i64 (k : Int) ∧ S.length = k ∧ Hid (EmpS W1.heap.size W1.heap.size mb cnt v ms S W1 wr)) (fun s _ => cnt - (intOf s).toNat)
      case atStart => exact ⟨0, v, ms, [], Nat.zero_le _, rfl, rfl, HE0⟩
      case round =>
        clear HE0 hP HCN
        obtain ⟨k, v, ms, S, hk, rfl, hSk, hE⟩ := hrel
        have HSK := Lib.hid hSk
        clear hSk
        by_cases hlt : k < cnt
        · have hi1 : (k : Int) < (cnt : Int) := by omega
          have hbw : Below w.heap.size w wr := HB1.out.trans (hE.out.bel.mono HB1.out.size)
          obtain ⟨q, hq⟩ : ∃ q, k % r = q := ⟨_, rfl⟩
          have hqr : q < r := by rw [← hq]; exact Nat.mod_lt _ (by omega)
          have hqm : ((k : Int)) % ((r : Nat) : Int) = (q : Int) := by rw [← hq]; rfl
          have hqm2 : ((k : Int)).tmod ((r : Nat) : Int) = (q : Int) := by rw [← hq]; rfl
          have hqi : (q : Int) < (r : Int) := by omega
          have hqz : q < zs.length := by rw [HR.out]; exact hqr
          obtain ⟨b1, o1, rfl, hb1, hc1⟩ := (HZ.out.below hbw).at (k := q) (by simpa [iv] using hqz)
          have e1 : (iv zs)[q]'(by simpa [iv] using hqz) = Value.int .i64 zs[q] := by simp [iv]
          rw [e1] at hc1
          obtain ⟨z, hz⟩ : ∃ z, zs[q] = z := ⟨_, rfl⟩
          rw [hz] at hc1
          have hne : ms ≠ [] := by
            intro e
            have h1 := hE.out.len
            have h3 := HSK.out
            rw [e] at h1
            simp at h1
            omega
          have HST := Lib.hid (net_take_stay hE.out.net hne z hE.out.bel.size)
          have HNE := Lib.hid hne
          have HLT : Hid (k < cnt) := hlt
          clear e1 hz hbw hne hq
          go_wp2_with fail
          refine HST.out.mono ?_
          rintro en5 W5 ⟨i, hi, B1, d1, B2, d2, hiz, rfl, hown, hb5⟩
          have hS5 := hE.out.net.below hb5
          have hrg := hE.out.rg ms[i].m.nu (by rw [nums]; exact List.mem_map.2 ⟨_, List.getElem_mem hi, rfl⟩)
          have hns := hE.out.ap ms[i].m.nu (by rw [nums]; exact List.mem_map.2 ⟨_, List.getElem_mem hi, rfl⟩)
          have hfit := hE.out.net.fit ms[i] (List.getElem_mem hi)
          have hnx := fun (W9 W10 : World) (v' : Value) => hE.out.next (W1 := W9) (W2 := W10) hi (v' := v')
          obtain ⟨m, hm⟩ : ∃ m, ms[i].m = m := ⟨_, rfl⟩
          have HMI := Lib.hid hm
          rw [hm] at hrg hns hnx hown hfit ⊢
          obtain ⟨a1, a2, a3, a4, a5, a6, a7, a8, a9, a10, a11, a12, a13, a14, a15, a16⟩ := m
          replace hrg : 0 ≤ a3 ∧ a3 < 40 := hrg
          replace hns : a3 ∉ S := hns
          obtain ⟨W6, hW6⟩ : ∃ X, W5.alloc (.cells (mcs a1 a2 a3 a4 a5 a6 a7 a8 (.slice B1 a9.length d1) a10 a11 (.slice B2 a12.length d2) a13 a14 a15 a16) 34) = X := ⟨_, rfl⟩
          have hb6 : Below W5.heap.size W5 W6 := by rw [← hW6]; exact (Below.refl _ _).alloc (Nat.le_refl _) _
          have m6 : W6.heap[W5.heap.size]? = some (.cells (mcs a1 a2 a3 a4 a5 a6 a7 a8 (.slice B1 a9.length d1) a10 a11 (.slice B2 a12.length d2) a13 a14 a15 a16) 34 (0, 0)) := by rw [← hW6]; exact heap_alloc_new W5 _
          have hS6 := hS5.below hb6
          have hbb6 : Below W1.heap.size W1 W6 := (hE.out.bel.trans (hb5.mono hE.out.bel.size)).trans (hb6.mono (Nat.le_trans hE.out.bel.size hb5.size))
          have hse6 := (hE.out.seen.below hb5 hE.out.seen.seen.lt).below hb6 (Nat.lt_of_lt_of_le hE.out.seen.seen.lt hb5.size)
          have HTK := Lib.hid (net_take_out hS6 HNE.out z hbb6.size)
          have HS5 := Lib.hid hS5
          have HS6 := Lib.hid hS6
          have HBB6 := Lib.hid hbb6
          have HSE6 := Lib.hid hse6
          have HOW := Lib.hid hown
          have HM6 := Lib.hid m6
          have HIZ := Lib.hid hiz
          have HRG := Lib.hid hrg
          have HNS := Lib.hid hns
          have HFIT := Lib.hid hfit
          have HNX := Lib.hid hnx
          have hl56 : W5.heap.size < W6.heap.size := (Array.getElem?_eq_some_iff.1 m6).1
          have HB6 := Lib.hid hb6
          clear hiz hown hb5 hrg hns hfit hnx hm hS5 hb6 m6 hS6 hbb6 hse6
          go_wp2_with fail
          refine HTK.out.mono ?_
          rintro en7 W7 ⟨i2, hi2, E1, f1, E2, f2, hiz2, rfl, hown7, htk⟩
          obtain rfl : i2 = i := by have := HIZ.out; omega
          have hm7 := HMI.out
          rw [hm7] at hown7 ⊢
          have hb7 := htk.below HS6.out HBB6.out.size
          obtain ⟨v7, hS7, hf7, -⟩ := htk
          have hse7 := HSE6.out.net HS6.out hf7
          have m7 : W7.heap[W5.heap.size]? = some (.cells (mcs a1 a2 a3 a4 a5 a6 a7 a8 (.slice B1 a9.length d1) a10 a11 (.slice B2 a12.length d2) a13 a14 a15 a16) 34 (0, 0)) :=
            (HS6.out.away hf7 hl56 (by have := HS5.out.lt; omega) (fun j hj e => by have := own_blk_lt HS5.out.row hj; omega)).trans HM6.out
          have ra : W7.ownsRow _ 5 1 (.slice B1 a9.length d1) a9.length (bv a9) := HS6.out.bytes hf7 (owns_keep HOW.out.cd HB6.out)
          have rb : W7.ownsRow _ 5 1 (.slice B2 a12.length d2) a12.length (bv a12) := HS6.out.bytes hf7 (owns_keep HOW.out.va HB6.out)
          have rc : W7.ownsRow _ 5 1 (.slice E1 a9.length f1) a9.length (bv a9) := hown7.cd
          have rd : W7.ownsRow _ 5 1 (.slice E2 a12.length f2) a12.length (bv a12) := hown7.va
          obtain ⟨W8, hW8⟩ : ∃ X, W7.alloc (.cells (mcs a1 a2 a3 a4 a5 a6 a7 a8 (.slice E1 a9.length f1) a10 a11 (.slice E2 a12.length f2) a13 a14 a15 a16) 34) = X := ⟨_, rfl⟩
          have hb8 : Below W7.heap.size W7 W8 := by rw [← hW8]; exact (Below.refl _ _).alloc (Nat.le_refl _) _
          have m8 : W8.heap[W7.heap.size]? = some (.cells (mcs a1 a2 a3 a4 a5 a6 a7 a8 (.slice E1 a9.length f1) a10 a11 (.slice E2 a12.length f2) a13 a14 a15 a16) 34 (0, 0)) := by rw [← hW8]; exact heap_alloc_new W7 _
          have m8b := (hb8.block W5.heap.size (Array.getElem?_eq_some_iff.1 m7).1).trans m7
          have hq8 := (Blk.of_heap m8).cell
          have hq8b := (Blk.of_heap m8b).cell
          have hf9 : a9.length ≤ 65536 ∧ a12.length ≤ 1000 := HFIT.out
          have hms := msame_any (Msg.mk a1 a2 a3 a4 a5 a6 a7 a8 a9 a10 a11 a12 a13 a14 a15 a16) (Msg.mk a1 a2 a3 a4 a5 a6 a7 a8 a9 a10 a11 a12 a13 a14 a15 a16) B1 B2 E1 E2 d1 d2 f1 f2 W8.heap.size W8
            (Sl.of_own (owns_keep ra hb8)) (Sl.of_own (owns_keep rb hb8)) (Sl.of_own (owns_keep rc hb8)) (Sl.of_own (owns_keep rd hb8))
            (Nat.le_trans hf9.1 (by unfold maxLen; omega)) (Nat.le_trans hf9.2 (by unfold maxLen; omega)) (Nat.le_trans hf9.1 (by unfold maxLen; omega)) (Nat.le_trans hf9.2 (by unfold maxLen; omega)) (Nat.le_refl _)
          rw [(Msg.eqb_iff _ _).2 rfl] at hms
          have HMS := Lib.hid hms
          have HS8 := Lib.hid (hS7.below hb8)
          have HSE8 := Lib.hid (hse7.below hb8 hse7.seen.lt)
          have HBB8 := Lib.hid ((HBB6.out.trans hb7).trans (hb8.mono (HBB6.out.trans hb7).size))
          have hl78 : W7.heap.size < W8.heap.size := (Array.getElem?_eq_some_iff.1 m8).1
          have HI := Lib.hid hi
          clear hiz2 hown7 hb7 hS7 hf7 hse7 m7 ra rb rc rd hb8 m8 m8b hf9 hms hm7
          go_wp2_with fail
          refine HMS.out.mono ?_
          rintro en9 W9 ⟨rfl, hb9⟩
          have hS9 := HS8.out.below hb9
          have hse9 := HSE8.out.below hb9 HSE8.out.seen.lt
          have hbb9 := HBB8.out.trans (hb9.mono HBB8.out.size)
          have hq9 : ∀ j, W9.cell? ⟨W7.heap.size, j, none⟩ = (mcs a1 a2 a3 a4 a5 a6 a7 a8 (.slice E1 a9.length f1) a10 a11 (.slice E2 a12.length f2) a13 a14 a15 a16)[j]? := fun j => (hb9.cell (p := ⟨W7.heap.size, j, none⟩) hl78).trans (hq8 j)
          have hwf : (Lit.int .i64 a3).wf = true := wf_small (by have := HRG.out; omega) (by have := HRG.out; omega)
          have hlook := hse9.seen.look a3 hwf
          rw [decide_eq_false HNS.out] at hlook
          obtain ⟨W10, hput, hse10, hg10⟩ := hse9.put a3 hwf (by have := HSK.out; have := HC40.out; omega) HNS.out
          have hln := net_len hS9
          have hll : (ms.eraseIdx i2).length = cnt - k - 1 := by
            have h1 := hE.out.len
            have h2 := HSK.out
            rw [List.length_eraseIdx_of_lt HI.out]
            omega
          rw [hll] at hln
          have hkk : ((cnt - k - 1 : Nat) : Int) = (cnt : Int) - (k : Int) - 1 := by have := HLT.out; omega
          have HLN := Lib.hid hln
          have HNX2 := Lib.hid (HNX.out W9 W10 _ hS9 hse9 hbb9 hse10 hg10 HMB.out hbb9.size)
          clear hS9 hse9 hbb9 hwf hse10 hg10 hln hll hb9 hq8 hq8b
          go_wp2_with fail
          refine HLN.out.mono ?_
          rintro en10 WX ⟨rfl, rfl⟩
          go_wp2_with fail
          have hkl := HLT.out
          have hc40 := HC40.out
          go_roundw
          case rel => exact ⟨k + 1, _, _, S ++ [a3], by omega, by go_num, by rw [List.length_append, HSK.out]; rfl, HNX2⟩
          case measure => simp [intOf]; omega
        · obtain rfl : k = cnt := by omega
          have hend2 : ¬ ((k : Int) < (k : Int)) := by omega
          have hms0 : ms = [] := by
            have h1 := hE.out.len
            have h2 := HSK.out
            exact List.eq_nil_of_length_eq_zero (by omega)
          subst hms0
          have HTN := Lib.hid (net_take_none hE.out.net 0 false)
          go_wp2_with fail
          refine HTN.out.mono ?_
          rintro en5 W5 ⟨rfl, hb5⟩
          have hb6 : Below W5.heap.size W5 (W5.alloc (.cells zcells 34)) := (Below.refl _ _).alloc (Nat.le_refl _) _
          have hS6 := (hE.out.net.below hb5).below hb6
          have hse6 := (hE.out.seen.below hb5 hE.out.seen.seen.lt).below hb6 (Nat.lt_of_lt_of_le hE.out.seen.seen.lt hb5.size)
          have hbb6 : Below W1.heap.size W1 (W5.alloc (.cells zcells 34)) := (hE.out.bel.trans (hb5.mono hE.out.bel.size)).trans (hb6.mono (Nat.le_trans hE.out.bel.size hb5.size))
          have hlen := fun ty => hse6.len ty
          rw [HSK.out] at hlen
          have HAL := Lib.hid (net_all_none hS6)
          have HBB6 := Lib.hid hbb6
          clear hb5 hb6 hS6 hse6 hbb6
          go_wp2_with fail
          refine HAL.out.mono ?_
          rintro en7 W7 ⟨rfl, hb7⟩
          go_wp2_with fail
          go_ret
          exact ⟨rfl, HB1.out.trans ((HBB6.out.trans (hb7.mono HBB6.out.size)).mono HB1.out.size)⟩
end Go.Proofs.YtiglgepbffcdeaaDoor
