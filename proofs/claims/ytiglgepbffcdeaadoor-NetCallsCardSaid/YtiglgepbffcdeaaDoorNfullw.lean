/- NetFull: the walk. -/
import Derived.Test.YtiglgepbffcdeaaDoorNetL
namespace Go.Proofs.YtiglgepbffcdeaaDoor
open Go.RowKit
set_option linter.unusedVariables false

/-- The numbers of the messages. -/
def nums (ms : List Mm) : List Int := ms.map (·.m.nu)
theorem nums_app (a b : List Mm) : nums (a ++ b) = nums a ++ nums b := by unfold nums; rw [List.map_append]
theorem nums_len (ms : List Mm) : (nums ms).length = ms.length := by unfold nums; rw [List.length_map]
/-- What the first loop holds. -/
structure FillS (n0 g i : Nat) (v : Value) (ms : List Mm) (w W : World) : Prop where
  net : NetS W n0 g v ms
  len : ms.length = i
  nu : nums ms = (List.range i).map Int.ofNat
  bel : Below n0 w W
theorem FillS.put {n0 g i : Nat} {v : Value} {ms : List Mm} {w W W' : World} (h : FillS n0 g i v ms w W) (hn0 : n0 ≤ W.heap.size) (hp : Putted n0 g v ms (mkn 2 (i : Int)) W W') : ∃ v' ms', FillS n0 g (i + 1) v' ms' w W' := by
  have hb := hp.below h.net hn0
  obtain ⟨v', x, hx, hS, _, _⟩ := hp
  refine ⟨v', ms ++ [x], hS, by simp [h.len], ?_, h.bel.trans hb⟩
  rw [nums_app, h.nu, List.range_succ, List.map_append]
  simp [nums, hx, mkn]
/-- What the second loop holds. -/
structure OutS (n0 g mb : Nat) (v : Value) (ms : List Mm) (S : List Int) (w W : World) : Prop where
  net : NetS W n0 g v ms
  seen : Seen W mb S
  nd : (nums ms).Nodup
  ap : ∀ x ∈ nums ms, x ∉ S
  rg : ∀ x ∈ nums ms, 0 ≤ x ∧ x < 4096
  len : ms.length + S.length = 4096
  bel : Below n0 w W
theorem OutS.take {n0 g mb i : Nat} {v : Value} {ms : List Mm} {S : List Int} {w W W' : World} (h : OutS n0 g mb v ms S w W) (hn0 : n0 ≤ W.heap.size) (hi : i < ms.length) (ht : Taken n0 g v ms i W W') :
    ∃ v', NetS W' n0 g v' (ms.eraseIdx i) ∧ Seen W' mb S ∧ Below n0 w W' := by
  have hb := ht.below h.net hn0
  obtain ⟨v', hS, hf, _⟩ := ht
  exact ⟨v', hS, h.seen.net h.net hf, h.bel.trans hb⟩
theorem nums_erase (ms : List Mm) (i : Nat) : nums (ms.eraseIdx i) = (nums ms).eraseIdx i := by
  induction ms generalizing i with
  | nil => rfl
  | cons x ms ih =>
    cases i with
    | zero => rfl
    | succ i =>
      have h := ih i
      unfold nums at h ⊢
      simp only [List.eraseIdx_cons_succ, List.map_cons, h]
theorem OutS.next {n0 g mb i : Nat} {v v' : Value} {ms : List Mm} {S : List Int} {w W W1 W2 : World} (h : OutS n0 g mb v ms S w W) (hi : i < ms.length) (hS : NetS W1 n0 g v' (ms.eraseIdx i)) (hse1 : Seen W1 mb S) (hb1 : Below n0 w W1)
    (hse : Seen W2 mb (S ++ [ms[i].m.nu])) (hg : W1.grownBy W2 (some mb)) (hmb : n0 ≤ mb) (hn1 : n0 ≤ W1.heap.size) : OutS n0 g mb v' (ms.eraseIdx i) (S ++ [ms[i].m.nu]) w W2 := by
  have hin : i < (nums ms).length := by rw [nums_len]; exact hi
  have hz : ms[i].m.nu = (nums ms)[i] := by simp [nums]
  have hsub : ((nums ms).eraseIdx i).Sublist (nums ms) := List.eraseIdx_sublist (nums ms) i
  have hnm : (nums ms)[i] ∉ (nums ms).eraseIdx i := by
    intro hm
    rw [List.mem_eraseIdx_iff_getElem] at hm
    obtain ⟨j, hj, hne, he⟩ := hm
    exact hne ((List.getElem_inj h.nd).1 he)
  refine ⟨hS.map hse1 hg, hse, by rw [nums_erase]; exact h.nd.sublist hsub, ?_, ?_, ?_, hb1.trans ((Below.refl _ W1).grown hg hn1 (fun q e => by cases e; exact hmb))⟩
  · intro x hx hm
    rw [nums_erase] at hx
    rcases List.mem_append.1 hm with hm | hm
    · exact h.ap x (hsub.subset hx) hm
    · rw [List.mem_singleton.1 hm, hz] at hx
      exact hnm hx
  · intro x hx
    rw [nums_erase] at hx
    exact h.rg x (hsub.subset hx)
  · have := h.len
    rw [List.length_eraseIdx_of_lt hi, List.length_append]
    simp
    omega

theorem FillS.out {n0 g : Nat} {v : Value} {ms : List Mm} {w W W3 : World} (h : FillS n0 g 4096 v ms w W) (hb : Below W.heap.size W W3) (hn0 : n0 ≤ W.heap.size) : OutS n0 g W3.heap.size v ms [] w (W3.alloc (.map #[] 0)) := by
  have h3 := (h.net.below hb).below ((Below.refl _ W3).alloc (Nat.le_refl _) (.map #[] 0))
  refine ⟨h3, Seen.new W3, ?_, by simp, ?_, by rw [h.len]; rfl, (h.bel.trans (hb.mono hn0)).alloc (Nat.le_trans hn0 hb.size) _⟩
  · rw [h.nu]
    exact List.pairwise_map.2 (List.Pairwise.imp (fun h e => h (Int.ofNat.inj e)) (List.nodup_range (n := 4096)))
  · intro x hx
    rw [h.nu] at hx
    obtain ⟨k, hk, rfl⟩ := List.mem_map.1 hx
    have := List.mem_range.1 hk
    exact ⟨Int.natCast_nonneg k, by show (k : Int) < 4096; omega⟩
set_option maxRecDepth 100000 in
set_option maxHeartbeats 8000000 in
theorem nfull_walk (A : Option Addr) (c : Nat) (zs : List Int) (w : World) (hT : Tab w) (hz : Sl w w.heap.size A (iv zs)) (hzl : zs.length ≤ maxLen) :
    Calls Tryd.prog 3 #[.slice A zs.length c] w fun e w' => e = .returned (.bool true) ∧ Below w.heap.size w w' := by
  have HT := Lib.hid hT
  have H0 := Lib.hid hT.1
  have HZ := Lib.hid hz
  unfold maxLen at hzl
  obtain ⟨n, hN⟩ : ∃ n, zs.length = n := ⟨_, rfl⟩
  have HN := Lib.hid hN
  rw [hN] at hzl ⊢
  clear hT hz hN
  by_cases hbig : 100 < n
  · have hbi : (100 : Int) < (n : Int) := by omega
    go_enter Tryd.func3, Tryd.ntmps3
    go_wp2_with fail
    refine (speaks13 _ HT.out).mono ?_
    rintro en W1 ⟨rfl, hb1⟩
    go_wp2_with fail
    go_ret
    exact ⟨rfl, hb1⟩
  have hbi : ¬ ((100 : Int) < (n : Int)) := by omega
  have HSM : Hid (n ≤ 100) := by show _ ≤ _; omega
  clear hzl hbig
  go_enter Tryd.func3, Tryd.ntmps3
  go_wp2_with fail
  refine (speaks13 _ HT.out).mono ?_
  rintro en W1 ⟨rfl, hb1⟩
  have T1 := Lib.hid (HT.out.low H0.out hb1)
  have HB1 := Lib.hid hb1
  clear hb1
  go_wp2_with fail
  refine (net_new _).mono ?_
  rintro en W2 ⟨rfl, hS2, hb2⟩
  have HF2 : Hid (FillS W1.heap.size W1.heap.size 0 (.slice none 0 0) [] W1 W2) := ⟨hS2, rfl, rfl, hb2⟩
  have H1 : Hid (0 < W1.heap.size) := T1.out.1
  clear hS2 hb2
  go_wp2_with fail
  go_loopw [4] (fun s wr => ∃ (i : Nat) (v : Value) (ms : List Mm), i ≤ 4096 ∧ s = .int .i64 (i : Int) ∧ Hid (FillS W1.heap.size W1.heap.size i v ms W1 wr)) (fun s _ => 4096 - (intOf s).toNat)
  case atStart => exact ⟨0, _, _, Nat.zero_le _, rfl, HF2⟩
  case round =>
    clear HF2
    obtain ⟨i, v, ms, hi, rfl, hF⟩ := hrel
    by_cases hlt : i < 4096
    · have hi1 : (i : Int) < 4096 := by omega
      go_wp2_with fail
      refine (put_kind 2 (i : Int) (by decide) (by decide) hF.out.net (by rw [hF.out.len]; exact hlt) (T1.out.low H1.out hF.out.bel) hF.out.bel.size).mono ?_
      rintro en W3 ⟨rfl, hp3⟩
      obtain ⟨v3, ms3, hF3⟩ := hF.out.put hF.out.bel.size hp3
      have HF3 := Lib.hid hF3
      clear hp3 hF3
      go_wp2_with fail
      go_roundw
      case rel => exact ⟨i + 1, v3, ms3, by omega, by go_num, HF3⟩
      case measure => simp [intOf]; omega
    · obtain rfl : i = 4096 := by omega
      have hmm := @run_makeMap Tryd.prog
      go_wp2_with fail
      refine (put_kind_full 2 0 (by decide) (by decide) hF.out.net hF.out.len (T1.out.low H1.out hF.out.bel)).mono ?_
      rintro en W3 ⟨rfl, hb3⟩
      have hln := net_len (hF.out.net.below hb3)
      rw [hF.out.len] at hln
      have HLN := Lib.hid hln
      have hO0 := hF.out.out hb3 hF.out.bel.size
      have HO0 := Lib.hid hO0
      have HMB : Hid (W1.heap.size ≤ W3.heap.size) := Nat.le_trans hF.out.bel.size hb3.size
      clear hln hO0 hb3
      go_wp2_with fail
      refine HLN.out.mono ?_
      rintro en4 W4 ⟨rfl, rfl⟩
      go_wp2_with fail
      go_loopw [37] (fun s wr => ∃ (k : Nat) (v : Value) (ms : List Mm) (S : List Int), k ≤ n ∧ s = .int .i64 (k : Int) ∧ S.length = k ∧ Hid (OutS W1.heap.size W1.heap.size W4.heap.size v ms S W1 wr)) (fun s _ => n - (intOf s).toNat)
      case atStart => exact ⟨0, _, _, [], Nat.zero_le _, rfl, rfl, HO0⟩
      case round =>
        clear HO0
        obtain ⟨k, v, ms, S, hk, rfl, hSk, hO⟩ := hrel
        have HSK := Lib.hid hSk
        clear hSk
        by_cases hlt : k < n
        · have hi1 : (k : Int) < (n : Int) := by omega
          have hkz : k < zs.length := by rw [HN.out]; exact hlt
          have hbw : Below w.heap.size w wr := HB1.out.trans (hO.out.bel.mono HB1.out.size)
          obtain ⟨b1, o1, rfl, hb1, hc1⟩ := (HZ.out.below hbw).at (k := k) (by simpa [iv] using hkz)
          have e1 : (iv zs)[k]'(by simpa [iv] using hkz) = Value.int .i64 zs[k] := by simp [iv]
          rw [e1] at hc1
          obtain ⟨z, hz⟩ : ∃ z, zs[k] = z := ⟨_, rfl⟩
          rw [hz] at hc1
          have hne : ms ≠ [] := by
            intro e
            have h1 := hO.out.len
            have h2 := HSM.out
            have h3 := HSK.out
            rw [e] at h1
            simp at h1
            omega
          have HTK := Lib.hid (net_take_out hO.out.net hne z hO.out.bel.size)
          have HLT : Hid (k < n) := hlt
          clear e1 hz hbw hne
          go_wp2_with fail
          refine HTK.out.mono ?_
          rintro en5 W5 ⟨i, hi, B1, d1, B2, d2, hiz, rfl, hown, htk⟩
          obtain ⟨v5, hS5, hse5, hb5⟩ := hO.out.take hO.out.bel.size hi htk
          have hrg := hO.out.rg ms[i].m.nu (by rw [nums]; exact List.mem_map.2 ⟨_, List.getElem_mem hi, rfl⟩)
          have hns := hO.out.ap ms[i].m.nu (by rw [nums]; exact List.mem_map.2 ⟨_, List.getElem_mem hi, rfl⟩)
          have hnx := fun (W6 W7 : World) => hO.out.next (W1 := W6) (W2 := W7) hi (v' := v5)
          obtain ⟨m, hm⟩ : ∃ m, ms[i].m = m := ⟨_, rfl⟩
          rw [hm] at hrg hns hnx ⊢
          obtain ⟨a1, a2, a3, a4, a5, a6, a7, a8, a9, a10, a11, a12, a13, a14, a15, a16⟩ := m
          replace hrg : 0 ≤ a3 ∧ a3 < 4096 := hrg
          replace hns : a3 ∉ S := hns
          obtain ⟨W6, hW6⟩ : ∃ X, W5.alloc (.cells (mcs a1 a2 a3 a4 a5 a6 a7 a8 (.slice B1 a9.length d1) a10 a11 (.slice B2 a12.length d2) a13 a14 a15 a16) 34) = X := ⟨_, rfl⟩
          have hb6 : Below W5.heap.size W5 W6 := by rw [← hW6]; exact (Below.refl _ _).alloc (Nat.le_refl _) _
          have hse6 := hse5.below hb6 hse5.lt
          have hS6 := hS5.below hb6
          have hbb6 := hb5.trans (hb6.mono hb5.size)
          have hq6 : ∀ j, W6.cell? ⟨W5.heap.size, j, none⟩ = (mcs a1 a2 a3 a4 a5 a6 a7 a8 (.slice B1 a9.length d1) a10 a11 (.slice B2 a12.length d2) a13 a14 a15 a16)[j]? := by rw [← hW6]; exact (Blk.new W5 _ _).cell
          have hwf : (Lit.int .i64 a3).wf = true := wf_small (by omega) (by omega)
          have hlook := hse6.look a3 hwf
          rw [decide_eq_false hns] at hlook
          obtain ⟨W7, hput, hse7, hg7⟩ := hse6.put a3 hwf (by have := HSK.out; have := HSM.out; omega)
          have HNX := Lib.hid (hnx W6 W7 hS6 hse6 hbb6 hse7 hg7 HMB.out hbb6.size)
          clear hiz hown htk hS5 hse5 hb5 hrg hns hnx hm hb6 hse6 hS6 hbb6 hwf hse7 hg7
          go_wp2_with fail
          have hkn := HLT.out
          have hnn := HSM.out
          go_roundw
          case rel => exact ⟨k + 1, v5, _, S ++ [a3], by omega, by go_num, by rw [List.length_append, HSK.out]; rfl, HNX⟩
          case measure => simp [intOf]; omega
        · obtain rfl : k = n := by omega
          have hend : ¬ ((k : Int) < (k : Int)) := by omega
          have hln := net_len hO.out.net
          have hlm : ms.length = 4096 - k := by have := hO.out.len; have := HSK.out; omega
          rw [hlm] at hln
          have HLN2 := Lib.hid hln
          have hk4 : ((4096 - k : Nat) : Int) = 4096 - (k : Int) := by have := HSM.out; omega
          clear hln hlm
          go_wp2_with fail
          refine HLN2.out.mono ?_
          rintro en8 W8 ⟨rfl, rfl⟩
          go_wp2_with fail
          go_ret
          exact ⟨by first | rfl | exact ret_bool (by simp [hk4]), HB1.out.trans (hO.out.bel.mono HB1.out.size)⟩
end Go.Proofs.YtiglgepbffcdeaaDoor
