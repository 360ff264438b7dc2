/- PathSplits: the walk, where the names are of 2^40 bytes together at most. -/
import Derived.Test.YtdekpjagkhdfcaaDoorPathK
import Derived.Test.YtdekpjagkhdfcaaDoorPparw
namespace Go.Proofs.YtdekpjagkhdfcaaDoor
open Go.RowKit
set_option linter.unusedVariables false

theorem Sl.newsS {w : World} {B : Nat} {ad : Addr} {vs : List Value} (h : Sl w B (some ad) vs) : ∀ j u, vs[j]? = some u → w.cell? (ad.add j) = some u := by
  rcases h with h | ⟨b, o, e, -, hr⟩
  · intro j u hu; rw [h] at hu; simp at hu
  · injection e with e
    subst e
    intro j u hu
    have hadd : (⟨b, o, none⟩ : Addr).add j = ⟨b, o + j, none⟩ := by unfold Addr.add; split <;> simp_all
    rw [hadd]
    exact hr j u hu

/-- append(v, x...) of texts that came in, nil or not, onto texts that the call has made. -/
theorem wpList_append_strs {ops : Array Oper} {rest : List Oper} {o : Oper} {a : Act} {w : World} {Q : Exit → Act → World → Prop} (hg : Region.wanted o (yielded ops a.tmps) = true) (s x : Operand)
    (hop : o.op = .call { callee := .builtin .append, args := #[s, x], argTypes := #[22, 22] })
    (base : Nat) (v : Value) (n : Nat) (xs : List Value) (hs : a.eval s = v) (hown : w.ownsRow base 9 1 v n xs)
    (A : Option Addr) (c B k : Nat) (l : List ByteArray) (hx : a.eval x = .slice A k c) (hkl : k = l.length) (hn : A = none → c = 0) (hsl : Sl w B A (l.map Value.string)) (hl : (n + k) * 16 ≤ 140737488355328) (hbase : base ≤ w.heap.size)
    (hK : ∀ v' w', w'.ownsRow base 9 1 v' (n + k) (xs ++ l.map Value.string) → Below base w w' → wpList Tryd.prog ops Q rest (a.put o.dst v') w') : wpList Tryd.prog ops Q (o :: rest) a w := by
  obtain ⟨i0, hi, hz0, hz1, hz2⟩ := info_parts Tryd.info_string
  subst hkl
  cases A with
  | some ad =>
    refine BigFrame.wpList_want hg fun K hK' => ?_
    refine wp_append_own w s x 22 hop base 9 i0 _ 1 16 Tryd.underlying22 hi hz0 hz1 hz2 rfl (by decide) v n xs hs hown ad l.length c (l.map Value.string) hx (by simp) hsl.newsS (by simp [Value.oneCell']) (by unfold maxLen; omega) (by omega) hbase ?_
    intro v' w' h1 h2 _
    refine hK' _ _ (hK v' w' h1 ?_)
    refine (Below.refl _ _).grown h2 hbase (fun k hk => ?_)
    rcases hown.2 with ⟨rfl, _⟩ | ⟨g', cap, cur, rfl, hb, _⟩
    · simp [Value.ownBlock] at hk
    · simp [Value.ownBlock] at hk; omega
  | none =>
    obtain rfl := hn rfl
    have hl0 : l = [] := by
      rcases hsl with h | ⟨b, o, e, _⟩
      · simpa using h
      · cases e
    subst hl0
    refine BigFrame.wpList_want hg fun K hK' => ?_
    have hr := run_append_owned_none (P := Tryd.prog) w base 22 o.type 9 i0 1 Tryd.underlying22 hi v n xs hown
    unfold Oper.wp execOp
    have hx' : a.eval x = .slice none 0 0 := hx
    simp only [hop, resolve, invoke, builtin, Sem.run_bind, Sem.run_pure, Result.andThen_ok, List.map_toArray, List.map_cons, List.map_nil, hs, hx', hr]
    exact hK' _ _ (hK v w (by simpa using hown) (Below.refl _ _))

set_option maxRecDepth 100000 in
set_option maxHeartbeats 2000000 in
theorem psp_walk (s : ByteArray) (A : Option Addr) (c : Nat) (zs : List ByteArray) (m : Int) (w : World) (hs : s.size ≤ maxLen) (hsl : Sl w w.heap.size A (zs.map Value.string)) (hnil : A = none → c = 0) (hb : (joinL zs).length ≤ 1099511627776) (hm : w.cell? ⟨0, 0, none⟩ = some (.int .i64 m)) (hl : zs.length ≤ maxLen) :
    Calls Tryd.prog 3 #[.string s, .slice A zs.length c] w fun e w' => e = .returned (.bool true) ∧ Below w.heap.size w w' := by
  have HS := Lib.hid hs
  have HM := Lib.hid hm
  have HSL := Lib.hid hsl
  have HB := Lib.hid hb
  have HNIL := Lib.hid hnil
  have h0 : 0 < w.heap.size := World.block_lt_of_cell? w _ hm
  unfold maxLen at hs hl
  clear hm hsl hb hnil
  obtain ⟨n, hn⟩ : ∃ n, zs.length = n := ⟨_, rfl⟩
  have HN := Lib.hid hn
  rw [hn] at hl ⊢
  clear hn
  by_cases hbig : 1000 < s.size ∨ 30 < n
  · go_enter Tryd.func3, Tryd.ntmps3
    go_wp2_with fail
    refine (pspeak_any m w HM.out).mono ?_
    rintro e W1 ⟨rfl, hb1⟩
    have HB1 := Lib.hid hb1
    clear hb1
    by_cases h1 : 1000 < s.size
    · have hi : (1000 : Int) < (s.size : Int) := by omega
      go_wp2_with fail
      go_ret
      exact ⟨rfl, HB1.out⟩
    · have hi : ¬ ((1000 : Int) < (s.size : Int)) := by omega
      have hj : (30 : Int) < (n : Int) := by omega
      go_wp2_with fail
      go_ret
      exact ⟨rfl, HB1.out⟩
  have hi : ¬ ((1000 : Int) < (s.size : Int)) := by omega
  have hj : ¬ ((30 : Int) < (n : Int)) := by omega
  have S40 : Hid (s.size ≤ 1099511627776) := by show _ ≤ _; omega
  have N30 : Hid (n ≤ 30) := by show _ ≤ _; omega
  clear hbig
  go_enter Tryd.func3, Tryd.ntmps3
  go_wp2_with fail
  refine (pspeak_any m w HM.out).mono ?_
  rintro e W1 ⟨rfl, hb1⟩
  have HB1 := Lib.hid hb1
  have HM1 : Hid (W1.cell? ⟨0, 0, none⟩ = some (.int .i64 m)) := (hb1.cell (p := ⟨0, 0, none⟩) h0).trans HM.out
  clear hb1
  go_wp2_with fail
  refine (split_any s m W1 HS.out HM1.out).mono ?_
  rintro e W2 ⟨hs2, hb2⟩
  have HB2 := Lib.hid (HB1.out.trans (hb2.mono HB1.out.size))
  have HM2 : Hid (W2.cell? ⟨0, 0, none⟩ = some (.int .i64 m)) := (HB2.out.cell (p := ⟨0, 0, none⟩) h0).trans HM.out
  clear hb2
  unfold Splits at hs2
  cases hp : pathOf s.data.toList with
  | none =>
    rw [hp] at hs2
    subst hs2
    have HP := Lib.hid hp
    clear hp
    go_wp2_with fail
    refine (rsplit_any s W2 S40.out).mono ?_
    rintro e W3 ⟨hr3, hb3⟩
    have HB3 := Lib.hid (HB2.out.trans (hb3.mono HB2.out.size))
    have HM3 : Hid (W3.cell? ⟨0, 0, none⟩ = some (.int .i64 m)) := (HB3.out.cell (p := ⟨0, 0, none⟩) h0).trans HM.out
    clear hb3
    unfold RSplits at hr3
    rw [HP.out] at hr3
    obtain ⟨A3, c3, rfl⟩ := hr3
    have hpar := parent_any s m W3 HS.out HM3.out
    rw [parentE_none HP.out] at hpar
    have HPAR := Lib.hid hpar
    clear hpar
    go_wp2_with fail
    refine HPAR.out.mono ?_
    rintro e W4 ⟨rfl, hb4⟩
    have HB4 := Lib.hid (HB3.out.trans (hb4.mono HB3.out.size))
    clear hb4
    go_wp2_with fail
    refine (name_any s W4 HS.out).mono ?_
    rintro e w5 ⟨rfl, rfl⟩
    go_wp2_with fail
    refine (rname_any s w5 HS.out).mono ?_
    rintro e w6 ⟨rfl, rfl⟩
    have HS5 := Lib.hid (HSL.out.below HB4.out)
    have hown0 : (w6.alloc (.cells #[] 9)).ownsRow w6.heap.size 9 1 (.slice (some ⟨w6.heap.size, 0, none⟩) 0 0) 0 [] := World.ownsRow_made w6 #[] 0 (Nat.le_refl _) (Nat.zero_le _) rfl
    have HO0 := Lib.hid hown0
    have HA0 : Hid (Sl (w6.alloc (.cells #[] 9)) w.heap.size A (zs.map Value.string)) := HS5.out.alloc HB4.out.size _
    have HL0 : Hid ((0 + n) * 16 ≤ 140737488355328) := by have := N30.out; show _ ≤ _; omega
    have HW6 : Hid (Below w.heap.size w (w6.alloc (.cells #[] 9))) := HB4.out.alloc HB4.out.size _
    clear hown0
    go_wp2_with (at_builtin; refine wpList_append_strs rfl _ _ rfl w6.heap.size (.slice (some ⟨w6.heap.size, 0, none⟩) 0 0) 0 [] rfl HO0.out A c w.heap.size n zs rfl HN.out.symm HNIL.out HA0.out HL0.out (by simp) ?_; intro v7 W7 ho7 hb7; obtain ⟨A7, c7, hv7, -⟩ := pown_form ho7; subst hv7)
    rw [Nat.zero_add] at ho7
    have HB7 := Lib.hid (HW6.out.trans (hb7.mono HB4.out.size))
    have HS7 : Hid (Sl W7 W7.heap.size A7 (zs.map Value.string)) := by
      have h := Sl.of_own ho7
      rw [List.nil_append] at h
      exact h
    have HA7 := Lib.hid (HSL.out.below HB7.out)
    clear ho7 hb7
    have hnn := HN.out
    have hbb := HB.out
    have hj := pjoin_any A7 c7 W7.heap.size zs W7 HS7.out (Nat.le_refl _) (by omega) (by have := N30.out; omega)
    rw [hnn] at hj
    have HJ := Lib.hid hj
    clear hj
    refine HJ.out.mono ?_
    rintro e W8 ⟨rfl, hb8⟩
    have HB8 := Lib.hid (HB7.out.trans (hb8.mono HB7.out.size))
    clear hb8
    have hlj := ljoin_any A c w.heap.size zs W8 (HSL.out.below HB8.out) (by omega) (by have := N30.out; omega)
    rw [hnn] at hlj
    have HLJ := Lib.hid hlj
    clear hlj hnn hbb
    go_wp2_with fail
    refine HLJ.out.mono ?_
    rintro e W9 ⟨⟨t9, rfl, ht9⟩, rfl⟩
    have hts : t9.size ≤ 1099511627776 := by
      have h1 := joinS_le zs
      rw [← ht9] at h1
      have h2 : t9.data.toList.length = t9.size := by simp
      have := HB.out
      omega
    have q1 : ¬ (9223372036854775807 < (⟨#[47]⟩ : ByteArray).size + t9.size) := by show ¬ (_ < 1 + _); omega
    have e1 : (⟨(joinP (zs.map (·.data.toList))).toArray⟩ : ByteArray) = (⟨#[47]⟩ : ByteArray) ++ t9 := ByteArray.ext (Array.toList_inj.1 (by
      show joinP _ = _
      rw [joinP_joinS, ← ht9]; simp))
    have e2 : ((⟨(joinP (zs.map (·.data.toList))).toArray⟩ : ByteArray).toList == ((⟨#[47]⟩ : ByteArray) ++ t9).toList) = true := by rw [e1]; simp
    have e3 : (⟨(joinP (zs.map (·.data.toList))).toArray⟩ : ByteArray).toList = ((⟨#[47]⟩ : ByteArray) ++ t9).toList := by rw [e1]
    clear ht9 hts
    go_wp2_with fail
    go_ret
    exact ⟨rfl, HB8.out⟩
  | some ns =>
    rw [hp] at hs2
    obtain ⟨A2, c2, xs, rfl, hx, hsx, hcx⟩ := hs2
    have HSX := Lib.hid hsx
    have HX := Lib.hid hx
    have HP := Lib.hid hp
    clear hp hx hsx hcx
    go_wp2_with fail
    refine (rsplit_any s W2 S40.out).mono ?_
    rintro e W3 ⟨hr3, hb3⟩
    have HB3 := Lib.hid (HB2.out.trans (hb3.mono HB2.out.size))
    have HM3 : Hid (W3.cell? ⟨0, 0, none⟩ = some (.int .i64 m)) := (HB3.out.cell (p := ⟨0, 0, none⟩) h0).trans HM.out
    have HK3 := Lib.hid hb3
    clear hb3
    unfold RSplits at hr3
    rw [HP.out] at hr3
    obtain ⟨A3, c3, xs3, rfl, hx3, hsx3, hcx3⟩ := hr3
    have hx33 := datas_inj.1 (hx3.trans HX.out.symm)
    subst hx33
    have HSX3 := Lib.hid hsx3
    have HCX3 := Lib.hid hcx3
    clear hx3 hsx3 hcx3
    have hpp := HP.out
    rw [← HX.out] at hpp
    have HFIT := Lib.hid (path_fits hpp)
    have hpar := parent_any s m W3 HS.out HM3.out
    rcases List.eq_nil_or_concat xs3 with hx0 | ⟨ys, z, hx0⟩
    · subst hx0
      rw [show parentE s.data.toList = _ by unfold parentE; rw [parentP_root hpp]] at hpar
      have HPAR := Lib.hid hpar
      clear hpar hpp
      go_wp2_with fail
      refine HPAR.out.mono ?_
      rintro e W4 ⟨rfl, hb4⟩
      have HB4 := Lib.hid (HB3.out.trans (hb4.mono HB3.out.size))
      have htx := texts_any A2 A3 c2 c3 W4.heap.size [] [] W4 Sl.nil Sl.nil (by decide) (by decide)
      rw [show decide (([] : List ByteArray) = []) = true by simp] at htx
      have HTX := Lib.hid htx
      clear hb4 htx
      go_wp2_with fail
      refine HTX.out.mono ?_
      rintro e wt ⟨rfl, q, rfl⟩
      have HB4 := Lib.hid (bdrewN HB4.out q)
      obtain ⟨W4, hW4⟩ : ∃ W, W4.drewN q = W := ⟨_, rfl⟩
      rw [hW4] at HB4 ⊢
      clear hW4
      go_wp2_with fail
      refine (name_any s W4 HS.out).mono ?_
      rintro e w5 ⟨rfl, rfl⟩
      go_wp2_with fail
      refine (rname_any s w5 HS.out).mono ?_
      rintro e w6 ⟨rfl, rfl⟩
      have HS5 := Lib.hid (HSL.out.below HB4.out)
      have hown0 : (w6.alloc (.cells #[] 9)).ownsRow w6.heap.size 9 1 (.slice (some ⟨w6.heap.size, 0, none⟩) 0 0) 0 [] := World.ownsRow_made w6 #[] 0 (Nat.le_refl _) (Nat.zero_le _) rfl
      have HO0 := Lib.hid hown0
      have HA0 : Hid (Sl (w6.alloc (.cells #[] 9)) w.heap.size A (zs.map Value.string)) := HS5.out.alloc HB4.out.size _
      have HL0 : Hid ((0 + n) * 16 ≤ 140737488355328) := by have := N30.out; show _ ≤ _; omega
      have HW6 : Hid (Below w.heap.size w (w6.alloc (.cells #[] 9))) := HB4.out.alloc HB4.out.size _
      clear hown0
      go_wp2_with (at_builtin; refine wpList_append_strs rfl _ _ rfl w6.heap.size (.slice (some ⟨w6.heap.size, 0, none⟩) 0 0) 0 [] rfl HO0.out A c w.heap.size n zs rfl HN.out.symm HNIL.out HA0.out HL0.out (by simp) ?_; intro v7 W7 ho7 hb7; obtain ⟨A7, c7, hv7, -⟩ := pown_form ho7; subst hv7)
      rw [Nat.zero_add] at ho7
      have HB7 := Lib.hid (HW6.out.trans (hb7.mono HB4.out.size))
      have HS7 : Hid (Sl W7 W7.heap.size A7 (zs.map Value.string)) := by
        have h := Sl.of_own ho7
        rw [List.nil_append] at h
        exact h
      have HA7 := Lib.hid (HSL.out.below HB7.out)
      clear ho7 hb7
      have hnn := HN.out
      have hbb := HB.out
      have hj := pjoin_any A7 c7 W7.heap.size zs W7 HS7.out (Nat.le_refl _) (by omega) (by have := N30.out; omega)
      rw [hnn] at hj
      have HJ := Lib.hid hj
      clear hj
      refine HJ.out.mono ?_
      rintro e W8 ⟨rfl, hb8⟩
      have HB8 := Lib.hid (HB7.out.trans (hb8.mono HB7.out.size))
      clear hb8
      have hlj := ljoin_any A c w.heap.size zs W8 (HSL.out.below HB8.out) (by omega) (by have := N30.out; omega)
      rw [hnn] at hlj
      have HLJ := Lib.hid hlj
      clear hlj hnn hbb
      go_wp2_with fail
      refine HLJ.out.mono ?_
      rintro e W9 ⟨⟨t9, rfl, ht9⟩, rfl⟩
      have hts : t9.size ≤ 1099511627776 := by
        have h1 := joinS_le zs
        rw [← ht9] at h1
        have h2 : t9.data.toList.length = t9.size := by simp
        have := HB.out
        omega
      have q1 : ¬ (9223372036854775807 < (⟨#[47]⟩ : ByteArray).size + t9.size) := by show ¬ (_ < 1 + _); omega
      have e1 : (⟨(joinP (zs.map (·.data.toList))).toArray⟩ : ByteArray) = (⟨#[47]⟩ : ByteArray) ++ t9 := ByteArray.ext (Array.toList_inj.1 (by
        show joinP _ = _
        rw [joinP_joinS, ← ht9]; simp))
      have e2 : ((⟨(joinP (zs.map (·.data.toList))).toArray⟩ : ByteArray).toList == ((⟨#[47]⟩ : ByteArray) ++ t9).toList) = true := by rw [e1]; simp
      have e3 : (⟨(joinP (zs.map (·.data.toList))).toArray⟩ : ByteArray).toList = ((⟨#[47]⟩ : ByteArray) ++ t9).toList := by rw [e1]
      clear ht9 hts
      go_wp2_with fail
      go_ret
      exact ⟨rfl, HB8.out⟩
    · rw [List.concat_eq_append] at hx0
      subst hx0
      rw [List.map_append, List.map_singleton] at hpp
      rw [parentE_some hpp, ba_eta z] at hpar
      have HPAR := Lib.hid hpar
      have HFY := Lib.hid (path_fits (pathOf_above hpp))
      have hlen : (ys ++ [z]).length = ys.length + 1 := by simp
      clear hpar hpp
      go_wp2_with fail
      refine HPAR.out.mono ?_
      rintro e W4 ⟨rfl, hb4⟩
      have HB4 := Lib.hid (HB3.out.trans (hb4.mono HB3.out.size))
      have HS3 := Lib.hid (HSX3.out.below hb4)
      have htx := texts_any A2 A3 c2 c3 W4.heap.size (ys ++ [z]) (ys ++ [z]) W4 (((HSX.out.below HK3.out).below (hb4.mono HK3.out.size)).more (Nat.le_trans HK3.out.size hb4.size)) (HS3.out.more hb4.size) (by have := HFIT.out.1; unfold maxLen; omega) (by have := HFIT.out.1; unfold maxLen; omega)
      rw [show decide (ys ++ [z] = ys ++ [z]) = true by simp, hlen] at htx
      have HTX := Lib.hid htx
      clear hb4 htx
      go_wp2_with fail
      refine HTX.out.mono ?_
      rintro e wt ⟨rfl, q, rfl⟩
      have HB4 := Lib.hid (bdrewN HB4.out q)
      have HS3 : Hid (Sl (W4.drewN q) W3.heap.size A3 ((ys ++ [z]).map Value.string)) := HS3.out
      obtain ⟨W4, hW4⟩ : ∃ W, W4.drewN q = W := ⟨_, rfl⟩
      rw [hW4] at HB4 HS3 ⊢
      clear hW4
      obtain ⟨b, o, rfl, hbb, hcell⟩ := HS3.out.at (k := ys.length) (by simp)
      rw [List.getElem_map, List.getElem_append_right (Nat.le_refl _)] at hcell
      simp only [Nat.sub_self, List.getElem_singleton] at hcell
      have hsy : Sl W4 W3.heap.size (some ⟨b, o, none⟩) (ys.map Value.string) := by
        rcases HS3.out with h | ⟨b', o', e', hb', hr'⟩
        · simp at h
        · refine .inr ⟨b', o', e', hb', fun k v hk => hr' k v ?_⟩
          rw [List.map_append, List.getElem?_append_left (by
            rcases Nat.lt_or_ge k (ys.map Value.string).length with h | h
            · exact h
            · rw [List.getElem?_eq_none h] at hk; cases hk)]
          exact hk
      have hyc : (ys.length : Int) ≤ (c3 : Int) := by have := HCX3.out; rw [hlen] at this; omega
      have hy1 : ((ys.length + 1 : Nat) : Int) - 1 = (ys.length : Int) := by omega
      have hfy := HFY.out
      have HRJ := Lib.hid (rjoin_any (some ⟨b, o, none⟩) c3 W3.heap.size ys W4 hsy (by omega) (by omega))
      have hy8 : ys.length ≤ 8 := hfy.1
      clear hsy hfy hlen
      go_wp2_with fail
      refine HRJ.out.mono ?_
      rintro e w5 ⟨⟨t5, rfl, ht5⟩, rfl⟩
      have e5 : t5 = ⟨(joinP (ys.map (·.data.toList))).toArray⟩ := ByteArray.ext (Array.toList_inj.1 ht5)
      subst e5
      clear ht5
      obtain ⟨W4, hW4⟩ : ∃ W, w5 = W := ⟨_, rfl⟩
      subst hW4
      go_wp2_with fail
      refine (name_any s w5 HS.out).mono ?_
      rintro e w5 ⟨rfl, rfl⟩
      go_wp2_with fail
      refine (rname_any s w5 HS.out).mono ?_
      rintro e w6 ⟨rfl, rfl⟩
      have HS5 := Lib.hid (HSL.out.below HB4.out)
      have hown0 : (w6.alloc (.cells #[] 9)).ownsRow w6.heap.size 9 1 (.slice (some ⟨w6.heap.size, 0, none⟩) 0 0) 0 [] := World.ownsRow_made w6 #[] 0 (Nat.le_refl _) (Nat.zero_le _) rfl
      have HO0 := Lib.hid hown0
      have HA0 : Hid (Sl (w6.alloc (.cells #[] 9)) w.heap.size A (zs.map Value.string)) := HS5.out.alloc HB4.out.size _
      have HL0 : Hid ((0 + n) * 16 ≤ 140737488355328) := by have := N30.out; show _ ≤ _; omega
      have HW6 : Hid (Below w.heap.size w (w6.alloc (.cells #[] 9))) := HB4.out.alloc HB4.out.size _
      clear hown0
      go_wp2_with (at_builtin; refine wpList_append_strs rfl _ _ rfl w6.heap.size (.slice (some ⟨w6.heap.size, 0, none⟩) 0 0) 0 [] rfl HO0.out A c w.heap.size n zs rfl HN.out.symm HNIL.out HA0.out HL0.out (by simp) ?_; intro v7 W7 ho7 hb7; obtain ⟨A7, c7, hv7, -⟩ := pown_form ho7; subst hv7)
      rw [Nat.zero_add] at ho7
      have HB7 := Lib.hid (HW6.out.trans (hb7.mono HB4.out.size))
      have HS7 : Hid (Sl W7 W7.heap.size A7 (zs.map Value.string)) := by
        have h := Sl.of_own ho7
        rw [List.nil_append] at h
        exact h
      have HA7 := Lib.hid (HSL.out.below HB7.out)
      clear ho7 hb7
      have hnn := HN.out
      have hbb := HB.out
      have hj := pjoin_any A7 c7 W7.heap.size zs W7 HS7.out (Nat.le_refl _) (by omega) (by have := N30.out; omega)
      rw [hnn] at hj
      have HJ := Lib.hid hj
      clear hj
      refine HJ.out.mono ?_
      rintro e W8 ⟨rfl, hb8⟩
      have HB8 := Lib.hid (HB7.out.trans (hb8.mono HB7.out.size))
      clear hb8
      have hlj := ljoin_any A c w.heap.size zs W8 (HSL.out.below HB8.out) (by omega) (by have := N30.out; omega)
      rw [hnn] at hlj
      have HLJ := Lib.hid hlj
      clear hlj hnn hbb
      go_wp2_with fail
      refine HLJ.out.mono ?_
      rintro e W9 ⟨⟨t9, rfl, ht9⟩, rfl⟩
      have hts : t9.size ≤ 1099511627776 := by
        have h1 := joinS_le zs
        rw [← ht9] at h1
        have h2 : t9.data.toList.length = t9.size := by simp
        have := HB.out
        omega
      have q1 : ¬ (9223372036854775807 < (⟨#[47]⟩ : ByteArray).size + t9.size) := by show ¬ (_ < 1 + _); omega
      have e1 : (⟨(joinP (zs.map (·.data.toList))).toArray⟩ : ByteArray) = (⟨#[47]⟩ : ByteArray) ++ t9 := ByteArray.ext (Array.toList_inj.1 (by
        show joinP _ = _
        rw [joinP_joinS, ← ht9]; simp))
      have e2 : ((⟨(joinP (zs.map (·.data.toList))).toArray⟩ : ByteArray).toList == ((⟨#[47]⟩ : ByteArray) ++ t9).toList) = true := by rw [e1]; simp
      have e3 : (⟨(joinP (zs.map (·.data.toList))).toArray⟩ : ByteArray).toList = ((⟨#[47]⟩ : ByteArray) ++ t9).toList := by rw [e1]
      clear ht9 hts
      go_wp2_with fail
      go_ret
      exact ⟨rfl, HB8.out⟩
end Go.Proofs.YtdekpjagkhdfcaaDoor
