/- tidelinelaw05.great: what it says no to is small. call.first, call.Stream; tidelineref05.Stream. tidelineref05.Stream. -/
import Derived.Test.YtjkilpjdgjijiaaDoorCqS
import Derived.Test.YtjkilpjdgjijiaaDoorCsum
import Derived.Deep.CutRange
namespace Go.Proofs.YtjkilpjdgjijiaaDoor
open Go.RowKit
set_option linter.unusedVariables false
attribute [local go_sem] Oper.semAt_some

/-- What great lets through. -/
structure Small (x : Cq) (y : An) (b : List UInt8) : Prop where
  p : x.p.size ≤ 400
  o : x.o.size ≤ 400
  d : x.d.length ≤ 5000
  a : y.d.length ≤ 5000
  n : y.ns.length ≤ 70
  b : b.length ≤ 12000
  ns : ∀ s ∈ y.ns, s.size ≤ 400
def GreatC (x : Cq) (y : An) (b : List UInt8) (e : Ending) : Prop := ∃ r, e = .returned (.bool r) ∧ (r = false → Small x y b)
set_option maxRecDepth 100000 in
set_option maxHeartbeats 8000000 in
theorem great_call (x : Cq) (y : An) (b : List UInt8) (A1 A2 A3 A4 : Option Addr) (c1 c2 c3 c4 B : Nat) (w : World) (h3 : Sl w B A3 (y.ns.map Value.string)) (hB : B ≤ w.heap.size) :
    Calls Tryd.prog 7 #[x.val A1 c1, y.val A2 c2 A3 c3, .slice A4 b.length c4] w fun e w' => GreatC x y b e ∧ Below w.heap.size w w' := by
  have HR : Hid (∀ p : Small x y b, Small x y b) := Lib.hid (fun h => h)
  have HSM : Hid (∀ _ : Unit, x.p.size ≤ 400 → x.o.size ≤ 400 → x.d.length ≤ 5000 → y.d.length ≤ 5000 → y.ns.length ≤ 70 → b.length ≤ 12000 → (∀ s ∈ y.ns, s.size ≤ 400) → GreatC x y b (.returned (.bool false))) := Lib.hid (fun _ a1 a2 a3 a4 a5 a6 a7 => ⟨false, rfl, fun _ => ⟨a1, a2, a3, a4, a5, a6, a7⟩⟩)
  have HTR : Hid (GreatC x y b (.returned (.bool true))) := Lib.hid ⟨true, rfl, fun h => by cases h⟩
  obtain ⟨G, hG⟩ : ∃ G, GreatC x y b = G := ⟨_, rfl⟩
  rw [hG] at HSM HTR ⊢
  clear hG HR
  obtain ⟨bl, hbl⟩ : ∃ n, b.length = n := ⟨_, rfl⟩
  rw [hbl] at HSM ⊢
  obtain ⟨x1, x2, x3, x4, x5, x6⟩ := x
  obtain ⟨y1, y2, y3, y4, y5, y6⟩ := y
  replace h3 : Sl w B A3 (y6.map Value.string) := h3
  obtain ⟨nn, hnn⟩ : ∃ n, y6.length = n := ⟨_, rfl⟩
  obtain ⟨l6, hl6⟩ : ∃ n, x6.length = n := ⟨_, rfl⟩
  obtain ⟨l5, hl5⟩ : ∃ n, y5.length = n := ⟨_, rfl⟩
  have HNN := Lib.hid hnn
  have HSM : Hid (x2.size ≤ 400 → x3.size ≤ 400 → l6 ≤ 5000 → l5 ≤ 5000 → nn ≤ 70 → bl ≤ 12000 → (∀ s ∈ y6, s.size ≤ 400) → G (.returned (.bool false))) := Lib.hid (fun a1 a2 a3 a4 a5 a6 a7 => HSM.out () a1 a2 (by rw [← hl6] at a3; exact a3) (by rw [← hl5] at a4; exact a4) (by rw [← hnn] at a5; exact a5) a6 a7)
  show Calls _ _ #[.agg #[.int .i64 x1, .string x2, .string x3, .int .i64 x4, .int .i64 x5, .slice A1 x6.length c1], .agg #[.int .i64 y1, .int .i64 y2, .int .i64 y3, .int .i64 y4, .slice A2 y5.length c2, .slice A3 y6.length c3], .slice A4 bl c4] w _
  rw [hnn, hl6, hl5]
  have HB2 : Hid (Below w.heap.size w ((w.alloc (.cells #[.int .i64 x1, .string x2, .string x3, .int .i64 x4, .int .i64 x5, .slice A1 l6 c1] 26)).alloc (.cells #[.int .i64 y1, .int .i64 y2, .int .i64 y3, .int .i64 y4, .slice A2 l5 c2, .slice A3 nn c3] 30))) := ((Below.refl _ _).alloc (Nat.le_refl _) _).alloc (by simp) _
  have HS3 := Lib.hid (h3.below (HB2.out.mono hB))
  clear hnn hl6 hl5 hbl h3
  by_cases t0 : (400 : Int) < (x2.size : Int)
  · go_enter Tryd.func7, Tryd.ntmps7
    go_wp2_with fail
    go_ret
    exact ⟨HTR.out, HB2.out⟩
  by_cases t1 : (400 : Int) < (x3.size : Int)
  · go_enter Tryd.func7, Tryd.ntmps7
    go_wp2_with fail
    go_ret
    exact ⟨HTR.out, HB2.out⟩
  by_cases t2 : (5000 : Int) < (l6 : Int)
  · go_enter Tryd.func7, Tryd.ntmps7
    go_wp2_with fail
    go_ret
    exact ⟨HTR.out, HB2.out⟩
  by_cases t3 : (5000 : Int) < (l5 : Int)
  · go_enter Tryd.func7, Tryd.ntmps7
    go_wp2_with fail
    go_ret
    exact ⟨HTR.out, HB2.out⟩
  by_cases t4 : (70 : Int) < (nn : Int)
  · go_enter Tryd.func7, Tryd.ntmps7
    go_wp2_with fail
    go_ret
    exact ⟨HTR.out, HB2.out⟩
  by_cases t5 : (12000 : Int) < (bl : Int)
  · go_enter Tryd.func7, Tryd.ntmps7
    go_wp2_with fail
    go_ret
    exact ⟨HTR.out, HB2.out⟩
  have HLIM : Hid (x2.size ≤ 400 ∧ x3.size ≤ 400 ∧ l6 ≤ 5000 ∧ l5 ≤ 5000 ∧ nn ≤ 70 ∧ bl ≤ 12000) := Lib.hid ⟨by omega, by omega, by omega, by omega, by omega, by omega⟩
  go_enter Tryd.func7, Tryd.ntmps7
  go_wp2_with fail
  obtain ⟨W1, hW1⟩ : ∃ X, (w.alloc (.cells #[.int .i64 x1, .string x2, .string x3, .int .i64 x4, .int .i64 x5, .slice A1 l6 c1] 26)).alloc (.cells #[.int .i64 y1, .int .i64 y2, .int .i64 y3, .int .i64 y4, .slice A2 l5 c2, .slice A3 nn c3] 30) = X := ⟨_, rfl⟩
  rw [hW1] at HB2 HS3 ⊢
  clear hW1
  go_loopw [45] (fun s wr => ∃ (i : Nat), i ≤ nn ∧ s = .int .i64 (i : Int) ∧ wr = W1 ∧ Hid (∀ s ∈ y6.take i, s.size ≤ 400)) (fun s _ => nn - (intOf s).toNat)
  case atStart => exact ⟨0, Nat.zero_le _, rfl, rfl, by simp [Hid]⟩
  case round =>
    obtain ⟨i, hi, rfl, rfl, HS⟩ := hrel
    by_cases hlt : i < nn
    · have hi1 : (i : Int) < (nn : Int) := by omega
      have hil : i < y6.length := by rw [HNN.out]; exact hlt
      obtain ⟨b1, o1, rfl, hb1, hc1⟩ := HS3.out.at (k := i) (by simpa using hil)
      have e1 : (y6.map Value.string)[i]'(by simpa using hil) = .string y6[i] := by simp
      rw [e1] at hc1
      have HTK : Hid (y6.take (i + 1) = y6.take i ++ [y6[i]]) := List.take_succ_eq_append_getElem hil
      obtain ⟨z, hz⟩ : ∃ z, y6[i] = z := ⟨_, rfl⟩
      rw [hz] at hc1 HTK
      clear e1 hz
      by_cases h12 : (400 : Int) < (z.size : Int)
      · go_wp2_with fail
        go_ret
        exact ⟨HTR.out, HB2.out⟩
      · have HZ : Hid (z.size ≤ 400) := by show _ ≤ _; omega
        go_wp2_with fail
        go_roundw
        case rel =>
          refine ⟨i + 1, by omega, by go_num, by trivial, ?_⟩
          show ∀ r ∈ _, _
          intro r hr
          rw [HTK.out] at hr
          rcases List.mem_append.1 hr with hr | hr
          · exact HS.out r hr
          · rw [List.mem_singleton.1 hr]
            exact HZ.out
        case measure => simp [intOf]; omega
    · obtain rfl : i = nn := by omega
      have hend : ¬ ((i : Int) < (i : Int)) := by omega
      go_wp2_with fail
      go_ret
      have h := HS.out
      rw [List.take_of_length_le (Nat.le_of_eq HNN.out)] at h
      obtain ⟨a1, a2, a3, a4, a5, a6⟩ := HLIM.out
      exact ⟨HSM.out a1 a2 a3 a4 a5 a6 h, HB2.out⟩
end Go.Proofs.YtjkilpjdgjijiaaDoor
namespace Go.Proofs.YtjkilpjdgjijiaaDoor
open Go.RowKit
set_option linter.unusedVariables false
attribute [local go_sem] Oper.semAt_some

/-- The first name of a path that has one. -/
def firstOf (s : ByteArray) : Option ByteArray := (pathOf s.data.toList).bind fun ns => ns.head?.map bstr
theorem first_none {s : ByteArray} (h : pathOf s.data.toList = none) : firstOf s = none := by unfold firstOf; rw [h]; rfl
theorem first_root {s : ByteArray} (h : pathOf s.data.toList = some []) : firstOf s = none := by unfold firstOf; rw [h]; rfl
theorem first_some {s z : ByteArray} {zs : List ByteArray} {ns : List (List UInt8)} (h : pathOf s.data.toList = some ns) (hz : (z :: zs).map (·.data.toList) = ns) : firstOf s = some z := by
  unfold firstOf
  rw [h, ← hz]
  rfl
theorem mem_le_sum : ∀ (l : List Nat) (x : Nat), x ∈ l → x ≤ l.sum
  | [], x, h => by cases h
  | y :: l, x, h => by
    rw [List.sum_cons]
    rcases List.mem_cons.1 h with rfl | h
    · omega
    · have := mem_le_sum l x h
      omega
theorem part_le : ∀ (l : List UInt8), ∀ p ∈ parts l, p.length ≤ l.length := by
  intro l p hp
  have h := parts_len l
  have h2 : p.length + 1 ≤ ((parts l).map (fun p => p.length + 1)).sum := mem_le_sum _ _ (List.mem_map.2 ⟨p, hp, rfl⟩)
  omega
theorem first_size {s z : ByteArray} (h : firstOf s = some z) : z.size ≤ s.size := by
  unfold firstOf at h
  cases hp : pathOf s.data.toList with
  | none => rw [hp] at h; cases h
  | some ns =>
    rw [hp] at h
    cases ns with
    | nil => cases h
    | cons n ns =>
      have hz : bstr n = z := by simpa using h
      have hn : n ∈ parts s.data.toList.tail := by
        unfold pathOf at hp
        split at hp
        · injection hp with hp; cases hp
        · split at hp
          · cases hp
          · split at hp
            · injection hp with hp; rw [hp]; simp
            · cases hp
      have := part_le _ n hn
      rw [List.length_tail] at this
      have e1 : z.size = n.length := by rw [← hz]; rfl
      have e2 : s.data.toList.length = s.size := rfl
      omega
/-- A call's stream. -/
def sumOf (n : ByteArray) : Int := 1 + (more 0 n.data.toList : Int) % 7
def streamP (x : Cq) : Int :=
  if x.k = 12 then 0 else
    match firstOf x.p with
    | none => 0
    | some n => if x.k = 5 ∨ x.k = 6 then (if firstOf x.o = some n then sumOf n else 0) else sumOf n

/-- What first gives. -/
def FirstR (o : Option ByteArray) (e : Ending) : Prop := e = .returned (.tuple #[.string (o.getD ⟨#[]⟩), .bool o.isSome])
set_option maxRecDepth 100000 in
set_option maxHeartbeats 2000000 in
theorem first_any5 (s : ByteArray) (m : Int) (w : World) (hs : s.size ≤ 1000000) (hm : w.cell? ⟨1, 0, none⟩ = some (.int .i64 m)) :
    Calls Tryd.prog 49 #[.string s] w fun e w' => FirstR (firstOf s) e ∧ Below w.heap.size w w' := by
  have HSP := Lib.hid (split_any s m w (by unfold maxLen; omega) hm)
  obtain ⟨G, hG⟩ : ∃ G, FirstR (firstOf s) = G := ⟨_, rfl⟩
  have HG := Lib.hid hG
  rw [hG]
  clear hG hm
  go_enter Tryd.func49, Tryd.ntmps49
  go_wp2_with fail
  refine HSP.out.mono ?_
  rintro e w1 ⟨hsp, hb⟩
  have HB := Lib.hid hb
  clear hb
  cases hp : pathOf s.data.toList with
  | none =>
    unfold Splits at hsp
    rw [hp] at hsp
    have hsp : e = .returned (.tuple #[.slice none 0 0, .int .i64 20]) := hsp
    subst hsp
    have HGG : Hid (G (.returned (.tuple #[.string ⟨#[]⟩, .bool false]))) := Lib.hid (by rw [← HG.out, first_none hp]; rfl)
    clear hp
    go_wp2
    go_ret2
    exact ⟨HGG.out, HB.out⟩
  | some ns =>
    unfold Splits at hsp
    rw [hp] at hsp
    obtain ⟨A, c, zs, rfl, hz, hsl, hc⟩ := hsp
    cases zs with
    | nil =>
      have HGG : Hid (G (.returned (.tuple #[.string ⟨#[]⟩, .bool false]))) := Lib.hid (by
        have : ns = [] := hz.symm
        subst this
        rw [← HG.out, first_root hp]; rfl)
      clear hp hz hsl hc
      go_wp2
      go_ret2
      exact ⟨HGG.out, HB.out⟩
    | cons z zs =>
      have HGG : Hid (G (.returned (.tuple #[.string z, .bool true]))) := Lib.hid (by rw [← HG.out, first_some hp hz]; rfl)
      obtain ⟨b1, o1, rfl, hb1, hc1⟩ := hsl.at (k := 0) (by simp)
      replace hc1 : w1.cell? ⟨b1, o1 + 0, none⟩ = some (.string z) := hc1
      rw [Nat.add_zero] at hc1
      obtain ⟨n, hn⟩ : ∃ n, (z :: zs).length = n := ⟨_, rfl⟩
      have hn0 : (0 : Int) < (n : Int) := by rw [← hn, List.length_cons]; omega
      have hn1 : ¬ n = 0 := by omega
      rw [hn]
      clear hp hz hsl hc hn
      go_wp2
      go_ret2
      exact ⟨HGG.out, HB.out⟩

theorem pair_ret {a b : Value} {c d : Value} (h1 : a = c) (h2 : b = d) : Ending.returned (.tuple #[a, b]) = .returned (.tuple #[c, d]) := by rw [h1, h2]
/-- A name's number, in the walk: the bytes are laid in a block of their own. -/
theorem sum_text (z : ByteArray) (l : List UInt8) (hl : z.data.toList = l) (hz : z.size ≤ 1000000) (w : World) (hT : Tab w) :
    Calls Tryd.prog 50 #[.slice (some ⟨w.heap.size, 0, none⟩) l.length (sbC w z)] (sbW w z) fun e w' => e = .returned (.int .u32 (more 0 l : Int)) ∧ w' = sbW w z :=
  sum_any _ _ _ l _ (hT.below hT.1 (sb_below w z)) (sb_mk w z l hl).sl (by rw [← hl, size_list]; unfold maxLen; omega)
theorem rsum_text (z : ByteArray) (l : List UInt8) (hl : z.data.toList = l) (hz : z.size ≤ 1000000) (w : World) :
    Calls Tryd.prog 52 #[.slice (some ⟨w.heap.size, 0, none⟩) l.length (sbC w z)] (sbW w z) fun e w' => e = .returned (.int .u32 (more 0 l : Int)) ∧ w' = sbW w z :=
  rsum_any _ _ _ l _ (sb_mk w z l hl).sl (by rw [← hl, size_list]; omega)

set_option maxRecDepth 100000 in
set_option maxHeartbeats 8000000 in
theorem stream_any (x : Cq) (A1 : Option Addr) (c1 : Nat) (m : Int) (w : World) (hT : Tab w) (hp : x.p.size ≤ 1000000) (ho : x.o.size ≤ 1000000) (hm : w.cell? ⟨1, 0, none⟩ = some (.int .i64 m)) (hg : 1 < w.heap.size) :
    Calls Tryd.prog 19 #[x.val A1 c1] w fun e w' => e = .returned (.int .i64 (streamP x)) ∧ Below w.heap.size w w' := by
  obtain ⟨R, hR⟩ : ∃ R, streamP x = R := ⟨_, rfl⟩
  have HR := Lib.hid hR
  rw [hR]
  clear hR
  obtain ⟨x1, x2, x3, x4, x5, x6⟩ := x
  have hp : x2.size ≤ 1000000 := hp
  have ho : x3.size ≤ 1000000 := ho
  obtain ⟨q, hq⟩ : ∃ q, x6.length = q := ⟨_, rfl⟩
  show Calls _ _ #[.agg #[.int .i64 x1, .string x2, .string x3, .int .i64 x4, .int .i64 x5, .slice A1 x6.length c1]] w _
  rw [hq]
  clear hq
  have hbx := Blk.new w #[.int .i64 x1, .string x2, .string x3, .int .i64 x4, .int .i64 x5, .slice A1 q c1] 26
  have hB0 : Below w.heap.size w (w.alloc (.cells #[.int .i64 x1, .string x2, .string x3, .int .i64 x4, .int .i64 x5, .slice A1 q c1] 26)) := (Below.refl _ _).alloc (Nat.le_refl _) _
  have HBX := Lib.hid hbx
  have HB0 := Lib.hid hB0
  have HF := Lib.hid (first_any5 x2 m _ hp ((hB0.cell (p := ⟨1, 0, none⟩) hg).trans hm))
  have HFO : Hid (∀ W, Below w.heap.size w W → Calls Tryd.prog 49 #[.string x3] W fun e w' => FirstR (firstOf x3) e ∧ Below W.heap.size W w') := Lib.hid (fun W hb => first_any5 x3 m W ho ((hb.cell (p := ⟨1, 0, none⟩) hg).trans hm))
  have HSZ : Hid (∀ z, firstOf x2 = some z → z.size ≤ 1000000) := Lib.hid (fun z hz => Nat.le_trans (first_size hz) hp)
  have HT := Lib.hid hT
  clear hbx hB0 hm hT hp ho
  by_cases t1 : x1 = 12
  · have HR0 : Hid (R = 0) := Lib.hid (by rw [← HR.out]; unfold streamP; rw [if_pos t1])
    subst t1
    go_enter Tryd.func19, Tryd.ntmps19
    go_wp2_with fail
    go_ret
    exact ⟨ret_int HR0.out.symm, HB0.out⟩
  go_enter Tryd.func19, Tryd.ntmps19
  go_wp2_with fail
  refine HF.out.mono ?_
  rintro e w1 ⟨hfr, hb1⟩
  have HB1 := Lib.hid (HB0.out.trans (hb1.mono HB0.out.size))
  have hbx1 := HBX.out.belowAll hb1
  have hc1 := hbx1.cell
  have hl1 := hbx1.lt
  have HBX1 := Lib.hid hbx1
  clear hb1 hbx1
  cases hf : firstOf x2 with
  | none =>
    rw [hf] at hfr
    have hfr : e = .returned (.tuple #[.string ⟨#[]⟩, .bool false]) := hfr
    subst hfr
    have hR0 : R = 0 := by rw [← HR.out]; unfold streamP; rw [if_neg t1]; dsimp only; rw [hf]
    have HR0 := Lib.hid hR0
    clear hR0 hf
    go_wp2_with fail
    go_ret
    exact ⟨ret_int HR0.out.symm, HB1.out⟩
  | some z =>
    rw [hf] at hfr
    have hfr : e = .returned (.tuple #[.string z, .bool true]) := hfr
    subst hfr
    have hzs := HSZ.out z hf
    obtain ⟨l, hl⟩ : ∃ l, z.data.toList = l := ⟨_, rfl⟩
    have hcv := sb_run z l hl
    obtain ⟨mm, hmm⟩ : ∃ k, more 0 l = k := ⟨_, rfl⟩
    have hml : mm < 4294967296 := by rw [← hmm]; exact more_lt 0 l
    have HSUM : Hid (∀ W, Below w.heap.size w W → Calls Tryd.prog 50 #[.slice (some ⟨W.heap.size, 0, none⟩) l.length (sbC W z)] (sbW W z) fun e w' => e = .returned (.int .u32 (mm : Int)) ∧ w' = sbW W z) := Lib.hid (fun W hb => by
      rw [← hmm]
      exact sum_text z l hl hzs W (HT.out.below HT.out.1 hb))
    have HSO : Hid (sumOf z = 1 + (mm : Int) % 7) := Lib.hid (by unfold sumOf; rw [hl, hmm])
    have hr0 : R = if x1 = 5 ∨ x1 = 6 then (if firstOf x3 = some z then sumOf z else 0) else sumOf z := by
      rw [← HR.out]; unfold streamP; rw [if_neg t1]; dsimp only; rw [hf]
    have HR1 := Lib.hid hr0
    clear hf hr0 hl hmm hzs HR
    by_cases t5 : x1 = 5 ∨ x1 = 6
    · have hR2 : Hid (R = if firstOf x3 = some z then sumOf z else 0) := Lib.hid (by rw [HR1.out, if_pos t5])
      have ht : x1 = 5 ∨ (¬ x1 = 5 ∧ x1 = 6) := by omega
      clear t5 t1
      rcases ht with rfl | ⟨t5, rfl⟩
      all_goals
        go_wp2_with fail
        refine (HFO.out w1 HB1.out).mono ?_
        rintro e w2 ⟨hfr2, hb2⟩
        have HB2 := Lib.hid (HB1.out.trans (hb2.mono HB1.out.size))
        clear hb2 hc1
        cases hf2 : firstOf x3 with
        | none =>
          rw [hf2] at hfr2
          have hfr2 : e = .returned (.tuple #[.string ⟨#[]⟩, .bool false]) := hfr2
          subst hfr2
          have HR0 : Hid (R = 0) := Lib.hid (by rw [hR2.out, hf2, if_neg (by simp)])
          clear hf2
          go_wp2_with fail
          go_ret
          exact ⟨ret_int HR0.out.symm, HB2.out⟩
        | some y =>
          rw [hf2] at hfr2
          have hfr2 : e = .returned (.tuple #[.string y, .bool true]) := hfr2
          subst hfr2
          by_cases hyz : y = z
          · subst hyz
            have HR0 : Hid (R = 1 + (mm : Int) % 7) := Lib.hid (by rw [hR2.out, hf2, if_pos rfl, HSO.out])
            clear hf2
            go_wp2_with fail
            refine (HSUM.out w2 HB2.out).mono ?_
            rintro e w3 ⟨rfl, rfl⟩
            go_wp2_with fail
            go_ret
            exact ⟨ret_int (by rw [HR0.out]), HB2.out.trans ((sb_below w2 y).mono HB2.out.size)⟩
          · have q1 := str_ne hyz
            have q2 : (y.toList == z.toList) = false := by simpa using q1
            have HR0 : Hid (R = 0) := Lib.hid (by rw [hR2.out, hf2, if_neg (by simpa using hyz)])
            clear hf2
            go_wp2_with fail
            go_ret
            exact ⟨ret_int HR0.out.symm, HB2.out⟩
    · have HR0 : Hid (R = 1 + (mm : Int) % 7) := Lib.hid (by rw [HR1.out, if_neg t5, HSO.out])
      have t6 : ¬ x1 = 5 := fun h => t5 (.inl h)
      have t7 : ¬ x1 = 6 := fun h => t5 (.inr h)
      have u6 : (x1 == 5) = false := by simpa using t6
      have u7 : (x1 == 6) = false := by simpa using t7
      clear t5
      go_wp2_with fail
      refine (HSUM.out w1 HB1.out).mono ?_
      rintro e w3 ⟨rfl, rfl⟩
      go_wp2_with fail
      go_ret
      exact ⟨ret_int (by rw [HR0.out]), HB1.out.trans ((sb_below w1 z).mono HB1.out.size)⟩
end Go.Proofs.YtjkilpjdgjijiaaDoor
namespace Go.Proofs.YtjkilpjdgjijiaaDoor
open Go.RowKit
set_option linter.unusedVariables false
attribute [local go_sem] Oper.semAt_some

/-- What the document's Split leaves, by the first name. -/
def RFirst (o : Option ByteArray) (e : Ending) (w' : World) : Prop :=
  match o with
  | none => ∃ (A : Option Addr) (n c : Nat) (b : Bool), e = .returned (.tuple #[.slice A n c, .bool b]) ∧ (b = true → n = 0)
  | some z => ∃ (b o : Nat) (n c : Nat), e = .returned (.tuple #[.slice (some ⟨b, o, none⟩) n c, .bool true]) ∧ 0 < n ∧ b < w'.heap.size ∧ w'.cell? ⟨b, o, none⟩ = some (.string z)
theorem rfirst_any5 (s : ByteArray) (w : World) (hs : s.size ≤ 1000000) :
    Calls Tryd.prog 51 #[.string s] w fun e w' => RFirst (firstOf s) e w' ∧ Below w.heap.size w w' := by
  refine (rsplit_any s w (by omega)).mono ?_
  rintro e w1 ⟨hsp, hb⟩
  refine ⟨?_, hb⟩
  cases hp : pathOf s.data.toList with
  | none =>
    unfold RSplits at hsp
    rw [hp] at hsp
    obtain ⟨A, c, rfl⟩ := hsp
    rw [first_none hp]
    exact ⟨A, 0, c, false, rfl, fun h => rfl⟩
  | some ns =>
    unfold RSplits at hsp
    rw [hp] at hsp
    obtain ⟨A, c, zs, rfl, hz, hsl, hc⟩ := hsp
    cases zs with
    | nil =>
      have : ns = [] := hz.symm
      subst this
      rw [first_root hp]
      exact ⟨A, 0, c, true, rfl, fun h => rfl⟩
    | cons z zs =>
      rw [first_some hp hz]
      obtain ⟨b1, o1, rfl, hb1, hc1⟩ := hsl.at (k := 0) (by simp)
      replace hc1 : w1.cell? ⟨b1, o1 + 0, none⟩ = some (.string z) := hc1
      rw [Nat.add_zero] at hc1
      exact ⟨b1, o1, _, c, rfl, by simp, hb1, hc1⟩

set_option maxRecDepth 100000 in
set_option maxHeartbeats 2000000 in
theorem rstream_any (x : Cq) (A1 : Option Addr) (c1 : Nat) (w : World) (hp : x.p.size ≤ 1000000) (ho : x.o.size ≤ 1000000) :
    Calls Tryd.prog 20 #[x.val A1 c1] w fun e w' => e = .returned (.int .i64 (streamP x)) ∧ Below w.heap.size w w' := by
  obtain ⟨R, hR⟩ : ∃ R, streamP x = R := ⟨_, rfl⟩
  have HR := Lib.hid hR
  rw [hR]
  clear hR
  obtain ⟨x1, x2, x3, x4, x5, x6⟩ := x
  have hp : x2.size ≤ 1000000 := hp
  have ho : x3.size ≤ 1000000 := ho
  obtain ⟨q, hq⟩ : ∃ q, x6.length = q := ⟨_, rfl⟩
  show Calls _ _ #[.agg #[.int .i64 x1, .string x2, .string x3, .int .i64 x4, .int .i64 x5, .slice A1 x6.length c1]] w _
  rw [hq]
  clear hq
  have hbx := Blk.new w #[.int .i64 x1, .string x2, .string x3, .int .i64 x4, .int .i64 x5, .slice A1 q c1] 26
  have hB0 : Below w.heap.size w (w.alloc (.cells #[.int .i64 x1, .string x2, .string x3, .int .i64 x4, .int .i64 x5, .slice A1 q c1] 26)) := (Below.refl _ _).alloc (Nat.le_refl _) _
  have HBX := Lib.hid hbx
  have HB0 := Lib.hid hB0
  have HF := Lib.hid (fun W => rfirst_any5 x2 W hp)
  have HFO := Lib.hid (fun W => rfirst_any5 x3 W ho)
  have HSZ : Hid (∀ z, firstOf x2 = some z → z.size ≤ 1000000) := Lib.hid (fun z hz => Nat.le_trans (first_size hz) hp)
  clear hbx hB0 hp ho
  go_enter Tryd.func20, Tryd.ntmps20
  go_wp2_with fail
  refine (HF.out _).mono ?_
  rintro e w1 ⟨hfr, hb1⟩
  have HB1 := Lib.hid (HB0.out.trans (hb1.mono HB0.out.size))
  have hbx1 := HBX.out.belowAll hb1
  have hc1 := hbx1.cell
  have hl1 := hbx1.lt
  have HBX1 := Lib.hid hbx1
  clear hb1 hbx1
  cases hf : firstOf x2 with
  | none =>
    rw [hf] at hfr
    obtain ⟨A, n, c, b, rfl, hbn⟩ := hfr
    have HR0 : Hid (R = 0) := Lib.hid (by rw [← HR.out]; unfold streamP; split; rfl; dsimp only; rw [hf])
    clear hf
    by_cases t1 : x1 = 12
    · subst t1
      go_wp2_with fail
      go_ret
      exact ⟨ret_int HR0.out.symm, HB1.out⟩
    · have u1 : (x1 == 12) = false := by simpa using t1
      cases b with
      | false =>
        go_wp2_with fail
        go_ret
        exact ⟨ret_int HR0.out.symm, HB1.out⟩
      | true =>
        have hn := hbn rfl
        subst hn
        go_wp2_with fail
        go_ret
        exact ⟨ret_int HR0.out.symm, HB1.out⟩
  | some z =>
    rw [hf] at hfr
    obtain ⟨ab, ao, n, c, rfl, hn, hab, hca⟩ := hfr
    have hn1 : ¬ n = 0 := by omega
    have hn2 : (0 : Int) < (n : Int) := by omega
    by_cases t1 : x1 = 12
    · have HR0 : Hid (R = 0) := Lib.hid (by rw [← HR.out]; unfold streamP; rw [if_pos t1])
      subst t1
      clear hf
      go_wp2_with fail
      go_ret
      exact ⟨ret_int HR0.out.symm, HB1.out⟩
    have u1 : (x1 == 12) = false := by simpa using t1
    have hzs := HSZ.out z hf
    obtain ⟨l, hl⟩ : ∃ l, z.data.toList = l := ⟨_, rfl⟩
    have hcv := sb_run z l hl
    obtain ⟨mm, hmm⟩ : ∃ k, more 0 l = k := ⟨_, rfl⟩
    have hml : mm < 4294967296 := by rw [← hmm]; exact more_lt 0 l
    have HSUM : Hid (∀ W : World, Calls Tryd.prog 52 #[.slice (some ⟨W.heap.size, 0, none⟩) l.length (sbC W z)] (sbW W z) fun e w' => e = .returned (.int .u32 (mm : Int)) ∧ w' = sbW W z) := Lib.hid (fun W => by
      rw [← hmm]
      exact rsum_text z l hl hzs W)
    have HSO : Hid (sumOf z = 1 + (mm : Int) % 7) := Lib.hid (by unfold sumOf; rw [hl, hmm])
    have hr0 : R = if x1 = 5 ∨ x1 = 6 then (if firstOf x3 = some z then sumOf z else 0) else sumOf z := by
      rw [← HR.out]; unfold streamP; rw [if_neg t1]; dsimp only; rw [hf]
    have HR1 := Lib.hid hr0
    clear hf hr0 hl hmm hzs HR
    by_cases t5 : x1 = 5 ∨ x1 = 6
    · have hR2 : Hid (R = if firstOf x3 = some z then sumOf z else 0) := Lib.hid (by rw [HR1.out, if_pos t5])
      have ht : x1 = 5 ∨ (¬ x1 = 5 ∧ x1 = 6) := by omega
      clear t5 t1 u1
      rcases ht with rfl | ⟨t5, rfl⟩
      all_goals
        go_wp2_with fail
        refine (HFO.out w1).mono ?_
        rintro e w2 ⟨hfr2, hb2⟩
        have HB2 := Lib.hid (HB1.out.trans (hb2.mono HB1.out.size))
        have hca2 := (hb2.cell (p := ⟨ab, ao, none⟩) hab).trans hca
        clear hb2 hc1 hca
        cases hf2 : firstOf x3 with
        | none =>
          rw [hf2] at hfr2
          obtain ⟨A, k, c', b, rfl, hbn⟩ := hfr2
          have HR0 : Hid (R = 0) := Lib.hid (by rw [hR2.out, hf2, if_neg (by simp)])
          clear hf2
          cases b with
          | false =>
            go_wp2_with fail
            go_quiet (fail)
            go_wp2
            go_ret
            exact ⟨ret_int HR0.out.symm, bdrewN HB2.out _⟩
          | true =>
            have hk := hbn rfl
            subst hk
            go_wp2_with fail
            go_quiet (fail)
            go_wp2
            go_ret
            exact ⟨ret_int HR0.out.symm, bdrewN HB2.out _⟩
        | some y =>
          rw [hf2] at hfr2
          obtain ⟨bb, bo, k, c', rfl, hk, hbb, hcb⟩ := hfr2
          have hk1 : ¬ k = 0 := by omega
          have hk2 : (0 : Int) < (k : Int) := by omega
          by_cases hyz : y = z
          · subst hyz
            have HR0 : Hid (R = 1 + (mm : Int) % 7) := Lib.hid (by rw [hR2.out, hf2, if_pos rfl, HSO.out])
            clear hf2
            go_wp2_with fail
            go_quiet (fail)
            go_wp2_with fail
            refine (HSUM.out (w2.drewN nq)).mono ?_
            rintro e w3 ⟨rfl, rfl⟩
            go_wp2_with fail
            go_ret
            exact ⟨ret_int (by rw [HR0.out]), (bdrewN HB2.out _).trans ((sb_below _ y).mono (bdrewN HB2.out _).size)⟩
          · have q1 := str_ne hyz
            have q2 : (y.toList == z.toList) = false := by simpa using q1
            have HR0 : Hid (R = 0) := Lib.hid (by rw [hR2.out, hf2, if_neg (by simpa using hyz)])
            clear hf2
            go_wp2_with fail
            go_quiet (fail)
            go_wp2
            go_ret
            exact ⟨ret_int HR0.out.symm, bdrewN HB2.out _⟩
    · have HR0 : Hid (R = 1 + (mm : Int) % 7) := Lib.hid (by rw [HR1.out, if_neg t5, HSO.out])
      have t6 : ¬ x1 = 5 := fun h => t5 (.inl h)
      have t7 : ¬ x1 = 6 := fun h => t5 (.inr h)
      have u6 : (x1 == 5) = false := by simpa using t6
      have u7 : (x1 == 6) = false := by simpa using t7
      clear t5
      go_wp2_with fail
      refine (HSUM.out w1).mono ?_
      rintro e w3 ⟨rfl, rfl⟩
      go_wp2_with fail
      go_ret
      exact ⟨ret_int (by rw [HR0.out]), HB1.out.trans ((sb_below w1 z).mono HB1.out.size)⟩
end Go.Proofs.YtjkilpjdgjijiaaDoor
