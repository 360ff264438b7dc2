/- path.Split. -/
import Derived.Test.YtjkilpjdgjijiaaDoorPathC
namespace Go.Proofs.YtjkilpjdgjijiaaDoor
open Go.RowKit
set_option linter.unusedVariables false

theorem parts_count : ∀ (n : Nat) (l : List UInt8), l.length ≤ n → (parts l).length = Lib.count l [47] + 1
  | n, l, hn => by
    by_cases hm : Lib.index l [47] = -1
    · have h2 : (47 : UInt8) ∉ l := by
        refine (ixb_neg l 47).1 ?_
        rw [← index_one, hm]
        decide
      rw [Lib.count_miss hm, parts_none l h2]
      rfl
    · have hge := Lib.indexByte_ge l 47
      rw [index_one] at hm
      obtain ⟨i, hi⟩ : ∃ i : Nat, Lib.indexByte l 47 = i := ⟨(Lib.indexByte l 47).toNat, by omega⟩
      obtain ⟨h1, h2⟩ := ixb_split hi
      have hix : Lib.index l [47] = i := by rw [index_one]; exact hi
      have hlt : i < l.length := by
        have h4 := congrArg List.length h1
        simp at h4
        omega
      cases n with
      | zero => omega
      | succ n =>
        have ih := parts_count n (l.drop (i + 1)) (by rw [List.length_drop]; omega)
        have hc := Lib.count_hit (s := l) (sub := [47]) (i := i) (by simp) hix
        have e1 : ([47] : List UInt8).length = 1 := rfl
        rw [e1] at hc
        rw [hc]
        conv => lhs; rw [h1]
        rw [parts_app _ _ h2, List.length_cons, ih]
        omega

/-- The strings of a path. -/
def strs (s : ByteArray) : List ByteArray := Lib.splitB ⟨#[47]⟩ 0 (Lib.countB (s.extract 1 s.size) ⟨#[47]⟩) (s.extract 1 s.size)
theorem ext_tail (s : ByteArray) : (s.extract 1 s.size).data.toList = s.data.toList.tail := by
  have := Lib.extract_to_end s 1
  rw [this]
  simp
theorem strs_data (s : ByteArray) : (strs s).map (·.data.toList) = parts s.data.toList.tail := by
  unfold strs
  rw [Lib.splitB_data, ext_tail]
  have : Lib.countB (s.extract 1 s.size) ⟨#[47]⟩ = Lib.count s.data.toList.tail [47] := by
    show Lib.count _ _ = _
    rw [ext_tail]
  rw [this]
  exact split_parts _ _ (Nat.le_refl _)
theorem strs_len (s : ByteArray) : (strs s).length = Lib.countB (s.extract 1 s.size) ⟨#[47]⟩ + 1 := by
  have h1 := congrArg List.length (strs_data s)
  rw [List.length_map] at h1
  rw [h1, parts_count _ _ (Nat.le_refl _)]
  show _ = Lib.count _ _ + 1
  rw [ext_tail]
theorem strs_bad (s : ByteArray) : (strs s).any badS = !((parts s.data.toList.tail).all isNm) := by
  rw [← strs_data]
  induction strs s with
  | nil => rfl
  | cons a l ih => simp only [List.any_cons, List.map_cons, List.all_cons, ih, badS, Bool.not_and]

theorem le_total {p : List UInt8} : ∀ {l : List (List UInt8)}, p ∈ l → p.length + 1 ≤ (l.map (fun p => p.length + 1)).sum
  | q :: l, h => by
    rw [List.map_cons, List.sum_cons]
    rcases List.mem_cons.1 h with rfl | h
    · omega
    · have := le_total h
      omega

/-- What path.Split answers. -/
def Splits (l : List UInt8) (n0 : Nat) (e : Ending) (w' : World) : Prop :=
  match pathOf l with
  | none => e = .returned (.tuple #[.slice none 0 0, .int .i64 20])
  | some ns => ∃ (A : Option Addr) (c : Nat) (zs : List ByteArray), e = .returned (.tuple #[.slice A zs.length c, .int .i64 0]) ∧ zs.map (·.data.toList) = ns ∧ Sl w' w'.heap.size A (zs.map Value.string) ∧ zs.length ≤ c

theorem splits_none {l : List UInt8} {n0 : Nat} {w' : World} (h : pathOf l = none) : Splits l n0 (.returned (.tuple #[.slice none 0 0, .int .i64 20])) w' := by
  unfold Splits; rw [h]
theorem splits_root {l : List UInt8} {n0 : Nat} {w' : World} (h : l = [47]) : Splits l n0 (.returned (.tuple #[.slice none 0 0, .int .i64 0])) w' := by
  unfold Splits pathOf; rw [if_pos h]
  exact ⟨none, 0, [], rfl, rfl, Sl.nil, Nat.le_refl _⟩
theorem splits_some {l : List UInt8} {n0 n : Nat} {w' : World} {A : Option Addr} {c : Nat} {zs : List ByteArray} (h : pathOf l = some (zs.map (·.data.toList))) (hn : n = zs.length) (hs : Sl w' w'.heap.size A (zs.map Value.string)) (hc : n ≤ c) :
    Splits l n0 (.returned (.tuple #[.slice A n c, .int .i64 0])) w' := by
  subst hn
  unfold Splits; rw [h]
  exact ⟨A, c, zs, rfl, rfl, hs, hc⟩

set_option maxRecDepth 100000 in
set_option maxHeartbeats 2000000 in
theorem split_any (s : ByteArray) (m : Int) (w : World) (hs : s.size ≤ maxLen) (hm : w.cell? ⟨1, 0, none⟩ = some (.int .i64 m)) :
    Calls Tryd.prog 61 #[.string s] w fun e w' => Splits s.data.toList w.heap.size e w' ∧ Below w.heap.size w w' := by
  have HS := Lib.hid hs
  have HM := Lib.hid hm
  clear hm
  unfold maxLen at hs
  have hz : s.data.toList.length = s.size := by simp
  by_cases p0 : s.data.toList = [47]
  · have p1 : s.toList = [47] := by rw [Lib.toList_data]; exact p0
    have HP := Lib.hid (splits_root (n0 := w.heap.size) (w' := w) p0)
    clear p0 hz
    go_enter Tryd.func61, Tryd.ntmps61
    go_wp2
    go_ret2
    exact ⟨HP.out, Below.refl _ _⟩
  have p1 : ¬ s.toList = [47] := by rw [Lib.toList_data]; exact p0
  have p2 : (s.toList == [47]) = false := by simpa using p1
  have P0 := Lib.hid p0
  clear p0
  by_cases h0 : 136 < s.size
  · have h1 : ((136 : Int) < (s.size : Int)) := by omega
    have hp : pathOf s.data.toList = none := by
      unfold pathOf
      rw [if_neg P0.out]
      by_cases h : s.data.toList.head? ≠ some 47
      · rw [if_pos h]
      · rw [if_neg h, if_neg]
        intro h
        have := path_short h
        omega
    have HP := Lib.hid (splits_none (n0 := w.heap.size) (w' := w) hp)
    clear hp hz h0
    go_enter Tryd.func61, Tryd.ntmps61
    go_wp2
    go_ret2
    exact ⟨HP.out, Below.refl _ _⟩
  have h1 : ¬ ((136 : Int) < (s.size : Int)) := by omega
  by_cases h2 : Lib.hasPrefix s.data.toList [47] = true
  · have hd : s.data.toList.head? = some 47 := by
      cases hl : s.data.toList with
      | nil => rw [hl] at h2; simp [Lib.hasPrefix] at h2
      | cons a l => rw [hl] at h2; simp [Lib.hasPrefix] at h2; simp [h2]
    have h1' : 1 ≤ s.size := by
      cases hl : s.data.toList with
      | nil => rw [hl] at hd; cases hd
      | cons a l => rw [hl] at hz; simp at hz; omega
    have hle : (s.extract 1 s.size).size ≤ s.size := by simp
    have SL := Lib.hid (strs_len s)
    have hps : pathOf s.data.toList = if (strs s).length ≤ 8 ∧ (strs s).any badS = false then some ((strs s).map (·.data.toList)) else none := by
      unfold pathOf
      rw [if_neg P0.out, if_neg (by rw [hd]; simp), strs_bad, strs_data]
      have : (parts s.data.toList.tail).length = (strs s).length := by rw [← strs_data, List.length_map]
      rw [this]
      simp
    have HPS := Lib.hid hps
    have hzs : Hid (∀ z ∈ strs s, z.size ≤ maxLen) := by
      show ∀ z ∈ strs s, z.size ≤ maxLen
      intro z hz'
      have h5 : (z.data.toList).length + 1 ≤ ((parts s.data.toList.tail).map (fun p => p.length + 1)).sum := by
        rw [← strs_data]
        exact le_total (List.mem_map.2 ⟨z, hz', rfl⟩)
      rw [parts_len, List.length_tail] at h5
      have : z.data.toList.length = z.size := by simp
      unfold maxLen
      omega
    clear hps hd
    have HL : Hid ((s.extract 1 s.size).size < 4294967281) := by show _ < _; omega
    clear hle hz
    go_enter Tryd.func61, Tryd.ntmps61
    go_wp2_with fail
    refine (Tryd.strings_HasPrefix s ⟨#[47]⟩ w).mono ?_
    rintro e w' ⟨rfl, rfl⟩
    go_wp2_with fail
    refine (Tryd.strings_Split (s.extract 1 s.size) ⟨#[47]⟩ m w' HL.out HM.out (by decide)).mono ?_
    rintro e w2 ⟨rfl, rfl⟩
    have hb : Blk (w'.alloc (.cells ((strs s).map Value.string).toArray 9)) w'.heap.size ((strs s).map Value.string).toArray := Blk.new w' _ 9
    have HB := Lib.hid hb
    have hgr : Hid (Below w'.heap.size w' (w'.alloc (.cells ((strs s).map Value.string).toArray 9))) := (Below.refl _ _).alloc (Nat.le_refl _) _
    have e1 : Lib.countB (s.extract 1 s.size) ⟨#[47]⟩ + 1 = (strs s).length := SL.out.symm
    rw [show Lib.splitB ⟨#[47]⟩ 0 (Lib.countB (s.extract 1 s.size) ⟨#[47]⟩) (s.extract 1 s.size) = strs s from rfl, e1]
    have hcl : ∀ j, j < (strs s).length → (w'.alloc (.cells ((strs s).map Value.string).toArray 9)).cell? ⟨w'.heap.size, j, none⟩ = some (.string (strs s)[j]!) := by
      intro j hj
      have := hb.cell j
      rw [this]
      simp [hj]
    have HC := Lib.hid hcl
    clear hb hcl e1
    have HZ := Lib.hid (strs_len s)
    obtain ⟨zs, hzs'⟩ : ∃ zs, strs s = zs := ⟨_, rfl⟩
    rw [hzs'] at HB hgr HC HPS hzs ⊢
    obtain ⟨w2, hw2⟩ : ∃ w2, w'.alloc (.cells (zs.map Value.string).toArray 9) = w2 := ⟨_, rfl⟩
    rw [hw2] at HB hgr HC ⊢
    clear hzs' hw2 HZ SL
    obtain ⟨n, hn⟩ : ∃ n, zs.length = n := ⟨_, rfl⟩
    have HN := Lib.hid hn
    rw [hn]
    by_cases h8 : 8 < n
    · have h3 : ((8 : Int) < (n : Int)) := by omega
      have hp : pathOf s.data.toList = none := by rw [HPS.out, if_neg]; omega
      have HP := Lib.hid (splits_none (n0 := w'.heap.size) (w' := w2) hp)
      clear hp h8 hn
      go_wp2
      go_ret2
      exact ⟨HP.out, hgr.out⟩
    · have h3 : ¬ ((8 : Int) < (n : Int)) := by omega
      have HCB := Lib.hid (contains_bad w'.heap.size n n zs w2 hn (by omega) HC.out hzs.out)
      clear h8 hn
      go_wp2_with fail
      refine HCB.out.mono ?_
      rintro e w3 ⟨rfl, q, rfl⟩
      obtain ⟨r, hr⟩ : ∃ r, zs.any badS = r := ⟨_, rfl⟩
      have HR := Lib.hid hr
      rw [hr]
      clear hr
      cases r with
      | true =>
        have hp : pathOf s.data.toList = none := by rw [HPS.out, HR.out]; simp
        have HP := Lib.hid (splits_none (n0 := w'.heap.size) (w' := w2.drewN q) hp)
        clear hp
        go_wp2
        go_ret2
        exact ⟨HP.out, bdrewN hgr.out q⟩
      | false =>
        have hp : pathOf s.data.toList = some (zs.map (·.data.toList)) := by
          rw [HPS.out, HR.out, if_pos ⟨by have := HN.out; omega, rfl⟩]
        have HP := Lib.hid (splits_some (n0 := w'.heap.size) (w' := w2.drewN q) (A := some ⟨w'.heap.size, 0, none⟩) (c := n) hp HN.out.symm (Sl.drewN (.inr ⟨_, _, rfl, HB.out.lt, fun k v hk => by
          rw [Nat.zero_add]; rw [HB.out.cell k]; simpa using hk⟩) q) (Nat.le_refl _))
        clear hp
        go_wp2
        go_ret2
        exact ⟨HP.out, bdrewN hgr.out q⟩
  · have hp : pathOf s.data.toList = none := by
      unfold pathOf
      rw [if_neg P0.out, if_pos]
      intro h
      cases hl : s.data.toList with
      | nil => rw [hl] at h; cases h
      | cons a l => rw [hl] at h h2; simp at h; exact h2 (by simp [Lib.hasPrefix, h])
    have h2' : Lib.hasPrefix s.data.toList [47] = false := by simpa using h2
    have HP := Lib.hid (splits_none (n0 := w.heap.size) (w' := w) hp)
    clear hp hz h2 h0
    go_enter Tryd.func61, Tryd.ntmps61
    go_wp2_with fail
    refine (Tryd.strings_HasPrefix s ⟨#[47]⟩ w).mono ?_
    rintro e w' ⟨rfl, rfl⟩
    go_wp2
    go_ret2
    exact ⟨HP.out, Below.refl _ _⟩
end Go.Proofs.YtjkilpjdgjijiaaDoor
