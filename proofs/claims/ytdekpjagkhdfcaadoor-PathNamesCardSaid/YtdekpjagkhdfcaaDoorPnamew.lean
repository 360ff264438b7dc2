/- PathNames: the walk. -/
import Derived.Test.YtdekpjagkhdfcaaDoorPathK
namespace Go.Proofs.YtdekpjagkhdfcaaDoor
open Go.RowKit
set_option linter.unusedVariables false

theorem cat1 (s : ByteArray) : ((⟨#[47]⟩ : ByteArray) ++ s).data.toList = 47 :: s.data.toList := by simp
theorem cat3 (s : ByteArray) : ((⟨#[47, 97, 47]⟩ : ByteArray) ++ s).data.toList = 47 :: 97 :: 47 :: s.data.toList := by simp
theorem cat1r (s : ByteArray) : (s ++ (⟨#[47]⟩ : ByteArray)).data.toList = s.data.toList ++ [47] := by simp
theorem zs_one {zs : List ByteArray} {s : ByteArray} (h : zs.map (·.data.toList) = [s.data.toList]) : zs = [s] :=
  datas_inj.1 (by simpa using h)
theorem zs_two {zs : List ByteArray} {s : ByteArray} (h : zs.map (·.data.toList) = [[97], s.data.toList]) : zs = [⟨#[97]⟩, s] :=
  datas_inj.1 (by simpa using h)

theorem splits_not {l : List UInt8} {e : Ending} {w' : World} {k : Nat} (h : match pathOf l with
    | none => e = .returned (.tuple #[.slice none 0 0, .int .i64 20])
    | some ns => ∃ (A : Option Addr) (c : Nat) (zs : List ByteArray), e = .returned (.tuple #[.slice A zs.length c, .int .i64 0]) ∧ zs.map (·.data.toList) = ns ∧ Sl w' w'.heap.size A (zs.map Value.string) ∧ zs.length ≤ c)
    (hk : ∀ ns, pathOf l = some ns → ns.length = k → False) : ∃ (A : Option Addr) (n c : Nat) (q : Int), e = .returned (.tuple #[.slice A n c, .int .i64 q]) ∧ ((q = 0 ∧ n ≠ k) ∨ q = 20) := by
  cases hp : pathOf l with
  | none => rw [hp] at h; exact ⟨_, _, _, _, h, .inr rfl⟩
  | some ns =>
    rw [hp] at h
    obtain ⟨A, c, zs, he, hz, _⟩ := h
    exact ⟨A, zs.length, c, 0, he, .inl ⟨rfl, fun h2 => hk ns hp (by rw [← hz, List.length_map]; exact h2)⟩⟩

set_option maxRecDepth 100000 in
set_option maxHeartbeats 2000000 in
theorem pnames_walk (s : ByteArray) (m : Int) (w : World) (hs : s.size ≤ maxLen) (hm : w.cell? ⟨0, 0, none⟩ = some (.int .i64 m)) :
    Calls Tryd.prog 5 #[.string s] w fun e w' => e = .returned (.bool true) ∧ Below w.heap.size w w' := by
  have HS := Lib.hid hs
  have HM := Lib.hid hm
  have h0 : 0 < w.heap.size := World.block_lt_of_cell? w _ hm
  unfold maxLen at hs
  clear hm
  by_cases h300 : 300 < s.size
  · have hi : (300 : Int) < (s.size : Int) := by omega
    go_enter Tryd.func5, Tryd.ntmps5
    go_wp2_with fail
    refine (pspeak_any m w HM.out).mono ?_
    rintro e W1 ⟨rfl, hb1⟩
    go_wp2_with fail
    go_ret
    exact ⟨rfl, hb1⟩
  have hi : ¬ ((300 : Int) < (s.size : Int)) := by omega
  have q1 : ¬ (9223372036854775807 < (⟨#[47]⟩ : ByteArray).size + s.size) := by show ¬ (_ < 1 + _); omega
  have q3 : ¬ (9223372036854775807 < (⟨#[47, 97, 47]⟩ : ByteArray).size + s.size) := by show ¬ (_ < 3 + _); omega
  have q1r : ¬ (9223372036854775807 < s.size + (⟨#[47]⟩ : ByteArray).size) := by show ¬ (_ < _ + 1); omega
  have L1 : Hid (((⟨#[47]⟩ : ByteArray) ++ s).size ≤ maxLen) := by show _ ≤ _; rw [ByteArray.size_append]; show 1 + _ ≤ _; unfold maxLen; omega
  have L3 : Hid (((⟨#[47, 97, 47]⟩ : ByteArray) ++ s).size ≤ maxLen) := by show _ ≤ _; rw [ByteArray.size_append]; show 3 + _ ≤ _; unfold maxLen; omega
  have L1r : Hid ((s ++ (⟨#[47]⟩ : ByteArray)).size ≤ maxLen) := by show _ ≤ _; rw [ByteArray.size_append]; show _ + 1 ≤ _; unfold maxLen; omega
  have N1 : Hid (∀ w, Calls Tryd.prog 14 #[.string (s ++ (⟨#[47]⟩ : ByteArray))] w fun e w' => e = .returned (.bool false) ∧ w' = w) := fun w => by
    have := name_any (s ++ (⟨#[47]⟩ : ByteArray)) w L1r.out
    rw [cat1r, (nm_slash_end _).1] at this
    exact this
  have N2 : Hid (∀ w, Calls Tryd.prog 14 #[.string ((⟨#[47]⟩ : ByteArray) ++ s)] w fun e w' => e = .returned (.bool false) ∧ w' = w) := fun w => by
    have := name_any ((⟨#[47]⟩ : ByteArray) ++ s) w L1.out
    rw [cat1, (nm_slash_end _).2] at this
    exact this
  have N3 : Hid (∀ w, Calls Tryd.prog 14 #[.string ⟨#[46]⟩] w fun e w' => e = .returned (.bool false) ∧ w' = w) := fun w => by
    have := name_any ⟨#[46]⟩ w (by decide)
    rw [show isNm (⟨#[46]⟩ : ByteArray).data.toList = false by decide] at this
    exact this
  have N4 : Hid (∀ w, Calls Tryd.prog 14 #[.string ⟨#[46, 46]⟩] w fun e w' => e = .returned (.bool false) ∧ w' = w) := fun w => by
    have := name_any ⟨#[46, 46]⟩ w (by decide)
    rw [show isNm (⟨#[46, 46]⟩ : ByteArray).data.toList = false by decide] at this
    exact this
  have N5 : Hid (∀ w, Calls Tryd.prog 14 #[.string ⟨#[]⟩] w fun e w' => e = .returned (.bool false) ∧ w' = w) := fun w => by
    have := name_any ⟨#[]⟩ w (by decide)
    rw [show isNm (⟨#[]⟩ : ByteArray).data.toList = false by decide] at this
    exact this
  obtain ⟨r, hr⟩ : ∃ r, isNm s.data.toList = r := ⟨_, rfl⟩
  have HR := Lib.hid hr
  clear hr h300
  have N0 : Hid (∀ w, Calls Tryd.prog 14 #[.string s] w fun e w' => e = .returned (.bool r) ∧ w' = w) := fun w => by
    have := name_any s w HS.out
    rw [HR.out] at this
    exact this
  go_enter Tryd.func5, Tryd.ntmps5
  go_wp2_with fail
  refine (pspeak_any m w HM.out).mono ?_
  rintro e W1 ⟨rfl, hb1⟩
  have HB1 := Lib.hid hb1
  have HM1 : Hid (W1.cell? ⟨0, 0, none⟩ = some (.int .i64 m)) := (hb1.cell (p := ⟨0, 0, none⟩) h0).trans HM.out
  clear hb1
  go_wp2_with fail
  refine (N0.out W1).mono ?_
  rintro e w' ⟨rfl, rfl⟩
  go_wp2_with fail
  refine (split_any _ m w' L1.out HM1.out).mono ?_
  rintro e W2 ⟨hs2, hb2⟩
  have HB2 := Lib.hid (HB1.out.trans (hb2.mono HB1.out.size))
  have HM2 : Hid (W2.cell? ⟨0, 0, none⟩ = some (.int .i64 m)) := (HB2.out.cell (p := ⟨0, 0, none⟩) h0).trans HM.out
  clear hb2
  rw [cat1] at hs2
  unfold Splits at hs2
  cases r with
  | true =>
    obtain ⟨p, hp⟩ := (one_name _).1 HR.out
    have hpe := one_name_eq hp
    subst hpe
    rw [hp] at hs2
    obtain ⟨A1, c1, zs1, rfl, hz1, hsl1, hc1⟩ := hs2
    have hz1 := zs_one hz1
    subst hz1
    obtain ⟨b1, o1, rfl, hbb1, hcell1⟩ := hsl1.at (k := 0) (by simp)
    clear hp hsl1 hc1
    go_wp2_with fail
    refine (split_any _ m W2 L3.out HM2.out).mono ?_
    rintro e W3 ⟨hs3, hb3⟩
    have HB3 := Lib.hid (HB2.out.trans (hb3.mono HB2.out.size))
    have hcell1' : W3.cell? ⟨b1, o1, none⟩ = some (.string s) := (hb3.cell (p := ⟨b1, o1, none⟩) hbb1).trans (by simpa using hcell1)
    clear hb3 hcell1
    rw [cat3] at hs3
    unfold Splits at hs3
    obtain ⟨p, q, hp⟩ := (two_names _).1 HR.out
    have hpe := two_names_eq hp
    subst hpe
    have hp1 : p = [97] := by
      have h1 := join_pathOf hp
      have h2 := (pathOf_all hp).1
      simp [joinP] at h1
      have h3 := congrArg List.length h1
      simp at h3
      exact List.append_inj_left (t₁ := 47 :: s.data.toList) (t₂ := 47 :: s.data.toList) (by simpa using h1) (by simp; omega)
    subst hp1
    rw [hp] at hs3
    obtain ⟨A2, c2, zs2, rfl, hz2, hsl2, hc2⟩ := hs3
    have hz2 := zs_two hz2
    subst hz2
    obtain ⟨b2, o2, rfl, hbb2, hcell2⟩ := hsl2.at (k := 1) (by simp)
    have hcell2' : W3.cell? ⟨b2, o2 + 1, none⟩ = some (.string s) := by simpa using hcell2
    clear hp hsl2 hc2 hcell2
    go_wp2_with fail
    refine (N1.out _).mono ?_
    rintro e w' ⟨rfl, rfl⟩
    go_wp2_with fail
    refine (N2.out _).mono ?_
    rintro e w' ⟨rfl, rfl⟩
    go_wp2_with fail
    refine (N3.out _).mono ?_
    rintro e w' ⟨rfl, rfl⟩
    go_wp2_with fail
    refine (N4.out _).mono ?_
    rintro e w' ⟨rfl, rfl⟩
    go_wp2_with fail
    refine (N5.out _).mono ?_
    rintro e w' ⟨rfl, rfl⟩
    go_wp2_with fail
    go_ret
    exact ⟨rfl, HB3.out⟩
  | false =>
    obtain ⟨A1, n1, c1, k1, rfl, hk1⟩ := splits_not (k := 1) hs2 (fun ns hns h1 => by
      have : ∃ p, pathOf (47 :: s.data.toList) = some [p] := by
        obtain ⟨p, rfl⟩ := List.length_eq_one_iff.1 h1
        exact ⟨p, hns⟩
      rw [(one_name _).2 this] at HR
      exact absurd HR.out (by decide))
    have HK1 := Lib.hid hk1
    clear hk1 hs2
    rcases HK1.out with ⟨rfl, h1⟩ | rfl
    all_goals
      try have hn1 : ((n1 : Int) == 1) = false := by rw [beq_eq_false_iff_ne]; omega
      clear HK1
      go_wp2_with fail
      refine (split_any _ m W2 L3.out HM2.out).mono ?_
      rintro e W3 ⟨hs3, hb3⟩
      have HB3 := Lib.hid (HB2.out.trans (hb3.mono HB2.out.size))
      clear hb3
      rw [cat3] at hs3
      unfold Splits at hs3
      obtain ⟨A2, n2, c2, k2, rfl, hk2⟩ := splits_not (k := 2) hs3 (fun ns hns h1 => by
        have : ∃ p q, pathOf (47 :: 97 :: 47 :: s.data.toList) = some [p, q] := by
          match ns, h1 with
          | [p, q], _ => exact ⟨p, q, hns⟩
        rw [(two_names _).2 this] at HR
        exact absurd HR.out (by decide))
      have HK2 := Lib.hid hk2
      clear hk2 hs3
      rcases HK2.out with ⟨rfl, h2⟩ | rfl
      all_goals
        try have hn2 : ((n2 : Int) == 2) = false := by rw [beq_eq_false_iff_ne]; omega
        clear HK2
        go_wp2_with fail
        refine (N1.out _).mono ?_
        rintro e w' ⟨rfl, rfl⟩
        go_wp2_with fail
        refine (N2.out _).mono ?_
        rintro e w' ⟨rfl, rfl⟩
        go_wp2_with fail
        refine (N3.out _).mono ?_
        rintro e w' ⟨rfl, rfl⟩
        go_wp2_with fail
        refine (N4.out _).mono ?_
        rintro e w' ⟨rfl, rfl⟩
        go_wp2_with fail
        refine (N5.out _).mono ?_
        rintro e w' ⟨rfl, rfl⟩
        go_wp2_with fail
        go_ret
        exact ⟨rfl, HB3.out⟩
end Go.Proofs.YtdekpjagkhdfcaaDoor
