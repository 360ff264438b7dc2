/- check.Wrap, check.Unwrap. -/
import Derived.Test.YtjkilpjdgjijiaaDoorCsum
import Derived.Test.YtjkilpjdgjijiaaDoorConcat
import Derived.Test.YtjkilpjdgjijiaaDoorReader
namespace Go.Proofs.YtjkilpjdgjijiaaDoor
open Go.RowKit
set_option linter.unusedVariables false

theorem wr_new (w : World) (n0 : Nat) (hn : n0 ≤ w.heap.size) : Wr (w.alloc (.cells #[.slice none 0 0] 72)) n0 w.heap.size (.slice none 0 0) [] :=
  ⟨hn, heap_alloc_new _ _, World.ownsRow_nil _ _ _ _⟩

theorem Sl.new_cells (w : World) (xs : List Value) (t : TypeId) (fr : Nat × Nat) : Sl (w.alloc (.cells xs.toArray t fr)) (w.heap.size + 1) (some ⟨w.heap.size, 0, none⟩) xs := by
  refine .inr ⟨w.heap.size, 0, rfl, by omega, fun k u hu => ?_⟩
  rw [Nat.zero_add]
  have h := heap_alloc_new w (.cells xs.toArray t fr)
  unfold World.cell?
  simp only [h]
  simpa using hu

/-- Bytes with their sum behind. -/
def wrapped (b : List UInt8) : List UInt8 := b ++ beBytes (more 0 b) 4

set_option maxRecDepth 100000 in
set_option maxHeartbeats 2000000 in
theorem wrap_ok (A : Option Addr) (c B : Nat) (b : List UInt8) (w : World) (hT : Tab w) (h : Sl w B A (bv b)) (hn : A = none → c = 0) (hl : b.length ≤ 1099511627776) (hB : B ≤ w.heap.size) :
    Calls Tryd.prog 40 #[.slice A b.length c] w fun e w' => NewBytes w.heap.size (wrapped b) e w' ∧ Below w.heap.size w w' := by
  have HN := Lib.hid hn
  have HL := Lib.hid hl
  clear hn hl
  go_enter Tryd.func40, Tryd.ntmps40
  go_wp2_with fail
  have B0 := (Below.refl w.heap.size w).alloc (Nat.le_refl _) (.cells #[.slice none 0 0] 72)
  have D0 := wr_new w w.heap.size (Nat.le_refl _)
  refine (sum_any A c B b _ (hT.below hT.1 B0) (h.alloc hB _) (by have := HL.out; unfold maxLen; omega)).mono ?_
  rintro e w1 ⟨rfl, rfl⟩
  obtain ⟨s, hs⟩ : ∃ s, more 0 b = s := ⟨_, rfl⟩
  have hsl : s < 4294967296 := by rw [← hs]; exact more_lt _ _
  rw [hs]
  have hcv : IntKind.u64.wrap (s : Int) = (s : Int) := by rw [IntKind.wrap_u64]; omega
  go_wp2_with fail
  refine (number_ok D0 s 4 (by omega) (by decide) (by simp) B0.size).mono ?_
  rintro e w2 ⟨rfl, v2, D2, hb2⟩
  have B2 := B0.trans hb2
  rw [List.nil_append] at D2
  go_wp2_with fail
  refine (out_ok D2 (by simp [beBytes]) B2.size).mono ?_
  rintro e w3 ⟨⟨A3, c3, rfl, hown⟩, hb3⟩
  have B3 := B2.trans (hb3.mono B2.size)
  have hcc := concat_ok (some ⟨w3.heap.size, 0, none⟩) 2 (w3.heap.size + 1) [⟨A, c, b⟩, ⟨A3, c3, beBytes s 4⟩] (w3.alloc (.cells #[.slice A b.length c, .slice A3 (beBytes s 4).length c3] 22)) (Sl.new_cells w3 [.slice A b.length c, .slice A3 (beBytes s 4).length c3] 22 (0, 0)) (by simp)
    (by
      intro p hp
      rcases List.mem_cons.1 hp with rfl | hp
      · exact ⟨((h.below (B3.mono hB)).alloc (by have := B3.size; omega) _).more (by have := B3.size; omega), HN.out⟩
      · simp at hp
        subst hp
        refine ⟨((Sl.of_own hown).alloc (Nat.le_refl _) _).more (by omega), fun e => ?_⟩
        have e : A3 = none := e
        show c3 = 0
        rcases hown.2 with ⟨e', _⟩ | ⟨g', c', cur, e', _⟩
        · injection e'
        · rw [e] at e'; simp at e')
    (by simp [Pc.total, beBytes]) (by have := HL.out; simp [Pc.total, beBytes]; omega) (by simp)
  have HCC := Lib.hid hcc
  clear hcc
  go_wp2_with fail
  refine HCC.out.mono ?_
  rintro e w4 ⟨⟨A4, c4, rfl, hown4⟩, hb4⟩
  have B4 := (B3.alloc B3.size (.cells #[.slice A b.length c, .slice A3 (beBytes s 4).length c3] 22)).trans (hb4.mono (by have := B3.size; simp; omega))
  go_wp2
  go_ret
  have e1 : Pc.all [⟨A, c, b⟩, ⟨A3, c3, beBytes s 4⟩] = wrapped b := by simp [Pc.all, wrapped, hs]
  rw [e1] at hown4
  refine ⟨⟨A4, c4, by rw [e1]; rfl, ?_⟩, B4⟩
  refine ⟨hown4.1, ?_⟩
  rcases hown4.2 with h0 | ⟨g', cap', cur, q1, q2, r⟩
  · exact .inl h0
  · exact .inr ⟨g', cap', cur, q1, by have := B3.size; simp at q2; omega, r⟩

set_option maxHeartbeats 1000000 in
theorem unwrap_short (A : Option Addr) (c : Nat) (b : List UInt8) (w : World) (hl : b.length < 4) :
    Calls Tryd.prog 23 #[.slice A b.length c] w fun e w' => e = .returned (.tuple #[.slice none 0 0, .int .i64 3]) ∧ w' = w := by
  have h1 : ((b.length : Nat) : Int) - 4 < 0 := by omega
  have h2 : ((b.length : Nat) : Int) < 4 := by omega
  go_enter Tryd.func23, Tryd.ntmps23
  go_wp2
  go_ret2
  exact ⟨rfl, rfl⟩

/-- What an Unwrap of bytes that are long enough comes to. -/
def Unwrapped (a s : List UInt8) (w : World) (e : Ending) (w' : World) : Prop :=
  (if beVal s = more 0 a then ∃ A c, e = .returned (.tuple #[.slice A a.length c, .int .i64 0]) ∧ w'.ownsRow w.heap.size 5 1 (.slice A a.length c) a.length (bv a) else e = .returned (.tuple #[.slice none 0 0, .int .i64 3])) ∧ Below w.heap.size w w'

set_option maxRecDepth 100000 in
set_option maxHeartbeats 2000000 in
theorem unwrap_ok (A : Option Addr) (c B n : Nat) (a s : List UInt8) (w : World) (hT : Tab w) (h : Sl w B A (bv (a ++ s))) (hs : s.length = 4) (ha : a.length = n) (hc : n + 4 ≤ c) (hl : n ≤ 1099511627776) (hB : B ≤ w.heap.size) :
    Calls Tryd.prog 23 #[.slice A (n + 4) c] w fun e w' => Unwrapped a s w e w' := by
  obtain ⟨b, o, rfl, hb, hk⟩ : ∃ b o, A = some ⟨b, o, none⟩ ∧ b < B ∧ ∀ k u, (bv (a ++ s))[k]? = some u → w.cell? ⟨b, o + k, none⟩ = some u := by
    rcases h with h | ⟨b, o, e, hb, hk⟩
    · have := congrArg List.length h
      rw [bv_len, List.length_append, hs] at this
      simp at this
    · exact ⟨b, o, e, hb, hk⟩
  have S1 : Sl w B (some ⟨b, o, none⟩) (bv a) := .inr ⟨b, o, rfl, hb, fun k u hu => hk k u (by rw [bv_app, List.getElem?_append_left (Array.getElem?_eq_some_iff.1 (by simpa using hu : (bv a).toArray[k]? = some u)).1]; exact hu)⟩
  have S2 : Sl w B (some ⟨b, o + n, none⟩) (bv s) := .inr ⟨b, o + n, rfl, hb, fun k u hu => by
    have := hk (n + k) u (by rw [bv_app, List.getElem?_append_right (by rw [bv_len]; omega), bv_len, ha, Nat.add_sub_cancel_left]; exact hu)
    rw [Nat.add_assoc]
    exact this⟩
  have h1 : ¬ ((((n + 4 : Nat) : Int)) - 4 < 0) := by omega
  have h2 : ¬ c = n := by omega
  have h3 : (n : Int) ≤ (c : Int) := by omega
  have HS := Lib.hid hs
  have HA := Lib.hid ha
  clear h hk hs ha
  go_enter Tryd.func23, Tryd.ntmps23
  go_wp2_with fail
  have hrd := read_ok (some ⟨b, o + n, none⟩) (c - n) B s w S2 (by simp) (by rw [HS.out]; decide) hB
  rw [HS.out] at hrd
  refine hrd.mono ?_
  clear hrd
  rintro e w1 ⟨g, A1, c1, rfl, hr1, hg1, hb1⟩
  go_wp2_with fail
  refine (rnumber_ok (n := 4) hr1 (by decide) (by decide) (by rw [HS.out]; exact Nat.le_refl _) (by rw [HS.out]; decide)).mono ?_
  rintro e w2 ⟨rfl, -, hf2⟩
  have B2 : Below w.heap.size w w2 := hb1.trans (hf2.below hb1.size (fun k hk => by rw [hk]; exact hg1))
  rw [show s.take 4 = s from List.take_of_length_le (by rw [HS.out]; exact Nat.le_refl _)]
  go_wp2_with fail
  have hsm := sum_any (some ⟨b, o, none⟩) n B a w2 (hT.below hT.1 B2) (S1.below (B2.mono hB)) (by rw [HA.out]; unfold maxLen; omega)
  rw [HA.out] at hsm
  refine hsm.mono ?_
  clear hsm
  rintro e w3 ⟨rfl, rfl⟩
  obtain ⟨m, hm⟩ : ∃ m, more 0 a = m := ⟨_, rfl⟩
  have hml : m < 4294967296 := by rw [← hm]; exact more_lt _ _
  rw [hm]
  have hcv : IntKind.u64.wrap (m : Int) = (m : Int) := by rw [IntKind.wrap_u64]; omega
  obtain ⟨x, hx⟩ : ∃ x, beVal s = x := ⟨_, rfl⟩
  rw [hx]
  by_cases hq : x = m
  · have hq1 : ((x : Int) != (m : Int)) = false := by simp [hq]
    have HQ := Lib.hid hq
    have HX := Lib.hid hx
    have HM := Lib.hid hm
    clear hq hx hm
    go_wp2_with fail
    have hcl := clone_bytes (some ⟨b, o, none⟩) n B a w3 (S1.below (B2.mono hB)) (by simp) (by rw [HA.out]; omega) (Nat.le_trans hB B2.size)
    rw [HA.out] at hcl
    refine hcl.mono ?_
    clear hcl
    rintro e w4 ⟨⟨A4, c4, he4, hown⟩, hb4⟩
    rw [HA.out] at he4
    subst he4
    go_wp2_with fail
    go_ret2
    refine ⟨?_, B2.trans (hb4.mono B2.size)⟩
    rw [HX.out, HM.out, if_pos HQ.out]
    rw [← HA.out]
    refine ⟨A4, c4, rfl, hown.1, ?_⟩
    rcases hown.2 with h0 | ⟨g', cap', cur, q1, q2, r⟩
    · exact .inl h0
    · exact .inr ⟨g', cap', cur, q1, Nat.le_trans B2.size q2, r⟩
  · have hq1 : ((x : Int) != (m : Int)) = true := by rw [bne_iff_ne]; omega
    have HQ : Hid (¬ x = m) := hq
    have HX := Lib.hid hx
    have HM := Lib.hid hm
    clear hq hx hm
    go_wp2_with fail
    go_ret2
    refine ⟨?_, B2⟩
    rw [HX.out, HM.out, if_neg HQ.out]
    rfl
end Go.Proofs.YtjkilpjdgjijiaaDoor
