/- tidelinelaw05.speaks. -/
import Derived.Test.YtjkilpjdgjijiaaDoorCqU
import Derived.Test.YtjkilpjdgjijiaaDoorCqE
import Derived.Test.YtjkilpjdgjijiaaDoorCqD
namespace Go.Proofs.YtjkilpjdgjijiaaDoor
open Go.RowKit
set_option linter.unusedVariables false
attribute [local go_sem] Oper.semAt_some

theorem own_capC {w : World} {base n c : Nat} {A : Option Addr} {xs : List Value} (h : w.ownsRow base 5 1 (.slice A n c) n xs) : n ≤ c := by
  rcases h.2 with ⟨e, h0⟩ | ⟨g, cap, cur, e, hb, hh, hn, hc, _⟩
  · omega
  · injection e with e1 e2 e3
    omega
theorem first_a : firstOf ⟨#[47, 97]⟩ = some ⟨#[97]⟩ := by
  have h : pathOf [47, 97] = some [[97]] := by decide +kernel
  unfold firstOf
  show (pathOf [47, 97]).bind _ = _
  rw [h]
  rfl
theorem sum_pos (z : ByteArray) : 0 < sumOf z := by unfold sumOf; omega

set_option maxRecDepth 100000 in
set_option maxHeartbeats 4000000 in
theorem speaks05 (m : Int) (w : World) (hT : Tab w) (hm : w.cell? ⟨1, 0, none⟩ = some (.int .i64 m)) :
    Calls Tryd.prog 6 #[] w fun e w' => e = .returned (.bool true) ∧ Below w.heap.size w w' := by
  have hg : 1 < w.heap.size := World.block_lt_of_cell? w _ hm
  have HEN := Lib.hid (cqenc_ok ⟨12, ⟨#[]⟩, ⟨#[]⟩, 0, 7, []⟩ none 0 w.heap.size w hT (.inl rfl) (fun _ => rfl) (Nat.le_refl _) (by decide) (by decide) (by decide))
  have hdec : decCq (encCq ⟨12, ⟨#[]⟩, ⟨#[]⟩, 0, 7, []⟩) = some ⟨12, ⟨#[]⟩, ⟨#[]⟩, 0, 7, []⟩ := decCq_enc _ ⟨by decide, by decide, by decide, by decide, by decide, by decide⟩
  have hlen : (encCq ⟨12, ⟨#[]⟩, ⟨#[]⟩, 0, 7, []⟩).length ≤ 1000 := by unfold encCq; simp [be_len, lenBytes_len]
  have hs1 : streamP ⟨12, ⟨#[47, 97]⟩, ⟨#[]⟩, 0, 0, []⟩ = 0 := rfl
  have hs2 : streamP ⟨10, ⟨#[47, 97]⟩, ⟨#[]⟩, 0, 0, []⟩ = sumOf ⟨#[97]⟩ := by
    unfold streamP
    rw [if_neg (by decide)]
    dsimp only
    rw [first_a]
    rfl
  have hp := sum_pos ⟨#[97]⟩
  obtain ⟨E, hE⟩ : ∃ E, encCq ⟨12, ⟨#[]⟩, ⟨#[]⟩, 0, 7, []⟩ = E := ⟨_, rfl⟩
  rw [hE] at HEN hdec hlen
  obtain ⟨S, hS⟩ : ∃ S, sumOf ⟨#[97]⟩ = S := ⟨_, rfl⟩
  rw [hS] at hs2 hp
  have HT := Lib.hid hT
  have HDEC := Lib.hid hdec
  have HST1 : Hid (∀ W, Below w.heap.size w W → Calls Tryd.prog 19 #[.agg #[.int .i64 12, .string ⟨#[47, 97]⟩, .string ⟨#[]⟩, .int .i64 0, .int .i64 0, .slice none 0 0]] W fun e w' => e = .returned (.int .i64 0) ∧ Below W.heap.size W w') := Lib.hid (fun W hb => by
    have h := stream_any ⟨12, ⟨#[47, 97]⟩, ⟨#[]⟩, 0, 0, []⟩ none 0 m W (hT.below hT.1 hb) (by decide) (by decide) ((hb.cell (p := ⟨1, 0, none⟩) hg).trans hm) (Nat.lt_of_lt_of_le hg hb.size)
    rw [hs1] at h
    exact h)
  have HST2 : Hid (∀ W, Below w.heap.size w W → Calls Tryd.prog 19 #[.agg #[.int .i64 10, .string ⟨#[47, 97]⟩, .string ⟨#[]⟩, .int .i64 0, .int .i64 0, .slice none 0 0]] W fun e w' => e = .returned (.int .i64 S) ∧ Below W.heap.size W w') := Lib.hid (fun W hb => by
    have h := stream_any ⟨10, ⟨#[47, 97]⟩, ⟨#[]⟩, 0, 0, []⟩ none 0 m W (hT.below hT.1 hb) (by decide) (by decide) ((hb.cell (p := ⟨1, 0, none⟩) hg).trans hm) (Nat.lt_of_lt_of_le hg hb.size)
    rw [hs2] at h
    exact h)
  clear hT hm hg hdec hs1 hs2 hS hE
  go_enter Tryd.func6, Tryd.ntmps6
  go_wp2_with fail
  refine HEN.out.mono ?_
  rintro e w1 ⟨⟨A1, c1, rfl, ho1⟩, hb1⟩
  obtain ⟨L, hL⟩ : ∃ L, wrapped E = L := ⟨_, rfl⟩
  have hun : (unw L).bind decCq = some ⟨12, ⟨#[]⟩, ⟨#[]⟩, 0, 7, []⟩ := by rw [← hL, unw_wrapped, Option.bind_some]; exact HDEC.out
  have hLl : L.length ≤ 1004 := by rw [← hL, wrapped_len]; omega
  rw [hL] at ho1 ⊢
  have HDE := Lib.hid (cqdec_any A1 c1 w1.heap.size L w1 (HT.out.below HT.out.1 hb1) (Sl.of_own ho1) (own_capC ho1) (by omega) (Nat.le_refl _))
  rw [hun] at HDE
  have HB1 := Lib.hid hb1
  clear hL hun ho1 hb1
  go_wp2_with fail
  refine HDE.out.mono ?_
  rintro e w2 ⟨A2, c2, he, hb2, -⟩
  have he : e = .returned (.tuple #[.agg #[.int .i64 12, .string ⟨#[]⟩, .string ⟨#[]⟩, .int .i64 0, .int .i64 7, .slice A2 0 c2], .int .i64 0]) := he
  subst he
  have hb3 : Below w.heap.size w (w2.alloc (.cells #[.int .i64 12, .string ⟨#[]⟩, .string ⟨#[]⟩, .int .i64 0, .int .i64 7, .slice A2 0 c2] 26)) := (HB1.out.trans (hb2.mono HB1.out.size)).alloc (HB1.out.trans (hb2.mono HB1.out.size)).size _
  have hbx := Blk.new w2 #[.int .i64 12, .string ⟨#[]⟩, .string ⟨#[]⟩, .int .i64 0, .int .i64 7, .slice A2 0 c2] 26
  have HB3 := Lib.hid hb3
  have HBX := Lib.hid hbx
  clear hb2 hb3 hbx
  go_wp2_with fail
  refine (HST1.out _ HB3.out).mono ?_
  rintro e w3 ⟨rfl, hb4⟩
  have HB4 := Lib.hid (HB3.out.trans (hb4.mono HB3.out.size))
  have hbx4 := HBX.out.belowAll hb4
  have HBX4 := Lib.hid hbx4
  clear hb4 hbx4
  go_wp2_with fail
  refine (HST2.out _ HB4.out).mono ?_
  rintro e w5 ⟨rfl, hb5⟩
  have HB5 := Lib.hid (HB4.out.trans (hb5.mono HB4.out.size))
  have hbx5 := HBX4.out.belowAll hb5
  have hc5 := hbx5.cell
  have hl5 := hbx5.lt
  clear hb5 hbx5
  go_wp2_with fail
  go_ret
  exact ⟨rfl, HB5.out⟩
end Go.Proofs.YtjkilpjdgjijiaaDoor
