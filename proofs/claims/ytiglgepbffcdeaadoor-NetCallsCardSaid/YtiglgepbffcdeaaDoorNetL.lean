/- law13 speaks. -/
import Derived.Test.YtiglgepbffcdeaaDoorNetQ
namespace Go.Proofs.YtiglgepbffcdeaaDoor
open Go.RowKit
set_option linter.unusedVariables false

set_option maxRecDepth 100000 in
set_option maxHeartbeats 4000000 in
theorem speaks13 (w : World) (hT : Tab w) : Calls Tryd.prog 12 #[] w fun e w' => e = .returned (.bool true) ∧ Below w.heap.size w w' := by
  have HT := Lib.hid hT
  have h0 : 0 < w.heap.size := hT.1
  have H0 := Lib.hid h0
  clear hT h0
  go_enter Tryd.func12, Tryd.ntmps12
  go_wp2_with fail
  refine (net_new _).mono ?_
  rintro en W1 ⟨rfl, hS1, hb1⟩
  have HS1 := Lib.hid hS1
  have T1 := Lib.hid (HT.out.low H0.out hb1)
  have HB1 := Lib.hid hb1
  clear hS1 hb1
  go_wp2_with fail
  refine (put_kind 2 0 (by decide) (by decide) HS1.out (by decide) T1.out HB1.out.size).mono ?_
  rintro en W2 ⟨rfl, hp2⟩
  have hb2 := hp2.below HS1.out HB1.out.size
  obtain ⟨v2, x1, hx1, hS2, hf2, -⟩ := hp2
  have HS2 := Lib.hid hS2
  have HX1 := Lib.hid hx1
  have HB2 := Lib.hid (HB1.out.trans hb2)
  clear hS2 hx1 hf2 hb2
  go_wp2_with fail
  refine (put_kind 3 0 (by decide) (by decide) HS2.out (by simp) (HT.out.low H0.out HB2.out) HB2.out.size).mono ?_
  rintro en W3 ⟨rfl, hp3⟩
  have hb3 := hp3.below HS2.out HB2.out.size
  obtain ⟨v3, x2, hx2, hS3, hf3, -⟩ := hp3
  have HS3 := Lib.hid hS3
  have HX2 := Lib.hid hx2
  have HB3 := Lib.hid (HB2.out.trans hb3)
  clear hS3 hx2 hf3 hb3
  go_wp2_with fail
  refine (net_take_out HS3.out (by simp) (-1) HB3.out.size).mono ?_
  rintro en W4 ⟨i, hi, B1, d1, B2, d2, hiz, rfl, hown, htk⟩
  obtain rfl : i = 1 := by
    have : (i : Int) = (-1) % 2 := hiz
    have h2 : ((-1) % 2 : Int) = 1 := by decide
    omega
  have hm : ([] ++ [x1] ++ [x2])[1] = x2 := rfl
  have hm2 : (([] ++ [x1] ++ [x2])[1]'hi).m = mkn 3 0 := HX2.out
  rw [hm2]
  have hb4 := htk.below HS3.out HB3.out.size
  obtain ⟨v4, hS4, hf4, -⟩ := htk
  have HB4 := Lib.hid (HB3.out.trans hb4)
  have HS4 := Lib.hid hS4
  have h4l : (([] ++ [x1] ++ [x2]).eraseIdx 1).length = 1 := rfl
  have hln := fun (X : World) (hX : Below W4.heap.size W4 X) => net_len (hS4.below hX)
  rw [h4l] at hln
  have HLN := Lib.hid hln
  clear hm hm2 hb4 hS4 hf4 hiz hown hi h4l hln
  dsimp only [mkn, Msg.val]
  obtain ⟨n1, hn1⟩ : ∃ n, ([] : List UInt8).length = n := ⟨_, rfl⟩
  rw [hn1]
  clear hn1
  go_wp2_with fail
  refine (HLN.out _ ((Below.refl _ _).alloc (Nat.le_refl _) _)).mono ?_
  rintro en W5 ⟨rfl, rfl⟩
  go_wp2_with fail
  go_ret
  exact ⟨rfl, HB4.out.alloc HB4.out.size _⟩
end Go.Proofs.YtiglgepbffcdeaaDoor
