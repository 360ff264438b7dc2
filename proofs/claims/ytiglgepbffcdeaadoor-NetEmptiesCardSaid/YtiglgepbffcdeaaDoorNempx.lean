/- NetEmpties: every way. -/
import Derived.Test.YtiglgepbffcdeaaDoorNempw
namespace Go.Proofs.YtiglgepbffcdeaaDoor
open Go.RowKit
set_option linter.unusedVariables false

set_option maxRecDepth 100000 in
set_option maxHeartbeats 4000000 in
theorem nemp_walk (A A2 : Option Addr) (c c2 : Nat) (ls : List Mm) (zs : List Int) (w : World) (hT : Tab w) (hl : Sl w w.heap.size A (mcells ls)) (hin : ∀ x ∈ ls, InM w w.heap.size x) (hz : Sl w w.heap.size A2 (iv zs)) (hzl : zs.length ≤ maxLen) :
    Calls Tryd.prog 5 #[.slice A ls.length c, .slice A2 zs.length c2] w fun e w' => e = .returned (.bool true) ∧ Below w.heap.size w w' := by
  by_cases h1 : 40 < ls.length
  · have HT := Lib.hid hT
    obtain ⟨n, hN⟩ : ∃ n, ls.length = n := ⟨_, rfl⟩
    obtain ⟨r, hR⟩ : ∃ r, zs.length = r := ⟨_, rfl⟩
    rw [hN] at h1 ⊢
    rw [hR]
    have h1i : (40 : Int) < (n : Int) := by omega
    clear hT hl hin hz hzl hN hR
    go_enter Tryd.func5, Tryd.ntmps5
    go_wp2_with fail
    refine (speaks13 _ HT.out).mono ?_
    rintro en W1 ⟨rfl, hb1⟩
    go_wp2_with fail
    go_ret
    exact ⟨rfl, hb1⟩
  by_cases h2 : zs = []
  · have HT := Lib.hid hT
    obtain ⟨n, hN⟩ : ∃ n, ls.length = n := ⟨_, rfl⟩
    rw [hN] at h1 ⊢
    subst h2
    have h1i : ¬ ((40 : Int) < (n : Int)) := by omega
    clear hT hl hin hz hzl hN
    go_enter Tryd.func5, Tryd.ntmps5
    go_wp2_with fail
    refine (speaks13 _ HT.out).mono ?_
    rintro en W1 ⟨rfl, hb1⟩
    go_wp2_with fail
    go_ret
    exact ⟨rfl, hb1⟩
  exact nemp_main A A2 c c2 ls zs w hT hl hin hz hzl (by omega) h2
end Go.Proofs.YtiglgepbffcdeaaDoor
