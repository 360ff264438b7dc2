/- PlanShrinks: every way. -/
import Derived.Test.YtplhaghkhedliaaPshrw
namespace Go.Proofs.Ytplhaghkhedliaa
open Go.RowKit
set_option linter.unusedVariables false

set_option maxRecDepth 100000 in
set_option maxHeartbeats 4000000 in
theorem pshr_walk (u c z : Int) (TA : Option Addr) (tc : Nat) (ts : List Ch) (w : World) (hm : Mem w w.heap.size TA ts) :
    Calls Try.prog 3 #[.int .i64 u, .int .i64 c, .slice TA ts.length tc, .int .i64 z] w fun e w' => e = .returned (.bool true) ∧ Below w.heap.size w w' := by
  by_cases h1 : 20 < ts.length
  · have HSP := Lib.hid (fun W : World => speaks11 W)
    obtain ⟨n, hN⟩ : ∃ n, ts.length = n := ⟨_, rfl⟩
    rw [hN] at h1 ⊢
    have h1i : (20 : Int) < (n : Int) := by omega
    clear hm hN
    go_enter Try.func3, Try.ntmps3
    go_wp2_with fail
    refine (HSP.out _).mono ?_
    rintro en W1 ⟨rfl, hb1⟩
    go_wp2_with fail
    go_ret
    exact ⟨rfl, hb1⟩
  by_cases h2 : z < 0
  · have HSP := Lib.hid (fun W : World => speaks11 W)
    obtain ⟨n, hN⟩ : ∃ n, ts.length = n := ⟨_, rfl⟩
    rw [hN] at h1 ⊢
    have h1i : ¬ ((20 : Int) < (n : Int)) := by omega
    clear hm hN
    go_enter Try.func3, Try.ntmps3
    go_wp2_with fail
    refine (HSP.out _).mono ?_
    rintro en W1 ⟨rfl, hb1⟩
    go_wp2_with fail
    go_ret
    exact ⟨rfl, hb1⟩
  by_cases h3 : u < 1 ∨ 7 < u ∨ c < 1 ∨ u < c
  · have HSP := Lib.hid (fun W : World => speaks11 W)
    have HFB := Lib.hid (fun W : World => first_bad u c h3 W)
    have H3 := Lib.hid h3
    obtain ⟨n, hN⟩ : ∃ n, ts.length = n := ⟨_, rfl⟩
    rw [hN] at h1 ⊢
    have h1i : ¬ ((20 : Int) < (n : Int)) := by omega
    clear hm hN h3
    go_enter Try.func3, Try.ntmps3
    go_wp2_with fail
    refine (HSP.out _).mono ?_
    rintro en W1 ⟨rfl, hb1⟩
    go_wp2_with fail
    refine (HFB.out _).mono ?_
    rintro en2 W2 ⟨⟨A, cc, rs, rfl, hls, hmem, -⟩, hb2⟩
    clear hls hmem
    by_cases q1 : u < 1
    · go_wp2_with fail
      go_ret
      exact ⟨rfl, (hb1.trans (hb2.mono hb1.size)).alloc (hb1.trans (hb2.mono hb1.size)).size _⟩
    by_cases q2 : 7 < u
    · go_wp2_with fail
      go_ret
      exact ⟨rfl, (hb1.trans (hb2.mono hb1.size)).alloc (hb1.trans (hb2.mono hb1.size)).size _⟩
    by_cases q3 : c < 1
    · go_wp2_with fail
      go_ret
      exact ⟨rfl, (hb1.trans (hb2.mono hb1.size)).alloc (hb1.trans (hb2.mono hb1.size)).size _⟩
    have q4 : u < c := by have := H3.out; omega
    go_wp2_with fail
    go_ret
    exact ⟨rfl, (hb1.trans (hb2.mono hb1.size)).alloc (hb1.trans (hb2.mono hb1.size)).size _⟩
  obtain ⟨u', rfl⟩ : ∃ n : Nat, u = (n : Int) := ⟨u.toNat, by omega⟩
  obtain ⟨c', rfl⟩ : ∃ n : Nat, c = (n : Int) := ⟨c.toNat, by omega⟩
  obtain ⟨z', rfl⟩ : ∃ n : Nat, z = (n : Int) := ⟨z.toNat, by omega⟩
  exact pshr_main u' c' z' (by omega) (by omega) (by omega) TA tc ts w.heap.size w hm (Nat.le_refl _) (by omega)
end Go.Proofs.Ytplhaghkhedliaa
