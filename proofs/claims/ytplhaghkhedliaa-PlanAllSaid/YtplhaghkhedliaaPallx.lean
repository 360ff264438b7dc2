/- PlanAll: every way. -/
import Derived.Test.YtplhaghkhedliaaPallw
namespace Go.Proofs.Ytplhaghkhedliaa
open Go.RowKit
set_option linter.unusedVariables false

set_option maxRecDepth 100000 in
set_option maxHeartbeats 4000000 in
theorem pall_walk (u c z : Int) (w : World) :
    Calls Try.prog 4 #[.int .i64 u, .int .i64 c, .int .i64 z] w fun e w' => e = .returned (.bool true) ∧ Below w.heap.size w w' := by
  by_cases h3 : u < 1 ∨ 7 < u ∨ c < 1 ∨ u < c
  · have HSP := Lib.hid (fun W : World => speaks11 W)
    have HFB := Lib.hid (fun W : World => first_bad u c h3 W)
    clear h3
    go_enter Try.func4, Try.ntmps4
    go_wp2_with fail
    refine (HSP.out _).mono ?_
    rintro en W1 ⟨rfl, hb1⟩
    go_wp2_with fail
    refine (HFB.out _).mono ?_
    rintro en2 W2 ⟨⟨A, cc, rs, rfl, hls, hmem, -⟩, hb2⟩
    have hrs : rs.length = 0 := by have := congrArg List.length hls; simpa using this
    rw [hrs]
    clear hls hmem hrs
    go_wp2_with fail
    go_ret
    exact ⟨rfl, (hb1.trans (hb2.mono hb1.size)).alloc (hb1.trans (hb2.mono hb1.size)).size _⟩
  obtain ⟨u', rfl⟩ : ∃ n : Nat, u = (n : Int) := ⟨u.toNat, by omega⟩
  obtain ⟨c', rfl⟩ : ∃ n : Nat, c = (n : Int) := ⟨c.toNat, by omega⟩
  by_cases h4 : z < 0
  · have HSP := Lib.hid (fun W : World => speaks11 W)
    have HF := Lib.hid (fun W : World => first_ok u' c' (by omega) (by omega) (by omega) W)
    clear h3
    go_enter Try.func4, Try.ntmps4
    go_wp2_with fail
    refine (HSP.out _).mono ?_
    rintro en W1 ⟨rfl, hb1⟩
    go_wp2_with fail
    refine (HF.out _).mono ?_
    rintro en2 W2 ⟨⟨A, cc, rs, rfl, hls, hmem, -⟩, hb2⟩
    obtain ⟨m, hm⟩ : ∃ m, rs.length = m := ⟨_, rfl⟩
    rw [hm]
    clear hls hmem hm
    go_wp2_with fail
    go_ret
    exact ⟨rfl, (hb1.trans (hb2.mono hb1.size)).alloc (hb1.trans (hb2.mono hb1.size)).size _⟩
  by_cases h5 : 1099511627776 < z
  · have HSP := Lib.hid (fun W : World => speaks11 W)
    have HF := Lib.hid (fun W : World => first_ok u' c' (by omega) (by omega) (by omega) W)
    clear h3
    go_enter Try.func4, Try.ntmps4
    go_wp2_with fail
    refine (HSP.out _).mono ?_
    rintro en W1 ⟨rfl, hb1⟩
    go_wp2_with fail
    refine (HF.out _).mono ?_
    rintro en2 W2 ⟨⟨A, cc, rs, rfl, hls, hmem, -⟩, hb2⟩
    obtain ⟨m, hm⟩ : ∃ m, rs.length = m := ⟨_, rfl⟩
    rw [hm]
    clear hls hmem hm
    go_wp2_with fail
    go_ret
    exact ⟨rfl, (hb1.trans (hb2.mono hb1.size)).alloc (hb1.trans (hb2.mono hb1.size)).size _⟩
  obtain ⟨z', rfl⟩ : ∃ n : Nat, z = (n : Int) := ⟨z.toNat, by omega⟩
  exact pall_main u' c' z' (by omega) (by omega) (by omega) (by omega) w
end Go.Proofs.Ytplhaghkhedliaa
