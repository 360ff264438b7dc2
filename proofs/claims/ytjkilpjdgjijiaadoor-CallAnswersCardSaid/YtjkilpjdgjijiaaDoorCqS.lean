/- tidelineref05.SameCall, tidelineref04.SameAnswer; law05's great. -/
import Derived.Test.YtjkilpjdgjijiaaDoorCqM
import Derived.Test.YtjkilpjdgjijiaaDoorSame
import Derived.Test.YtjkilpjdgjijiaaDoorPathE
namespace Go.Proofs.YtjkilpjdgjijiaaDoor
open Go.RowKit
set_option linter.unusedVariables false
attribute [local go_sem] Oper.semAt_some

/-- Two calls, two answers that are one. -/
def Cq.eqb (x y : Cq) : Bool := decide (x.k = y.k ∧ x.p = y.p ∧ x.o = y.o ∧ x.f = y.f ∧ x.n = y.n ∧ x.d = y.d)
theorem Cq.eqb_iff (x y : Cq) : x.eqb y = true ↔ x = y := by
  obtain ⟨a1, a2, a3, a4, a5, a6⟩ := x
  obtain ⟨b1, b2, b3, b4, b5, b6⟩ := y
  unfold Cq.eqb
  rw [decide_eq_true_iff]
  constructor
  · rintro ⟨rfl, rfl, rfl, rfl, rfl, rfl⟩; rfl
  · intro h; injection h with h1 h2 h3 h4 h5 h6; exact ⟨h1, h2, h3, h4, h5, h6⟩
def An.eqb (x y : An) : Bool := decide (x.e = y.e ∧ x.k = y.k ∧ x.s = y.s ∧ x.l = y.l ∧ x.d = y.d ∧ x.ns = y.ns)
theorem An.eqb_iff (x y : An) : x.eqb y = true ↔ x = y := by
  obtain ⟨a1, a2, a3, a4, a5, a6⟩ := x
  obtain ⟨b1, b2, b3, b4, b5, b6⟩ := y
  unfold An.eqb
  rw [decide_eq_true_iff]
  constructor
  · rintro ⟨rfl, rfl, rfl, rfl, rfl, rfl⟩; rfl
  · intro h; injection h with h1 h2 h3 h4 h5 h6; exact ⟨h1, h2, h3, h4, h5, h6⟩
theorem str_ne {a b : ByteArray} (h : ¬ a = b) : ¬ a.toList = b.toList := by
  rw [Lib.toList_data, Lib.toList_data]; intro e; exact h (ByteArray.ext (Array.toList_inj.1 e))

set_option maxRecDepth 100000 in
set_option maxHeartbeats 4000000 in
theorem sameq_any (x y : Cq) (A1 A2 : Option Addr) (c1 c2 B : Nat) (w : World) (h1 : Sl w B A1 (bv x.d)) (h2 : Sl w B A2 (bv y.d)) (k1 : x.d.length ≤ maxLen) (k2 : y.d.length ≤ maxLen) (hB : B ≤ w.heap.size) :
    Calls Tryd.prog 12 #[x.val A1 c1, y.val A2 c2] w fun e w' => e = .returned (.bool (x.eqb y)) ∧ Below w.heap.size w w' := by
  obtain ⟨r, hr⟩ : ∃ r, x.eqb y = r := ⟨_, rfl⟩
  rw [hr]
  unfold Cq.eqb at hr
  obtain ⟨a1, a2, a3, a4, a5, a6⟩ := x
  obtain ⟨b1, b2, b3, b4, b5, b6⟩ := y
  have hbx : Below w.heap.size w ((w.alloc (.cells #[.int .i64 a1, .string a2, .string a3, .int .i64 a4, .int .i64 a5, .slice A1 a6.length c1] 26)).alloc (.cells #[.int .i64 b1, .string b2, .string b3, .int .i64 b4, .int .i64 b5, .slice A2 b6.length c2] 26)) := ((Below.refl _ _).alloc (Nat.le_refl _) _).alloc (by simp) _
  have HSM := Lib.hid (same_any A1 A2 c1 c2 B a6 b6 _ (h1.below (hbx.mono hB)) (h2.below (hbx.mono hB)) k1 k2)
  have HBX := Lib.hid hbx
  have HR := Lib.hid hr
  clear h1 h2 hr hbx
  by_cases t1 : a1 = b1
  · subst t1
    by_cases t2 : a2 = b2
    · subst t2
      by_cases t3 : a3 = b3
      · subst t3
        by_cases t4 : a4 = b4
        · subst t4
          by_cases t5 : a5 = b5
          · subst t5
            have hr2 : decide (a6 = b6) = r := by rw [← HR.out]; simp
            rw [hr2] at HSM
            clear hr2
            go_enter Tryd.func12, Tryd.ntmps12
            go_wp2_with fail
            refine HSM.out.mono ?_
            rintro e w1 ⟨rfl, n, rfl⟩
            go_wp2
            go_ret
            exact ⟨rfl, bdrewN HBX.out n⟩
          · go_enter Tryd.func12, Tryd.ntmps12
            go_wp2_with fail
            go_ret
            exact ⟨ret_bool (by rw [← HR.out]; simp [t5]), HBX.out⟩
        · go_enter Tryd.func12, Tryd.ntmps12
          go_wp2_with fail
          go_ret
          exact ⟨ret_bool (by rw [← HR.out]; simp [t4]), HBX.out⟩
      · have q1 := str_ne t3
        have q2 : (a3.toList == b3.toList) = false := by simpa using q1
        go_enter Tryd.func12, Tryd.ntmps12
        go_wp2_with fail
        go_ret
        exact ⟨ret_bool (by rw [← HR.out]; simp [t3]), HBX.out⟩
    · have q1 := str_ne t2
      have q2 : (a2.toList == b2.toList) = false := by simpa using q1
      go_enter Tryd.func12, Tryd.ntmps12
      go_wp2_with fail
      go_ret
      exact ⟨ret_bool (by rw [← HR.out]; simp [t2]), HBX.out⟩
  · go_enter Tryd.func12, Tryd.ntmps12
    go_wp2_with fail
    go_ret
    exact ⟨ret_bool (by rw [← HR.out]; simp [t1]), HBX.out⟩

set_option maxRecDepth 100000 in
set_option maxHeartbeats 4000000 in
theorem samean_any (x y : An) (A1 A2 A3 A4 : Option Addr) (c1 c2 c3 c4 B : Nat) (w : World) (h1 : Sl w B A1 (bv x.d)) (h2 : Sl w B A2 (bv y.d)) (h3 : Sl w B A3 (x.ns.map Value.string)) (h4 : Sl w B A4 (y.ns.map Value.string)) (k1 : x.d.length ≤ maxLen) (k2 : y.d.length ≤ maxLen) (k3 : x.ns.length ≤ maxLen) (k4 : y.ns.length ≤ maxLen) (hB : B ≤ w.heap.size) :
    Calls Tryd.prog 13 #[x.val A1 c1 A3 c3, y.val A2 c2 A4 c4] w fun e w' => e = .returned (.bool (x.eqb y)) ∧ Below w.heap.size w w' := by
  obtain ⟨r, hr⟩ : ∃ r, x.eqb y = r := ⟨_, rfl⟩
  rw [hr]
  unfold An.eqb at hr
  obtain ⟨a1, a2, a3, a4, a5, a6⟩ := x
  obtain ⟨b1, b2, b3, b4, b5, b6⟩ := y
  have hbx : Below w.heap.size w ((w.alloc (.cells #[.int .i64 a1, .int .i64 a2, .int .i64 a3, .int .i64 a4, .slice A1 a5.length c1, .slice A3 a6.length c3] 30)).alloc (.cells #[.int .i64 b1, .int .i64 b2, .int .i64 b3, .int .i64 b4, .slice A2 b5.length c2, .slice A4 b6.length c4] 30)) := ((Below.refl _ _).alloc (Nat.le_refl _) _).alloc (by simp) _
  have HSM := Lib.hid (same_any A1 A2 c1 c2 B a5 b5 _ (h1.below (hbx.mono hB)) (h2.below (hbx.mono hB)) k1 k2)
  have HTX := Lib.hid (fun q => texts_any A3 A4 c3 c4 B a6 b6 (World.drewN ((w.alloc (.cells #[.int .i64 a1, .int .i64 a2, .int .i64 a3, .int .i64 a4, .slice A1 a5.length c1, .slice A3 a6.length c3] 30)).alloc (.cells #[.int .i64 b1, .int .i64 b2, .int .i64 b3, .int .i64 b4, .slice A2 b5.length c2, .slice A4 b6.length c4] 30)) q) ((h3.below (hbx.mono hB)).drewN q) ((h4.below (hbx.mono hB)).drewN q) k3 k4)
  have HBX := Lib.hid hbx
  have HR := Lib.hid hr
  clear h1 h2 h3 h4 hr hbx
  by_cases t1 : a1 = b1
  · subst t1
    by_cases t2 : a2 = b2
    · subst t2
      by_cases t3 : a3 = b3
      · subst t3
        by_cases t4 : a4 = b4
        · subst t4
          by_cases t5 : a5 = b5
          · rw [decide_eq_true t5] at HSM
            have hr2 : decide (a6 = b6) = r := by rw [← HR.out]; simp [t5]
            rw [hr2] at HTX
            clear hr2 t5
            go_enter Tryd.func13, Tryd.ntmps13
            go_wp2_with fail
            refine HSM.out.mono ?_
            rintro e w1 ⟨rfl, n, rfl⟩
            go_wp2_with fail
            refine (HTX.out n).mono ?_
            rintro e w2 ⟨rfl, m, rfl⟩
            go_wp2
            go_ret
            exact ⟨rfl, by first | exact bdrewN HBX.out _ | exact bdrewN (bdrewN HBX.out n) m⟩
          · rw [decide_eq_false t5] at HSM
            go_enter Tryd.func13, Tryd.ntmps13
            go_wp2_with fail
            refine HSM.out.mono ?_
            rintro e w1 ⟨rfl, n, rfl⟩
            go_wp2_with fail
            go_ret
            exact ⟨ret_bool (by rw [← HR.out]; simp [t5]), bdrewN HBX.out n⟩
        · go_enter Tryd.func13, Tryd.ntmps13
          go_wp2_with fail
          go_ret
          exact ⟨ret_bool (by rw [← HR.out]; simp [t4]), HBX.out⟩
      · go_enter Tryd.func13, Tryd.ntmps13
        go_wp2_with fail
        go_ret
        exact ⟨ret_bool (by rw [← HR.out]; simp [t3]), HBX.out⟩
    · go_enter Tryd.func13, Tryd.ntmps13
      go_wp2_with fail
      go_ret
      exact ⟨ret_bool (by rw [← HR.out]; simp [t2]), HBX.out⟩
  · go_enter Tryd.func13, Tryd.ntmps13
    go_wp2_with fail
    go_ret
    exact ⟨ret_bool (by rw [← HR.out]; simp [t1]), HBX.out⟩
end Go.Proofs.YtjkilpjdgjijiaaDoor
