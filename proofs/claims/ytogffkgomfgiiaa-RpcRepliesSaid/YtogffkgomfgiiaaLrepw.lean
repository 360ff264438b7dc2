/- tidelinelaw12.RpcReplies: the walk. -/
import Derived.Test.YtogffkgomfgiiaaReply
import Derived.Deep.DeepCutAuto
namespace Go.Proofs.Ytogffkgomfgiiaa
open Go.RowKit
set_option linter.unusedVariables false

theorem msame_true (m n : Msg) (A1 A2 A3 A4 : Option Addr) (c1 c2 c3 c4 B : Nat) (w : World) (h1 : Sl w B A1 (bv m.cd)) (h2 : Sl w B A2 (bv m.va)) (h3 : Sl w B A3 (bv n.cd)) (h4 : Sl w B A4 (bv n.va))
    (k1 : m.cd.length ≤ maxLen) (k2 : m.va.length ≤ maxLen) (k3 : n.cd.length ≤ maxLen) (k4 : n.va.length ≤ maxLen) (hB : B ≤ w.heap.size) (h : m = n) :
    Calls Try.prog 13 #[m.val A1 c1 A2 c2, n.val A3 c3 A4 c4] w fun e w' => e = .returned (.bool true) ∧ Below w.heap.size w w' := by
  rw [← (Msg.eqb_iff m n).2 h]
  exact msame_any m n A1 A2 A3 A4 c1 c2 c3 c4 B w h1 h2 h3 h4 k1 k2 k3 k4 hB

theorem ans_as {m n : Msg} {A1 A2 A3 A4 : Option Addr} {c1 c2 c3 c4 : Nat} {r : Bool} (h : m.ans n = r) (w : World) :
    Calls Try.prog 14 #[m.val A1 c1 A2 c2, n.val A3 c3 A4 c4] w fun e w' => e = .returned (.bool r) ∧ Below w.heap.size w w' := by
  rw [← h]; exact answers_any m n A1 A2 A3 A4 c1 c2 c3 c4 w
theorem ans_reply (m : Msg) (e : Int) : (m.reply e).ans m = !m.re := by simp [Msg.ans]

set_option maxRecDepth 100000 in
set_option maxHeartbeats 4000000 in
theorem rpcReplies_walk (m n : Msg) (A1 A2 A3 A4 : Option Addr) (c1 c2 c3 c4 : Nat) (e0 : Int) (w : World) :
    Calls Try.prog 3 #[m.val A1 c1 A2 c2, n.val A3 c3 A4 c4, .int .i64 e0] w fun e w' => e = .returned (.bool true) ∧ Below w.heap.size w w' := by
  obtain ⟨a1, a2, a3, a4, a5, a6, a7, a8, a9, a10, a11, a12, a13, a14, a15, a16⟩ := m
  obtain ⟨b1, b2, b3, b4, b5, b6, b7, b8, b9, b10, b11, b12, b13, b14, b15, b16⟩ := n
  unfold Msg.val
  dsimp only
  go_enter Try.func3, Try.ntmps3
  go_wp2_with fail
  refine (speaks12_any _).mono ?_
  rintro e W1 ⟨rfl, hb⟩
  obtain ⟨p1, -, l1⟩ := ((Blk.new w _ 29).alloc _).belowAll hb
  obtain ⟨p2, -, l2⟩ := (Blk.new (w.alloc _) _ 29).belowAll hb
  have hB1 := (((Below.refl w.heap.size w).alloc (Nat.le_refl _) _).alloc (by simp) _).trans (hb.mono (by simp; omega))
  simp only [World.size_alloc] at p2 l2
  clear hb
  go_wp2_with fail
  refine (reply_any ⟨a1, a2, a3, a4, a5, a6, a7, a8, a9, a10, a11, a12, a13, a14, a15, a16⟩ A1 A2 c1 c2 e0 _).mono ?_
  rintro e W2 ⟨rfl, hb⟩
  have q1 : ∀ i, W2.cell? ⟨w.heap.size, i, none⟩ = _ := fun i => (hb.cell (p := ⟨w.heap.size, i, none⟩) l1).trans (p1 i)
  have q2 : ∀ i, W2.cell? ⟨w.heap.size + 1, i, none⟩ = _ := fun i => (hb.cell (p := ⟨w.heap.size + 1, i, none⟩) l2).trans (p2 i)
  have l1 : w.heap.size < W2.heap.size := Nat.lt_of_lt_of_le l1 hb.size
  have l2 : w.heap.size + 1 < W2.heap.size := Nat.lt_of_lt_of_le l2 hb.size
  have hB2 := hB1.trans (hb.mono hB1.size)
  clear hb hB1 p1 p2
  obtain ⟨r, hr⟩ : ∃ r : Bool, Msg.ans ⟨b1, b2, b3, b4, b5, b6, b7, b8, b9, b10, b11, b12, b13, b14, b15, b16⟩ ⟨a1, a2, a3, a4, a5, a6, a7, a8, a9, a10, a11, a12, a13, a14, a15, a16⟩ = r := ⟨_, rfl⟩
  have HR := Lib.hid hr
  clear hr
  obtain ⟨t1, e1⟩ : ∃ t, (b2 == a1) = t := ⟨_, rfl⟩
  obtain ⟨t2, e2⟩ : ∃ t, (b1 == a2) = t := ⟨_, rfl⟩
  obtain ⟨t3, e3⟩ : ∃ t, (b3 == a3) = t := ⟨_, rfl⟩
  obtain ⟨t4, e4⟩ : ∃ t, (b5 == a5) = t := ⟨_, rfl⟩
  obtain ⟨t5, e5⟩ : ∃ t, (b6 == a6) = t := ⟨_, rfl⟩
  obtain ⟨t6, e6⟩ : ∃ t, (b7 == a7) = t := ⟨_, rfl⟩
  have HR0 := HR
  have HR : Hid ((b4 && !a4 && t1 && t2 && t3 && t4 && t5 && t6) = r) := by
    have := HR.out
    unfold Msg.ans at this
    dsimp only at this
    rwa [e1, e2, e3, e4, e5, e6] at this
  go_upto_region 5 with fail
  go_cut [0, 1, 9, 12] (fun s0 s1 s9 s12 wx => s9 = .bool r ∧ (∀ i, wx.cell? ⟨w.heap.size, i, none⟩ = (#[.int .i64 a1, .int .i64 a2, .int .i64 a3, .bool a4, .int .i64 a5, .int .i64 a6, .int .i64 a7, .int .i64 a8, .slice A1 a9.length c1, .int .i64 a10, .int .i64 a11, .slice A2 a12.length c2, .int .i64 a13, .int .i64 a14, .int .i64 a15, .int .i64 a16] : Array Value)[i]?) ∧ (∀ i, wx.cell? ⟨w.heap.size + 1, i, none⟩ = (#[.int .i64 b1, .int .i64 b2, .int .i64 b3, .bool b4, .int .i64 b5, .int .i64 b6, .int .i64 b7, .int .i64 b8, .slice A3 b9.length c3, .int .i64 b10, .int .i64 b11, .slice A4 b12.length c4, .int .i64 b13, .int .i64 b14, .int .i64 b15, .int .i64 b16] : Array Value)[i]?) ∧
    (∀ i, wx.cell? ⟨W2.heap.size, i, none⟩ = (#[.int .i64 a2, .int .i64 a1, .int .i64 a3, .bool true, .int .i64 a5, .int .i64 a6, .int .i64 a7, .int .i64 0, .slice none 0 0, .int .i64 0, .int .i64 0, .slice none 0 0, .int .i64 e0, .int .i64 0, .int .i64 0, .int .i64 0] : Array Value)[i]?) ∧ (∀ i, wx.cell? ⟨W2.heap.size + 1, i, none⟩ = (#[.int .i64 a2, .int .i64 a1, .int .i64 a3, .bool true, .int .i64 a5, .int .i64 a6, .int .i64 a7, .int .i64 0, .slice none 0 0, .int .i64 0, .int .i64 0, .slice none 0 0, .int .i64 e0, .int .i64 0, .int .i64 0, .int .i64 0] : Array Value)[i]?) ∧ Below w.heap.size w wx ∧ W2.heap.size + 1 < wx.heap.size)
  case first =>
    go_wp2
    all_goals
      go_meet
      refine ⟨?_, ?_, ?_, ?_, ?_, ?_, ?_⟩
      · have := HR.out
        rw [← this]
        simp [*]
      · intro i
        rw [World.cell?_alloc_lt _ _ _ (by simp; omega), World.cell?_alloc_lt _ _ _ l1]
        exact q1 i
      · intro i
        rw [World.cell?_alloc_lt _ _ _ (by simp; omega), World.cell?_alloc_lt _ _ _ l2]
        exact q2 i
      · intro i; simp
      · intro i; simp
      · exact (hB2.alloc (by omega) _).alloc (by simp; omega) _
      · simp
  case rest =>

    obtain ⟨rfl, k1, k2, k3, k4, hB, hs⟩ := hcut
    have HA : Hid (∀ w, Calls Try.prog 14 #[.agg #[.int .i64 b1, .int .i64 b2, .int .i64 b3, .bool b4, .int .i64 b5, .int .i64 b6, .int .i64 b7, .int .i64 b8, .slice A3 b9.length c3, .int .i64 b10, .int .i64 b11, .slice A4 b12.length c4, .int .i64 b13, .int .i64 b14, .int .i64 b15, .int .i64 b16], .agg #[.int .i64 a1, .int .i64 a2, .int .i64 a3, .bool a4, .int .i64 a5, .int .i64 a6, .int .i64 a7, .int .i64 a8, .slice A1 a9.length c1, .int .i64 a10, .int .i64 a11, .slice A2 a12.length c2, .int .i64 a13, .int .i64 a14, .int .i64 a15, .int .i64 a16]] w fun e w' => e = .returned (.bool r) ∧ Below w.heap.size w w') := fun w => ans_as (m := ⟨b1, b2, b3, b4, b5, b6, b7, b8, b9, b10, b11, b12, b13, b14, b15, b16⟩) (n := ⟨a1, a2, a3, a4, a5, a6, a7, a8, a9, a10, a11, a12, a13, a14, a15, a16⟩) HR0.out w
    have HB : Hid (∀ w, Calls Try.prog 14 #[.agg #[.int .i64 a2, .int .i64 a1, .int .i64 a3, .bool true, .int .i64 a5, .int .i64 a6, .int .i64 a7, .int .i64 0, .slice none 0 0, .int .i64 0, .int .i64 0, .slice none 0 0, .int .i64 e0, .int .i64 0, .int .i64 0, .int .i64 0], .agg #[.int .i64 a1, .int .i64 a2, .int .i64 a3, .bool a4, .int .i64 a5, .int .i64 a6, .int .i64 a7, .int .i64 a8, .slice A1 a9.length c1, .int .i64 a10, .int .i64 a11, .slice A2 a12.length c2, .int .i64 a13, .int .i64 a14, .int .i64 a15, .int .i64 a16]] w fun e w' => e = .returned (.bool (!a4)) ∧ Below w.heap.size w w') := fun w => ans_as (m := Msg.reply ⟨a1, a2, a3, a4, a5, a6, a7, a8, a9, a10, a11, a12, a13, a14, a15, a16⟩ e0) (n := ⟨a1, a2, a3, a4, a5, a6, a7, a8, a9, a10, a11, a12, a13, a14, a15, a16⟩) (A1 := none) (A2 := none) (c1 := 0) (c2 := 0) (ans_reply ⟨a1, a2, a3, a4, a5, a6, a7, a8, a9, a10, a11, a12, a13, a14, a15, a16⟩ e0) w
    have HC : Hid (∀ w, Calls Try.prog 13 #[.agg #[.int .i64 a2, .int .i64 a1, .int .i64 a3, .bool true, .int .i64 a5, .int .i64 a6, .int .i64 a7, .int .i64 0, .slice none 0 0, .int .i64 0, .int .i64 0, .slice none 0 0, .int .i64 e0, .int .i64 0, .int .i64 0, .int .i64 0], .agg #[.int .i64 a2, .int .i64 a1, .int .i64 a3, .bool true, .int .i64 a5, .int .i64 a6, .int .i64 a7, .int .i64 0, .slice none 0 0, .int .i64 0, .int .i64 0, .slice none 0 0, .int .i64 e0, .int .i64 0, .int .i64 0, .int .i64 0]] w fun e w' => e = .returned (.bool true) ∧ Below w.heap.size w w') := fun w =>
      msame_true (Msg.reply ⟨a1, a2, a3, a4, a5, a6, a7, a8, a9, a10, a11, a12, a13, a14, a15, a16⟩ e0) (Msg.reply ⟨a1, a2, a3, a4, a5, a6, a7, a8, a9, a10, a11, a12, a13, a14, a15, a16⟩ e0) none none none none 0 0 0 0 0 w Sl.nil Sl.nil Sl.nil Sl.nil (Nat.zero_le _) (Nat.zero_le _) (Nat.zero_le _) (Nat.zero_le _) (Nat.zero_le _) rfl
    have h0 : w.heap.size < wc.heap.size := by omega
    have h1 : w.heap.size + 1 < wc.heap.size := by omega
    have h2 : W2.heap.size < wc.heap.size := by omega
    clear HR HR0 e1 e2 e3 e4 e5 e6 q1 q2 l1 l2 hB2
    go_wp2_with fail
    refine wp_region_over (by kernel_rfl) (by kernel_rfl) ?_
    repeat (go_big_quiet_step (first
      | (go_at_call 13; with_reducible exact over_call (HC.out _))
      | (go_at_call 14; with_reducible exact over_call (HA.out _))
      | (go_at_call 14; with_reducible exact over_call (HB.out _))))
    refine wpQuiet_nil ?_
    rintro _ ⟨u, rfl⟩
    go_wp2
    go_ret
    exact ⟨rfl, hB.trans ((over_below _ _).mono (by omega))⟩
end Go.Proofs.Ytogffkgomfgiiaa
