/- Messages: their values, tidelineref09.SameCell, tidelineref12.Same, rpc.Reply, rpc.Answers. -/
import Derived.Test.YtiglgepbffcdeaaDoorSame
import Derived.Test.YtiglgepbffcdeaaDoorMsgMem
namespace Go.Proofs.YtiglgepbffcdeaaDoor
open Go.RowKit
set_option linter.unusedVariables false

/-- A message's plain parts. -/
structure Msg where
  fr : Int
  to : Int
  nu : Int
  re : Bool
  ki : Int
  ep : Int
  att : Int
  wh : Int
  cd : List UInt8
  br : Int
  bw : Int
  va : List UInt8
  er : Int
  ta : Int
  lo : Int
  ba : Int

/-- A message as a value: its two slices at A1, A2. -/
abbrev Msg.val (m : Msg) (A1 : Option Addr) (c1 : Nat) (A2 : Option Addr) (c2 : Nat) : Value :=
  .agg #[.int .i64 m.fr, .int .i64 m.to, .int .i64 m.nu, .bool m.re, .int .i64 m.ki, .int .i64 m.ep, .int .i64 m.att, .int .i64 m.wh, .slice A1 m.cd.length c1,
    .int .i64 m.br, .int .i64 m.bw, .slice A2 m.va.length c2, .int .i64 m.er, .int .i64 m.ta, .int .i64 m.lo, .int .i64 m.ba]

/-- Are two messages one? -/
def Msg.eqb (m n : Msg) : Bool :=
  m.fr == n.fr && m.to == n.to && m.nu == n.nu && m.re == n.re && m.ki == n.ki && m.ep == n.ep && m.att == n.att && m.wh == n.wh && decide (m.cd = n.cd) &&
    m.br == n.br && m.bw == n.bw && decide (m.va = n.va) && m.er == n.er && m.ta == n.ta && m.lo == n.lo && m.ba == n.ba

theorem Msg.eqb_iff (m n : Msg) : m.eqb n = true ↔ m = n := by
  cases m; cases n; simp [Msg.eqb, and_assoc]

/-- What answers what. -/
def Msg.ans (m n : Msg) : Bool :=
  m.re && !n.re && m.to == n.fr && m.fr == n.to && m.nu == n.nu && m.ki == n.ki && m.ep == n.ep && m.att == n.att

abbrev Msg.reply (m : Msg) (e : Int) : Msg := { fr := m.to, to := m.fr, nu := m.nu, re := true, ki := m.ki, ep := m.ep, att := m.att, wh := 0, cd := [], br := 0, bw := 0, va := [], er := e, ta := 0, lo := 0, ba := 0 }

set_option maxHeartbeats 400000 in
theorem samecell_any (x y : Int) (A1 A2 : Option Addr) (c1 c2 B : Nat) (l1 l2 : List UInt8) (w : World) (h1 : Sl w B A1 (bv l1)) (h2 : Sl w B A2 (bv l2)) (hl1 : l1.length ≤ maxLen) (hl2 : l2.length ≤ maxLen) (hB : B ≤ w.heap.size) :
    Calls Tryd.prog 76 #[.agg #[.int .i64 x, .slice A1 l1.length c1], .agg #[.int .i64 y, .slice A2 l2.length c2]] w fun e w' => e = .returned (.bool (x == y && decide (l1 = l2))) ∧ Below w.heap.size w w' := by
  by_cases hxy : x = y
  · subst hxy
    go_enter Tryd.func76, Tryd.ntmps76
    go_wp2_with fail
    refine (same_any A1 A2 c1 c2 B l1 l2 _ ((h1.alloc hB _).alloc (by simp; omega) _) ((h2.alloc hB _).alloc (by simp; omega) _) hl1 hl2).mono ?_
    rintro e w' ⟨rfl, n, rfl⟩
    go_wp2
    go_ret
    exact ⟨ret_bool (by simp), bdrewN (((Below.refl _ _).alloc (Nat.le_refl _) _).alloc (by simp) _) n⟩
  · have hq : (x == y) = false := by simpa using hxy
    go_enter Tryd.func76, Tryd.ntmps76
    go_wp2
    go_ret
    exact ⟨ret_bool (by simp [hxy]), ((Below.refl _ _).alloc (Nat.le_refl _) _).alloc (by simp) _⟩

set_option maxHeartbeats 1000000 in
theorem msame_any (m n : Msg) (A1 A2 A3 A4 : Option Addr) (c1 c2 c3 c4 B : Nat) (w : World) (h1 : Sl w B A1 (bv m.cd)) (h2 : Sl w B A2 (bv m.va)) (h3 : Sl w B A3 (bv n.cd)) (h4 : Sl w B A4 (bv n.va))
    (k1 : m.cd.length ≤ maxLen) (k2 : m.va.length ≤ maxLen) (k3 : n.cd.length ≤ maxLen) (k4 : n.va.length ≤ maxLen) (hB : B ≤ w.heap.size) :
    Calls Tryd.prog 32 #[m.val A1 c1 A2 c2, n.val A3 c3 A4 c4] w fun e w' => e = .returned (.bool (m.eqb n)) ∧ Below w.heap.size w w' := by
  have E : ∀ r : Bool, m.eqb n = r → Hid (m.eqb n = r) := fun _ h => h
  obtain ⟨a1, a2, a3, a4, a5, a6, a7, a8, a9, a10, a11, a12, a13, a14, a15, a16⟩ := m
  obtain ⟨b1, b2, b3, b4, b5, b6, b7, b8, b9, b10, b11, b12, b13, b14, b15, b16⟩ := n
  dsimp only at *
  unfold Msg.eqb at *
  dsimp only at *
  have H1 := Lib.hid h1
  have H2 := Lib.hid h2
  have H3 := Lib.hid h3
  have H4 := Lib.hid h4
  clear h1 h2 h3 h4 E
  go_enter Tryd.func32, Tryd.ntmps32
  go_wp2_with (go_at_call 76; refine (samecell_any _ _ A1 A3 c1 c3 B a9 b9 _ ((H1.out.alloc hB _).alloc (by simp; omega) _) ((H3.out.alloc hB _).alloc (by simp; omega) _) k1 k3 (by simp; omega)).mono ?_; rintro e w1 ⟨rfl, hb⟩; obtain ⟨hc, hf⟩ := bcell hb)
  all_goals try
    go_ret
    refine ⟨ret_bool ?_, ?_⟩
    · simp [*] <;> simp_all
    · first
        | exact ((Below.refl _ _).alloc (Nat.le_refl _) _).alloc (by simp) _
        | exact (((Below.refl _ _).alloc (Nat.le_refl _) _).alloc (by simp) _).trans (hb.mono (by simp; omega))
  refine (same_any A2 A4 c2 c4 B a12 b12 _ (((H2.out.alloc hB _).alloc (by simp; omega) _).below (hb.mono (by simp; omega))) (((H4.out.alloc hB _).alloc (by simp; omega) _).below (hb.mono (by simp; omega))) k2 k4).mono ?_
  rintro e w2 ⟨rfl, nn, rfl⟩
  go_wp2_with fail
  all_goals
    go_ret
    refine ⟨ret_bool ?_, ?_⟩
    · simp [*] <;> simp_all
    · exact bdrewN ((((Below.refl _ _).alloc (Nat.le_refl _) _).alloc (by simp) _).trans (hb.mono (by simp; omega))) _
end Go.Proofs.YtiglgepbffcdeaaDoor
