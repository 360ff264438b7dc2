/- slices.Grow of nil bytes; slices.Concat of bytes. -/
import Derived.Test.YtjkilpjdgjijiaaDoorWriter
import Derived.Test.YtjkilpjdgjijiaaDoorAppB
import Derived.Lib.AppendZeros
namespace Go.Proofs.YtjkilpjdgjijiaaDoor
open Go.RowKit
set_option linter.unusedVariables false

/-- append(nil, make([]byte, n)...). -/
theorem wpList_append_nil_zeros {ops : Array Oper} {rest : List Oper} {o : Oper} {a : Act} {w : World} {Q : Exit → Act → World → Prop} (hg : o.guard = none) (s x : Operand)
    (hop : o.op = .call { callee := .builtin .append, args := #[s, x], argTypes := #[22, 3] }) (n : Nat) (hs : a.eval s = .slice none 0 0) (hx : a.eval x = .int .i64 (n : Int)) (h0 : 0 < n) (hn : n ≤ 70368744177664)
    (hK : ∀ cap cs, cap ≤ maxLen → n ≤ cap → cs.size = cap * 1 → wpList Tryd.prog ops Q rest (a.put o.dst (.slice (some ⟨w.heap.size, 0, none⟩) n cap)) (w.drew.alloc (.cells cs 5))) : wpList Tryd.prog ops Q (o :: rest) a w := by
  obtain ⟨i0, hi, hz0, hz1, hz2⟩ := info_parts Tryd.info_u8
  refine wpList_plain hg fun K hK' => ?_
  have hr := Lib.run_append_nil_zeros (P := Tryd.prog) w 22 3 o.type 5 i0 (.int .u8 0) .i64 .i64 Tryd.underlying22 Tryd.underlying3 hi hz0 n h0 (by omega) (by omega) (by rw [hz2]; omega)
  unfold Oper.wp execOp
  simp only [hop, resolve, invoke, builtin, Sem.run_bind, Sem.run_pure, Result.andThen_ok, List.map_toArray, List.map_cons, List.map_nil, hs, hx, hr]
  refine hK' _ _ (hK _ _ (grownCap_le_maxLen _ _ _ _ (by unfold maxLen; omega)) (grownCap_ge _ _ _ _) ?_)
  have := grownCap_ge w n 0 5
  simp [Builtin.zeroCells, Value.cells]
  omega

set_option maxHeartbeats 1000000 in
theorem grow_nil (n : Nat) (h0 : 0 < n) (hn : n ≤ 70368744177664) (w : World) :
    Calls Tryd.prog 74 #[.slice none 0 0, .int .i64 (n : Int)] w fun e w' => ∃ v, e = .returned v ∧ w'.ownsRow w.heap.size 5 1 v 0 (bv []) ∧ Below w.heap.size w w' := by
  have h1 : ¬ ((n : Int) < 0) := by omega
  have h2 : (0 : Int) < (n : Int) := by omega
  have HN := Lib.hid hn
  have H0 := Lib.hid h0
  go_enter Tryd.func74, Tryd.ntmps74
  go_wp2_with (at_builtin; refine wpList_append_nil_zeros rfl _ _ rfl n rfl rfl H0.out HN.out ?_; intro cap cs hcm hcn hcs)
  go_ret
  have hb : Below w.heap.size w (w.drew.alloc (.cells cs 5)) := (bdrewN_refl _ w 1).alloc (Nat.le_refl _) _
  exact ⟨_, rfl, World.ownsRow_made w.drew cs cap (Nat.le_refl _) hcm hcs, hb⟩

/-- One of the pieces. -/
structure Pc where
  A : Option Addr
  c : Nat
  l : List UInt8
abbrev Pc.sl (p : Pc) : Value := .slice p.A p.l.length p.c
def Pc.total (ps : List Pc) : Nat := (ps.map (·.l.length)).sum
def Pc.all (ps : List Pc) : List UInt8 := ps.flatMap (·.l)
theorem Pc.all_len (ps : List Pc) : (Pc.all ps).length = Pc.total ps := by simp [Pc.all, Pc.total, List.length_flatMap]
theorem Pc.total_snoc (ps : List Pc) (p : Pc) : Pc.total (ps ++ [p]) = Pc.total ps + p.l.length := by simp [Pc.total]
theorem Pc.all_snoc (ps : List Pc) (p : Pc) : Pc.all (ps ++ [p]) = Pc.all ps ++ p.l := by simp [Pc.all]
theorem Pc.total_app (a b : List Pc) : Pc.total (a ++ b) = Pc.total a + Pc.total b := by simp [Pc.total]
theorem Pc.total_take (ps : List Pc) (k : Nat) : Pc.total (ps.take k) ≤ Pc.total ps := by
  have e := Pc.total_app (ps.take k) (ps.drop k)
  rw [List.take_append_drop] at e
  omega

set_option maxRecDepth 100000 in
set_option maxHeartbeats 2000000 in
theorem concat_ok (A : Option Addr) (c B : Nat) (ps : List Pc) (w : World) (hs : Sl w B A (ps.map Pc.sl)) (hB : B ≤ w.heap.size) (hp : ∀ p ∈ ps, Sl w B p.A (bv p.l) ∧ (p.A = none → p.c = 0)) (h0 : 0 < Pc.total ps) (hn : Pc.total ps ≤ 70368744177664) (hl : ps.length ≤ 1000000) :
    Calls Tryd.prog 60 #[.slice A ps.length c] w fun e w' => NewBytes w.heap.size (Pc.all ps) e w' ∧ Below w.heap.size w w' := by
  have HP := Lib.hid hp
  have H0 := Lib.hid h0
  have HN := Lib.hid hn
  clear hp h0 hn
  go_enter Tryd.func60, Tryd.ntmps60
  go_wp2_with fail
  go_loopw [3, 11] (fun s3 s wr => ∃ k : Nat, k ≤ ps.length ∧ s = .int .i64 (k : Int) ∧ s3 = .int .i64 (Pc.total (ps.take k) : Int) ∧ wr = w) (fun _ s _ => ps.length - (intOf s).toNat)
  case atStart => exact ⟨0, Nat.zero_le _, rfl, rfl, rfl⟩
  case round =>
    obtain ⟨k, hk, rfl, rfl, rfl⟩ := hrel
    by_cases hlt : k < ps.length
    · obtain ⟨b1, o1, rfl, hb1, hc1⟩ := hs.at (k := k) (by simpa using hlt)
      rw [List.getElem_map, show ps[k].sl = Value.slice ps[k].A ps[k].l.length ps[k].c from rfl] at hc1
      have hi : (k : Int) < ((ps.length : Nat) : Int) := by omega
      obtain ⟨m, hm⟩ : ∃ m, Pc.total (ps.take k) = m := ⟨_, rfl⟩
      have hm1 : Pc.total (ps.take (k + 1)) = m + ps[k].l.length := by rw [List.take_succ_eq_append_getElem hlt, Pc.total_snoc, hm]
      have hmb : m + ps[k].l.length ≤ 70368744177664 := by rw [← hm1]; exact Nat.le_trans (Pc.total_take _ _) HN.out
      have hneg : ¬ ((m : Int) + ((ps[k].l.length : Nat) : Int) < 0) := by omega
      have HM := Lib.hid hm1
      rw [hm]
      clear hm hm1
      go_wp2_with fail
      go_roundw
      case rel => exact ⟨k + 1, by omega, by simp, by rw [HM.out, Int.natCast_add], trivial⟩
      case measure => simp [intOf]; omega
    · have hkk : k = ps.length := by omega
      subst hkk
      rw [List.take_length]
      go_wp2_with fail
      refine (grow_nil (Pc.total ps) H0.out HN.out wr).mono ?_
      rintro e W1 ⟨v1, rfl, hown, hb⟩
      have HO := Lib.hid hown
      clear hown
      go_wp2_with fail
      go_loopw [6, 27] (fun s6 s wr2 => ∃ k : Nat, k ≤ ps.length ∧ s = .int .i64 (k : Int) ∧ Hid (wr2.ownsRow wr.heap.size 5 1 s6 (Pc.total (ps.take k)) (bv (Pc.all (ps.take k)))) ∧ Below wr.heap.size wr wr2) (fun _ s _ => ps.length - (intOf s).toNat)
      case atStart => exact ⟨0, Nat.zero_le _, rfl, HO.out, hb⟩
      case round =>
        obtain ⟨k, hk2, rfl, ho, hb2⟩ := hrel
        by_cases hlt2 : k < ps.length
        · obtain ⟨b1, o1, rfl, hb1, hc1⟩ := (hs.below (hb2.mono hB)).at (k := k) (by simpa using hlt2)
          rw [List.getElem_map, show ps[k].sl = Value.slice ps[k].A ps[k].l.length ps[k].c from rfl] at hc1
          have hi : (k : Int) < ((ps.length : Nat) : Int) := by omega
          have hm1 : Pc.total (ps.take (k + 1)) = Pc.total (ps.take k) + ps[k].l.length := by rw [List.take_succ_eq_append_getElem hlt2, Pc.total_snoc]
          have hm2 : Pc.all (ps.take (k + 1)) = Pc.all (ps.take k) ++ ps[k].l := by rw [List.take_succ_eq_append_getElem hlt2, Pc.all_snoc]
          have hmb : Hid (Pc.total (ps.take k) + ps[k].l.length ≤ 70368744177664) := by show _ ≤ _; rw [← hm1]; exact Nat.le_trans (Pc.total_take _ _) HN.out
          obtain ⟨A6, c6, hv6⟩ := own_form ho.out
          subst hv6
          have HM1 := Lib.hid hm1
          have HM2 := Lib.hid hm2
          clear hm1 hm2
          go_wp2_with (at_builtin; refine wpList_append_bytes rfl _ _ rfl _ (.slice A6 (Pc.total (ps.take k)) c6) _ (Pc.all (ps.take k)) rfl ho.out ps[k].A ps[k].c B ps[k].l rfl (HP.out _ (List.getElem_mem hlt2)).2 ((HP.out _ (List.getElem_mem hlt2)).1.below (hb2.mono hB)) hmb.out hb2.size ?_; intro v3 W3 ho3 hb3)
          go_roundw
          case rel => exact ⟨k + 1, by omega, by simp, Lib.hid (by rw [HM1.out, HM2.out]; exact ho3), hb2.trans hb3⟩
          case measure => simp [intOf]; omega
        · have hkk : k = ps.length := by omega
          subst hkk
          rw [List.take_length] at ho
          go_wp2
          go_ret
          refine ⟨?_, hb2⟩
          have h3 := ho.out
          rw [← Pc.all_len] at h3
          obtain ⟨A3, c3, e3⟩ := own_form h3
          subst e3
          exact ⟨A3, c3, rfl, h3⟩
end Go.Proofs.YtjkilpjdgjijiaaDoor
