/- slices.DeleteFunc at numbers: the walk. -/
import Derived.Test.YtohahhijbneheaaDoorPlanE
import Derived.Deep.RegionLaw
namespace Go.Proofs.YtohahhijbneheaaDoor
open Go.RowKit
set_option linter.unusedVariables false

set_option maxRecDepth 100000 in
set_option maxHeartbeats 1000000 in
theorem dfunc_ints (base g c : Nat) (l : List Int) (fr : FuncId) (caps : Array Value) (p : Int → Bool) (w : World) (ho : w.ownsRow base 3 1 (.slice (some ⟨g, 0, none⟩) l.length c) l.length (iv l)) (hl : l.length ≤ 1000) (hc : l.length ≤ c)
    (hent : ∀ args w, (callFunc fr args).run Tryd.prog w = .ok (.enter fr args) w)
    (hp : ∀ v W, w.grownBy W (some g) → Calls Tryd.prog fr (#[.int .i64 v] ++ caps) W fun en w' => en = .returned (.bool (p v)) ∧ w' = W) :
    Calls Tryd.prog 44 #[.slice (some ⟨g, 0, none⟩) l.length c, .func (.func fr) #[] caps] w fun en w' =>
      en = .returned (.slice (some ⟨g, 0, none⟩) (keepI p l).length c) ∧ w'.ownsRow base 3 1 (.slice (some ⟨g, 0, none⟩) (keepI p l).length c) (keepI p l).length (iv (keepI p l)) ∧ w.grownBy w' (some g) := by
  have hif := ifunc_ints (some ⟨g, 0, none⟩) c l fr caps p w.heap.size w (Sl.of_own ho) (by unfold maxLen; omega) hent (fun v q => hp v _ (grownBy_drewN w q _))
  have HIF := Lib.hid hif
  have HP := Lib.hid hp
  have HO := Lib.hid ho
  have h63 : (l.length : Int) ≤ 1000 := by omega
  have hcc : (l.length : Int) ≤ (c : Int) := by omega
  clear hif hp ho
  go_enter Tryd.func44, Tryd.ntmps44
  go_wp2_with fail
  refine HIF.out.mono ?_
  rintro e W1 ⟨⟨k, hk, hno, (⟨rfl, rfl⟩ | ⟨hkl, hpk, rfl⟩)⟩, q, rfl⟩
  · rw [List.take_length] at hno
    have HNO := Lib.hid hno
    clear hno
    go_wp2_with fail
    go_ret
    rw [keepI_all HNO.out]
    exact ⟨rfl, HO.out.kept (grownBy_drewN w q none) (.inr (by simp [Value.ownBlock])), grownBy_drewN w q _⟩
  · have hS : DelS base g c l p w k (k + 1) l (w.drewN q) := by
      have e : keepI p (l.take (k + 1)) = l.take k := by rw [List.take_succ_eq_append_getElem hkl, keepI_snoc, if_pos hpk, List.append_nil, keepI_all hno]
      exact ⟨rfl, by omega, by rw [e, List.length_take]; omega, by rw [e], rfl, HO.out.kept (grownBy_drewN w q none) (.inr (by simp [Value.ownBlock])), grownBy_drewN w q _⟩
    have HS := Lib.hid hS
    have hkn : (k : Int) < ((l.length : Nat) : Int) := by omega
    have hkm : ¬ ((k : Int) = -1) := by omega
    clear hno hpk hS hk HIF
    go_wp2_with fail
    have hkb : ((k : Int) == -1) = false := by rw [beq_eq_false_iff_ne]; omega
    rw [hkb]
    go_loopw [5, 6] (fun s5 s6 wr => ∃ (i j : Nat) (m : List Int), j ≤ l.length ∧ s5 = .int .i64 (i : Int) ∧ s6 = .int .i64 (j : Int) ∧ Hid (DelS base g c l p w i j m wr)) (fun _ s6 _ => l.length - (intOf s6).toNat)
    case atStart => exact ⟨k, k + 1, l, by omega, rfl, by simp, HS⟩
    case round =>
      obtain ⟨i, j, m, hj, rfl, rfl, hd⟩ := hrel
      have hij := hd.out.ij
      by_cases hlt : j < l.length
      · have hi1 : (j : Int) < ((l.length : Nat) : Int) := by omega
        have hi2 : (i : Int) < ((l.length : Nat) : Int) := by omega
        have hc1 := hd.out.at hlt
        obtain ⟨z, hz⟩ : ∃ z, l[j] = z := ⟨_, rfl⟩
        rw [hz] at hc1
        have HZ := Lib.hid hz
        obtain ⟨r, hr⟩ : ∃ r, p z = r := ⟨_, rfl⟩
        have HR := Lib.hid hr
        have hcall := HP.out z wr hd.out.grow
        rw [hr] at hcall
        have HC := Lib.hid hcall
        clear hz hr hcall
        have hci := hd.out.own
        have hfi : wr.frozen? ⟨g, i, none⟩ = false := by
          obtain ⟨_, cur, q1⟩ := row_obj hd.out.own
          simp [World.frozen?, q1]
        have hsi : (wr.cell? ⟨g, i, none⟩).isSome = true := by
          have hil : i < m.length := by rw [hd.out.len]; omega
          have hcc := hd.out.own.cells (g := g) rfl i (.int .i64 m[i]) (by simp [iv, hil])
          rw [show ((⟨g, 0, none⟩ : Addr).add i) = ⟨g, i, none⟩ by simp [Addr.add]; exact fun e => e.symm] at hcc
          rw [hcc]; rfl
        obtain ⟨u, hu⟩ := Option.isSome_iff_exists.1 hsi
        clear hsi hci
        cases r with
        | true =>
          have HK : Hid (DelS base g c l p w i (j + 1) m wr) := hd.out.skip hlt (by rw [HZ.out]; exact HR.out) (q := 0)
          go_wp2_with fail
          refine HC.out.mono ?_
          rintro e2 w2 ⟨rfl, rfl⟩
          go_wp2_with fail
          go_roundw
          case rel => exact ⟨i, j + 1, m, by omega, by first | rfl | trivial, by go_num, HK⟩
          case measure => simp [intOf]; omega
        | false =>
          have HK := Lib.hid (hd.out.keep hlt (by rw [HZ.out]; exact HR.out))
          rw [HZ.out] at HK
          go_wp2_with fail
          refine HC.out.mono ?_
          rintro e2 w2 ⟨rfl, rfl⟩
          go_wp2_with fail
          go_roundw
          case rel => exact ⟨i + 1, j + 1, _, by omega, by go_num, by go_num, HK⟩
          case measure => simp [intOf]; omega
      · obtain rfl : j = l.length := by omega
        have hend : ¬ (((l.length : Nat) : Int) < ((l.length : Nat) : Int)) := by omega
        have hil := hd.out.ij
        have hic : i ≤ c := by omega
        have hil2 : i ≤ l.length := by omega
        obtain ⟨_, cur, q1⟩ := row_obj hd.out.own
        have hcl : ∀ ty, (Builtin.clear_ #[25] ty #[.slice (some ⟨g, i, none⟩) (l.length - i) (c - i)]).run Tryd.prog wr = .ok (.tuple #[]) (wr.setCells g i (List.replicate (l.length - i) (.int .i64 0))) :=
          fun ty => Lib.run_clear_slice wr _ _ ty _ Tryd.underlying25 zero_int rfl rfl g i _ _ (by omega) (fun t ht => by
            have hl3 : i + t < m.length := by rw [hd.out.len]; omega
            have h4 := hd.out.own.cells (g := g) rfl (i + t) (.int .i64 m[i + t]) (by simp [iv, hl3])
            rw [show ((⟨g, 0, none⟩ : Addr).add (i + t)) = ⟨g, i + t, none⟩ by unfold Addr.add; split <;> simp_all] at h4
            rw [h4]; rfl) (fun t ht => by simp [World.frozen?, q1])
        have HCL := Lib.hid (owns_cells (List.replicate (l.length - i) (.int .i64 0)) i _ _ hd.out.own)
        clear q1
        go_wp2_with (simp only [hcl])
        go_ret
        obtain ⟨⟨ys, h1, h2⟩, h3⟩ := HCL.out
        have hkeep := hd.out.kept
        have hhead := hd.out.head
        rw [List.take_length] at hkeep hhead
        rw [hkeep]
        refine ⟨rfl, ?_, hd.out.grow.trans h3⟩
        have h4 := owns_cutI h1 hil2
        rw [h2] at h4
        have h5 : (iv m).take i = iv (keepI p l) := by rw [← hhead]; unfold iv; rw [List.map_take]
        rw [h5] at h4
        exact h4
end Go.Proofs.YtohahhijbneheaaDoor
