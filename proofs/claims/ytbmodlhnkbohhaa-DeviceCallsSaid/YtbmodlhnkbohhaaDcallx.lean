/- tidelinelaw08.DeviceCalls: the walk. -/
import Derived.Test.YtbmodlhnkbohhaaDcallw
import Derived.Deep.CutRange
import Derived.Deep.CutBlock
namespace Go.Proofs.Ytbmodlhnkbohhaa
open Go.RowKit
set_option linter.unusedVariables false

set_option maxRecDepth 100000 in
set_option maxHeartbeats 4000000 in
theorem dcalls_walk (z : Int) (A : Option Addr) (c : Nat) (cl : List Cl) (w : World) (h : Cls w w.heap.size A cl) (hp : ∀ x ∈ cl, PB0 w x.p) :
    Calls Try.prog 5 #[.int .i64 z, .slice A cl.length c] w fun e w' => e = .returned (.bool true) ∧ Below w.heap.size w w' := by
  have HP := Lib.hid hp
  clear hp
  go_enter Try.func5, Try.ntmps5
  go_wp2_with fail
  refine (dspeak_any w).mono ?_
  rintro e W0 ⟨rfl, B0⟩
  by_cases t1 : (100 : Int) < (cl.length : Int)
  · go_wp2_with fail
    go_ret
    exact ⟨rfl, B0⟩
  · go_wp2_with fail
    by_cases t2 : z < 1
    · refine (new_bad z (.inl t2) _).mono ?_
      rintro e w' ⟨rfl, rfl⟩
      go_wp2_with fail
      go_ret
      exact ⟨rfl, B0⟩
    · by_cases t3 : (65536 : Int) < z
      · refine (new_bad z (.inr t3) _).mono ?_
        rintro e w' ⟨rfl, rfl⟩
        go_wp2_with fail
        go_ret
        exact ⟨rfl, B0⟩
      · obtain ⟨k, rfl⟩ : ∃ k : Nat, z = k := ⟨z.toNat, by omega⟩
        have hk1 : 1 ≤ k := by omega
        have hk2 : k ≤ 65536 := by omega
        refine (new_ok k hk1 hk2 _).mono ?_
        rintro e w' ⟨rfl, rfl⟩
        have D0 := Lib.hid (new_dev W0 w.heap.size k B0.size hk2)
        obtain ⟨W1, hW1⟩ : ∃ W, W0.alloc (.cells #[.int .i64 (k : Int), .slice none 0 0, .int .i64 0] 74) = W := ⟨_, rfl⟩
        have B1 : Below w.heap.size w W1 := by rw [← hW1]; exact B0.alloc B0.size _
        rw [hW1] at D0 ⊢
        clear hW1
        go_wp2_with fail
        refine (free_any D0.out).mono ?_
        rintro e w2 ⟨he0, nf, rfl⟩
        have he : e = .returned (.int .i64 (k : Int)) := by rw [he0]; simp
        subst he
        clear he0
        by_cases t4 : (200 : Int) < (k : Int)
        · go_wp2_with fail
          go_ret
          exact ⟨rfl, bdrewN B1 nf⟩
        · go_wp2_with fail
          have hk3 : k ≤ 200 := by omega
          clear t1 t2 t3 t4
          refine (rnew_ok k hk3 _).mono ?_
          rintro e W2 ⟨rfl, R0, hb2⟩
          have B2 := (bdrewN B1 nf).trans (hb2.mono B1.size)
          have BB0 : Hid (Both W2 w.heap.size W0.heap.size (.slice none 0 0) k [] 0 (W1.heap.size + 1) W1.heap.size (List.replicate k rzero)) :=
            ⟨(D0.out.below (bdrewN_refl _ _ nf)).below hb2, R0.base B1.size, F2.zero k, Good.nil 0, List.length_replicate, Short.nil⟩
          clear R0 hb2 D0
          go_wp2_with fail
          go_loopw [53] (fun s wr => ∃ j : Nat, j ≤ cl.length ∧ s = .int .i64 (j : Int) ∧ ∃ v ps la R rs, Hid (Both wr w.heap.size W0.heap.size v k ps la (W1.heap.size + 1) R rs) ∧ Below w.heap.size w wr) (fun s _ => cl.length - (intOf s).toNat)
          case atStart => exact ⟨0, Nat.zero_le _, rfl, _, _, _, _, _, BB0, B2⟩
          case round =>
            obtain ⟨j, hj, rfl, v, ps, la, R, rs, hB, hbr⟩ := hrel
            clear BB0 B2
            by_cases hlt : j < cl.length
            · obtain ⟨b1, o1, rfl, hb1, hc1, hc2⟩ := (h.below hbr).at (k := j) hlt
              have hi1 : (j : Int) < ((cl.length : Nat) : Int) := by omega
              by_cases ht : (300 : Int) < ((cl[j].p.l.length : Nat) : Int)
              · go_wp2_with fail
                go_ret
                exact ⟨rfl, hbr.alloc hbr.size _⟩
              · have hPB := HP.out cl[j] (List.getElem_mem hlt)
                obtain ⟨⟨q, ⟨_, A1, c1, l⟩⟩, hx⟩ : ∃ x, cl[j] = x := ⟨_, rfl⟩
                rw [hx] at hc1 hc2 ht hPB
                have hl3 : l.length ≤ 300 := by dsimp only at ht; omega
                have HX := Lib.hid hx
                have HPB := Lib.hid hPB
                dsimp only at hc1 hc2
                clear hx hPB ht
                go_upto_block 2 with fail
                have hXh := heap_alloc_new wr (.cells #[.int .i64 q, .slice A1 l.length c1] 41)
                have hbX : Blk (wr.alloc (.cells #[.int .i64 q, .slice A1 l.length c1] 41)) wr.heap.size #[.int .i64 q, .slice A1 l.length c1] := Blk.of_heap hXh
                have hB0 := hB
                have hB := Lib.hid (hB.out.below ((Below.refl _ wr).alloc (Nat.le_refl _) (.cells #[.int .i64 q, .slice A1 l.length c1] 41)))
                have hbX2 := hbr.alloc hbr.size (.cells #[.int .i64 q, .slice A1 l.length c1] 41)
                obtain ⟨X, hX⟩ : ∃ X, wr.alloc (.cells #[.int .i64 q, .slice A1 l.length c1] 41) = X := ⟨_, rfl⟩
                have hXs : X.heap.size = wr.heap.size + 1 := by rw [← hX]; simp
                obtain ⟨gb, hgb⟩ : ∃ gb, wr.heap.size = gb := ⟨_, rfl⟩
                rw [hX] at hbX hB hbX2 hXh ⊢
                rw [hgb] at hbX hXs hXh ⊢
                have HXh := Lib.hid hXh
                clear hXh
                have HXS := Lib.hid hXs
                have hlX := hbX.lt
                have hq0 := hbX.cell
                have hqf := hbX.free
                clear hX hgb hXs hc1 hc2
                go_cut [10, 11] from 61 to 108 (fun _ _ wx => ∃ v ps la R rs, Hid (Both wx w.heap.size W0.heap.size v k ps la (W1.heap.size + 1) R rs) ∧ Below w.heap.size w wx)
                case first =>
                  clear hB0 hbr
                  by_cases q0 : q = 0
                  · subst q0
                    have LL : Hid (0 + l.length ≤ 70368744177664) := by show _ ≤ _; omega
                    go_wp2_with (at_builtin; refine wpList_append_bytes rfl _ _ rfl X.heap.size _ 0 [] rfl (World.ownsRow_made X #[] 0 (Nat.le_refl _) (Nat.zero_le _) rfl) A1 c1 w.heap.size l rfl HPB.out.2.1 (HPB.out.1.below (hbX2.alloc hbX2.size _)) LL.out (by simp) ?_; intro v1 Y1 ho1 hb1)
                    have hbY : Below X.heap.size X Y1 := ((Below.refl _ _).alloc (Nat.le_refl _) _).trans hb1
                    obtain ⟨Ao, co, rfl⟩ := own_form ho1
                    rw [Nat.zero_add, List.nil_append] at ho1
                    have HO := Lib.hid ho1
                    have hBY := Lib.hid (hB.out.below hbY)
                    have BY := hbX2.trans (hbY.mono hbX2.size)
                    have hqY := (hbX.belowAll hbY).cell
                    clear ho1 hb1
                    have HYh : Hid (Y1.heap[gb]? = some (.cells #[.int .i64 0, .slice A1 l.length c1] 41 (0, 0))) := (hbY.block gb hlX).trans HXh.out
                    by_cases hfull : ps.length = k
                    · have HFU := Lib.hid hfull
                      clear hfull
                      go_region_law
                        (first
                          | (go_simp; go_at_call 12
                             refine (append_full (hBY.out.d.below (Below.refl _ _).drew) HFU.out _).mono ?_
                             rintro e Y2 ⟨rfl, nf4, hY2⟩
                             have hqn := fun (i : Nat) => (show Y2.cell? ⟨gb, i, none⟩ = (#[.int .i64 0, .slice A1 l.length c1] : Array Value)[i]? by rw [hY2]; exact hqY i)
                             have HB2 : Hid (Both Y2 w.heap.size W0.heap.size v k ps la (W1.heap.size + 1) R rs) := by rw [hY2]; exact (hBY.out.below (Below.refl _ _).drew).below (bdrewN_refl _ _ nf4)
                             have HO2 : Hid (Y2.ownsRow X.heap.size 5 1 (.slice Ao l.length co) l.length (bv l)) := by rw [hY2]; exact HO
                             have BY2 : Below w.heap.size w Y2 := by rw [hY2]; exact bdrewN BY.drew nf4
                             clear hY2)
                          | (go_simp; go_at_call 20
                             refine (rappend_full HB2.out.r (by rw [HB2.out.next, HFU.out, HB2.out.len]) _).mono ?_
                             rintro e Y3 ⟨rfl, rfl⟩))
                      all_goals
                        have HNB : Hid (∀ ob, Ao = some ⟨ob, 0, none⟩ → (∀ p ∈ ps, ∀ k, (Value.slice p.A p.l.length p.c).ownBlock = some k → k ≠ ob) ∧ (∀ p ∈ rs, ∀ k, (Value.slice p.A p.l.length p.c).ownBlock = some k → k ≠ ob)) := by
                          intro ob hob
                          have h1 := owns_ge HO.out ob (by rw [hob]; rfl)
                          refine ⟨fun p hp i hi => ?_, fun p hp i hi => ?_⟩
                          · have := owns_lt (hB.out.d.pgs p hp) hi; omega
                          · have := owns_lt (hB.out.r.pgs p hp) hi; omega
                        have HB3 := HB2
                        have HO3 := HO2
                        have BY3 := BY2
                        clear HO HB2 HO2 BY2 hqn hqY HYh hBY BY
                        go_wp2_with fail
                        go_loopw [83] (fun s wz => ∃ i : Nat, i ≤ l.length ∧ s = .int .i64 (i : Int) ∧ Hid (Both wz w.heap.size W0.heap.size v k ps la (W1.heap.size + 1) R rs) ∧ Hid (∃ l', l'.length = l.length ∧ wz.ownsRow X.heap.size 5 1 (.slice Ao l.length co) l.length (bv l')) ∧ Below w.heap.size w wz) (fun s _ => l.length - (intOf s).toNat)
                        case atStart => exact ⟨0, Nat.zero_le _, rfl, HB3, ⟨l, rfl, HO3.out⟩, BY3⟩
                        case round =>
                          obtain ⟨i, hi, rfl, HBz, HOz, Bz⟩ := hrel
                          clear HB3 HO3 BY3
                          by_cases hil : i < l.length
                          · obtain ⟨l', hll, ho⟩ := HOz.out
                            have hii : (i : Int) < ((l.length : Nat) : Int) := by omega
                            obtain ⟨ob, rfl⟩ : ∃ ob, Ao = some ⟨ob, 0, none⟩ := by
                              rcases ho.2 with ⟨e, h0⟩ | ⟨g', cap, cur, e, _⟩
                              · omega
                              · injection e with e1
                                exact ⟨g', e1⟩
                            have hgeo := owns_ge ho ob rfl
                            have hil2 : i < l'.length := by omega
                            obtain ⟨hcz, hfz⟩ := owns_cell ho (bv_get hil2)
                            obtain ⟨y, hy⟩ := xor255 l'[i]
                            obtain ⟨-, -, cur, hobh, -, -⟩ := owns_cap ho
                            have hset := owns_set (i := i) ho (.int .u8 (y.toNat : Int))
                            rw [bv_set] at hset
                            have hkb := HBz.out.keepB hobh (Fr.setCell (M := fun k => k = ob) (p := ⟨ob, i, none⟩) (Fr.refl _ _) (fun _ => rfl) (.int .u8 (y.toNat : Int))) (HNB.out ob rfl).1 (HNB.out ob rfl).2
                            have hbz : Below w.heap.size w (wr.setCell ⟨ob, i, none⟩ (.int .u8 (y.toNat : Int))) := Bz.setCell (p := ⟨ob, i, none⟩) (Nat.le_trans hbX2.size hgeo) _
                            have HS := Lib.hid hset
                            have HK := Lib.hid hkb
                            have HZ := Lib.hid hbz
                            have HLL := Lib.hid hll
                            clear hset hkb hbz ho hobh hll
                            go_wp2_with fail
                            go_roundw
                            case rel => exact ⟨i + 1, by omega, by simp, HK, ⟨_, by rw [List.length_set]; exact HLL.out, HS.out⟩, HZ.out⟩
                            case measure => simp [intOf]; omega
                          · go_wp2_with fail
                            go_meet
                            exact ⟨_, _, _, _, _, HBz, Bz⟩
                    · have hlt2 : ps.length < k := by have := hBY.out.d.le; omega
                      have HLT := Lib.hid hlt2
                      clear hfull hlt2
                      go_region_law
                        (first
                          | (go_simp; go_at_call 12
                             refine (append_ok (hBY.out.d.below (Below.refl _ _).drew) HLT.out Ao co Y1.heap.size l (Sl.of_own HO.out) (fun e => by have hh := HO.out; rw [e] at hh; exact owns_nil hh) (by omega) (Nat.le_refl _) BY.size).mono ?_
                             rintro e Y2 ⟨rfl, v2, p2, hp1, hp2, D2, f2, hv2, hfr⟩
                             have HD2 := Lib.hid D2
                             have HFR := Lib.hid hfr
                             have HF2 : Hid (Fr (Dev.M W0.heap.size v) Y1 Y2) := (Fr.refl (Dev.M W0.heap.size v) Y1).drew.trans f2 (fun _ _ h => h)
                             have hq2 := (Blk.of_heap (HF2.out.cells HYh.out (hBY.out.d.M_not HYh.out (by decide) (by decide)))).cell
                             have HR2 := Lib.hid (hBY.out.r.apart hBY.out.d HF2.out)
                             have BY2 := BY.trans (hBY.out.d.fr BY.size HF2.out)
                             have HP1 := Lib.hid hp1
                             have HP2 := Lib.hid hp2
                             clear D2 hfr f2 hv2 hp1 hp2)
                          | (go_simp; go_at_call 20
                             refine (rappend_ok HR2.out ps.length hBY.out.next (by rw [hBY.out.len]; exact HLT.out) A1 c1 w.heap.size l (HPB.out.1.below BY2) HPB.out.2.1 (by omega) BY2.size BY2.size).mono ?_
                             rintro e Y3 ⟨rfl, r3, hr1, hr2, hr3, R3, f3, hfr3⟩))
                      all_goals
                        have HB3 := Lib.hid (hBY.out.appended HLT.out HD2.out HR2.out R3 f3 HP1.out hr1 (hr2.trans HP2.out.symm) hr3 (by rw [HP2.out]; exact hl3))
                        have HO3 := Lib.hid (HR2.out.owns f3 (hBY.out.d.apart HF2.out HO.out (by decide) (by decide)) (by decide) (by decide))
                        have BY3 := BY2.trans (HR2.out.fr BY2.size f3)
                        have HNB : Hid (∀ ob, Ao = some ⟨ob, 0, none⟩ → (∀ p ∈ ps ++ [p2], ∀ k, (Value.slice p.A p.l.length p.c).ownBlock = some k → k ≠ ob) ∧ (∀ p ∈ rs.set ps.length r3, ∀ k, (Value.slice p.A p.l.length p.c).ownBlock = some k → k ≠ ob)) := by
                          intro ob hob
                          have h1 := owns_ge HO.out ob (by rw [hob]; rfl)
                          have h2 := owns_lt HO.out (k := ob) (by rw [hob]; rfl)
                          refine ⟨fun p hp i hi => ?_, fun p hp i hi => ?_⟩
                          · rcases List.mem_append.1 hp with hp | hp
                            · have := owns_lt (hB.out.d.pgs p hp) hi; omega
                            · simp at hp
                              subst hp
                              have h3 : Y1.heap.size ≤ i := HFR.out i hi
                              omega
                          · rcases List.mem_or_eq_of_mem_set hp with hp | rfl
                            · have := owns_lt (hB.out.r.pgs p hp) hi; omega
                            · have h3 := hfr3 i hi
                              have h4 := HF2.out.size
                              omega
                        clear R3 f3 hr1 hr2 hr3 hfr3 HO HFR HF2 HR2 HD2 HP1 HP2 hq2 hqY HYh hBY BY2
                        go_wp2_with fail
                        go_loopw [83] (fun s wz => ∃ i : Nat, i ≤ l.length ∧ s = .int .i64 (i : Int) ∧ Hid (Both wz w.heap.size W0.heap.size v2 k (ps ++ [p2]) la (W1.heap.size + 1) R (rs.set ps.length r3)) ∧ Hid (∃ l', l'.length = l.length ∧ wz.ownsRow X.heap.size 5 1 (.slice Ao l.length co) l.length (bv l')) ∧ Below w.heap.size w wz) (fun s _ => l.length - (intOf s).toNat)
                        case atStart => exact ⟨0, Nat.zero_le _, rfl, HB3, ⟨l, rfl, HO3.out⟩, BY3⟩
                        case round =>
                          obtain ⟨i, hi, rfl, HBz, HOz, Bz⟩ := hrel
                          clear HB3 HO3 BY3
                          by_cases hil : i < l.length
                          · obtain ⟨l', hll, ho⟩ := HOz.out
                            have hii : (i : Int) < ((l.length : Nat) : Int) := by omega
                            obtain ⟨ob, rfl⟩ : ∃ ob, Ao = some ⟨ob, 0, none⟩ := by
                              rcases ho.2 with ⟨e, h0⟩ | ⟨g', cap, cur, e, _⟩
                              · omega
                              · injection e with e1
                                exact ⟨g', e1⟩
                            have hgeo := owns_ge ho ob rfl
                            have hil2 : i < l'.length := by omega
                            obtain ⟨hcz, hfz⟩ := owns_cell ho (bv_get hil2)
                            obtain ⟨y, hy⟩ := xor255 l'[i]
                            obtain ⟨-, -, cur, hobh, -, -⟩ := owns_cap ho
                            have hset := owns_set (i := i) ho (.int .u8 (y.toNat : Int))
                            rw [bv_set] at hset
                            have hkb := HBz.out.keepB hobh (Fr.setCell (M := fun k => k = ob) (p := ⟨ob, i, none⟩) (Fr.refl _ _) (fun _ => rfl) (.int .u8 (y.toNat : Int))) (HNB.out ob rfl).1 (HNB.out ob rfl).2
                            have hbz : Below w.heap.size w (wr.setCell ⟨ob, i, none⟩ (.int .u8 (y.toNat : Int))) := Bz.setCell (p := ⟨ob, i, none⟩) (Nat.le_trans hbX2.size hgeo) _
                            have HS := Lib.hid hset
                            have HK := Lib.hid hkb
                            have HZ := Lib.hid hbz
                            have HLL := Lib.hid hll
                            clear hset hkb hbz ho hobh hll
                            go_wp2_with fail
                            go_roundw
                            case rel => exact ⟨i + 1, by omega, by simp, HK, ⟨_, by rw [List.length_set]; exact HLL.out, HS.out⟩, HZ.out⟩
                            case measure => simp [intOf]; omega
                          · go_wp2_with fail
                            go_meet
                            exact ⟨_, _, _, _, _, HBz, Bz⟩
                  · by_cases q1 : q = 1
                    · subst q1
                      go_wp2_with fail
                      refine (sync_any hB.out.d).mono ?_
                      rintro e Y1 ⟨rfl, D1, f1⟩
                      have R1 := hB.out.r.apart hB.out.d f1
                      have b1 := hB.out.d.fr hbX2.size f1
                      have HD1 := Lib.hid D1
                      have HR1 := Lib.hid R1
                      clear D1 R1 f1
                      go_wp2_with fail
                      refine (rsync_any HR1.out).mono ?_
                      rintro e Y2 ⟨rfl, R2, f2⟩
                      have D2 := HD1.out.apartR HR1.out f2
                      have b2 := HR1.out.fr (Nat.le_trans hbX2.size b1.size) f2
                      have HB2 : Hid (Both Y2 w.heap.size W0.heap.size v k ps ps.length (W1.heap.size + 1) R (rs.map fun p => { p with la := p.st != 0 })) :=
                        ⟨D2, R2, hB.out.f.sync, hB.out.gd.sync, by rw [List.length_map]; exact hB.out.len, hB.out.short⟩
                      clear D2 R2 f2
                      go_wp2_with fail
                      go_meet
                      exact ⟨_, _, _, _, _, HB2, (hbX2.trans b1).trans b2⟩
                    · by_cases q2 : q = 2
                      · subst q2
                        go_wp2_with fail
                        refine (crash_any hB.out.d A1 c1 w.heap.size l (fun W hf => HPB.out.1.below (hbX2.trans (hB.out.d.fr hbX2.size hf))) (by omega)).mono ?_
                        rintro e Y1 ⟨rfl, v1, D1, f1, -⟩
                        have R1 := hB.out.r.apart hB.out.d f1
                        have b1 := hB.out.d.fr hbX2.size f1
                        have hq1 := (Blk.of_heap (f1.cells HXh.out (hB.out.d.M_not HXh.out (by decide) (by decide)))).cell
                        have HD1 := Lib.hid D1
                        have HR1 := Lib.hid R1
                        clear D1 R1 f1
                        go_wp2_with fail
                        refine (rcrash_loop HR1.out hB.out.f hB.out.d.la hB.out.gd.w A1 c1 w.heap.size l (fun W hf => HPB.out.1.below ((hbX2.trans b1).trans (HR1.out.fr (Nat.le_trans hbX2.size b1.size) hf))) (by omega)).mono ?_
                        rintro e Y2 ⟨rfl, rs2, R2, hlen2, hF2, f2⟩
                        have D2 := HD1.out.apartR HR1.out f2
                        have b2 := HR1.out.fr (Nat.le_trans hbX2.size b1.size) f2
                        have HB2 : Hid (Both Y2 w.heap.size W0.heap.size v1 k (crashPs l la ps) (crashPs l la ps).length (W1.heap.size + 1) R rs2) :=
                          ⟨D2, R2, hF2.crash, Good.crash la l, by rw [hlen2]; exact hB.out.len, hB.out.short.crash l la⟩
                        clear D2 R2 f2 hF2 hlen2
                        go_wp2_with fail
                        go_meet
                        exact ⟨_, _, _, _, _, HB2, (hbX2.trans b1).trans b2⟩
                      · have c0 : (q == 0) = false := by simpa using q0
                        have c1' : (q == 1) = false := by simpa using q1
                        have c2' : (q == 2) = false := by simpa using q2
                        clear q0 q1 q2
                        go_wp2_with fail
                        refine (wipe_any hB.out.d).mono ?_
                        rintro e Y1 ⟨rfl, D1, f1⟩
                        have R1 := hB.out.r.apart hB.out.d f1
                        have b1 := hB.out.d.fr hbX2.size f1
                        have HD1 := Lib.hid D1
                        have HR1 := Lib.hid R1
                        clear D1 R1 f1
                        go_wp2_with fail
                        refine (rwipe_ok HR1.out (Nat.le_trans hbX2.size b1.size)).mono ?_
                        rintro e Y2 ⟨rfl, R2, f2⟩
                        have D2 := HD1.out.apartR HR1.out f2
                        have b2 := HR1.out.fr (Nat.le_trans hbX2.size b1.size) f2
                        have HB2 : Hid (Both Y2 w.heap.size W0.heap.size (.slice none 0 0) k [] 0 (W1.heap.size + 1) Y1.heap.size (List.replicate rs.length rzero)) :=
                          ⟨D2, R2, F2.zero _, Good.nil 0, by rw [List.length_replicate]; exact hB.out.len, Short.nil⟩
                        clear D2 R2 f2
                        go_wp2_with fail
                        go_meet
                        exact ⟨_, _, _, _, _, HB2, (hbX2.trans b1).trans b2⟩
                case rest =>
                  obtain ⟨v, ps, la, R, rs, hB, B5⟩ := hcut
                  clear hB0 hbr hbX2 hq0 hqf hbX hlX
                  go_wp2_with fail
                  refine (twin_any hB.out.d B5.size).mono ?_
                  rintro e W6 ⟨⟨gt, vt, rfl, Dt, hgt, hvt⟩, hb6⟩
                  have B6 := B5.trans (hb6.mono B5.size)
                  have HDt := Lib.hid Dt
                  have HVT := Lib.hid hvt
                  clear Dt hvt
                  go_wp2_with fail
                  have htw := crash_any HDt.out none 0 0 [] (fun _ _ => .inl rfl) (by simp)
                  rw [hB.out.gd.twin] at htw
                  refine htw.mono ?_
                  rintro e W7 ⟨rfl, vt7, Dt7, hf7, hv7⟩
                  have BB7 := Lib.hid (hB.out.twinned hb6 hgt HVT.out hf7)
                  have B7 := B5.trans (BB7.out.2.mono B5.size)
                  have HDt7 := Lib.hid Dt7
                  clear htw hf7 Dt7 HDt hv7 hb6
                  go_wp2_with fail
                  refine (pages_s BB7.out.1.d BB7.out.1.short).mono ?_
                  rintro e W8 ⟨u1, xs, rfl, hrow, hls, hx, hb8⟩
                  have BB8 := Lib.hid (BB7.out.1.below hb8)
                  have HDt8 := Lib.hid (HDt7.out.below hb8)
                  have B8 := B7.trans (hb8.mono B7.size)
                  have LX := Lib.hid (Lst.of hrow hls hx BB7.out.1.short)
                  have HLS := Lib.hid hls
                  obtain ⟨X1, k1, rfl⟩ := own_form hrow
                  clear hrow hls hx HDt7
                  go_wp2_with fail
                  refine (rwhole_any BB8.out.r).mono ?_
                  rintro e W9 ⟨⟨X2, k2, rfl, hr2⟩, hb9⟩
                  have LX := Lib.hid (LX.out.below hb9)
                  have BB9 := Lib.hid (BB8.out.below hb9)
                  have HDt9 := Lib.hid (HDt8.out.below hb9)
                  have B9 := B8.trans (hb9.mono B8.size)
                  have HR2 := Lib.hid hr2
                  clear hr2 hb9 HDt8 hb8
                  go_wp2_with fail
                  refine (same_rw LX.out.row LX.out.each LX.out.short HR2.out BB9.out.r BB9.out.rshort (by rw [HLS.out, ← BB9.out.f.whole])).mono ?_
                  rintro e W10 ⟨rfl, hb10⟩
                  have BB10 := Lib.hid (BB9.out.below hb10)
                  have HDt10 := Lib.hid (HDt9.out.below hb10)
                  have B10 := B9.trans (hb10.mono B9.size)
                  clear LX HR2 HLS BB9 HDt9 hb10 BB8
                  go_wp2_with fail
                  refine (free_any BB10.out.d).mono ?_
                  rintro e W11 ⟨he0, nf1, rfl⟩
                  have hle : (ps.length : Int) ≤ (k : Int) := by have := BB10.out.d.le; omega
                  have he : e = .returned (.int .i64 ((k : Int) - (ps.length : Int))) := by rw [he0]; congr 3; omega
                  subst he
                  clear he0
                  have BB11 := Lib.hid (BB10.out.below (bdrewN_refl _ _ nf1))
                  have HDt11 := Lib.hid (HDt10.out.below (bdrewN_refl _ _ nf1))
                  have B11 := bdrewN B10 nf1
                  go_wp2_with fail
                  refine (rnext_any BB11.out.r).mono ?_
                  rintro e W12 ⟨he, rfl⟩
                  rw [BB11.out.next] at he
                  subst he
                  clear BB10 HDt10
                  go_wp2_with fail
                  refine (pages_s HDt11.out BB11.out.short).mono ?_
                  rintro e W13 ⟨u1, xs, rfl, hrow, hls, hx, hb8⟩
                  have BB8 := Lib.hid (BB11.out.below hb8)
                  have HDt8 := Lib.hid (HDt11.out.below hb8)
                  have B8 := B11.trans (hb8.mono B11.size)
                  have LX := Lib.hid (Lst.of hrow hls hx BB11.out.short)
                  have HLS := Lib.hid hls
                  obtain ⟨X1, k1, rfl⟩ := own_form hrow
                  clear hrow hls hx HDt11 BB11
                  go_wp2_with fail
                  refine (rwhole_any BB8.out.r).mono ?_
                  rintro e W14 ⟨⟨X2, k2, rfl, hr2⟩, hb9⟩
                  have LX := Lib.hid (LX.out.below hb9)
                  have BB9 := Lib.hid (BB8.out.below hb9)
                  have HDt9 := Lib.hid (HDt8.out.below hb9)
                  have B9 := B8.trans (hb9.mono B8.size)
                  have HR2 := Lib.hid hr2
                  clear hr2 hb9 HDt8 hb8 BB8
                  go_wp2_with fail
                  refine (same_rw LX.out.row LX.out.each LX.out.short HR2.out BB9.out.r BB9.out.rshort (by rw [HLS.out, ← BB9.out.f.whole])).mono ?_
                  rintro e W15 ⟨rfl, hb10⟩
                  have BB10 := Lib.hid (BB9.out.below hb10)
                  have HDt10 := Lib.hid (HDt9.out.below hb10)
                  have B10 := B9.trans (hb10.mono B9.size)
                  clear LX HR2 HLS BB9 HDt9 hb10
                  go_wp2_with fail
                  refine (free_any HDt10.out).mono ?_
                  rintro e W16 ⟨rfl, nf2, rfl⟩
                  have BB11 := Lib.hid (BB10.out.below (bdrewN_refl _ _ nf2))
                  have B11 := bdrewN B10 nf2
                  go_wp2_with fail
                  refine (free_any BB11.out.d).mono ?_
                  rintro e W17 ⟨rfl, nf3, rfl⟩
                  have BB12 := Lib.hid (BB10.out.below (bdrewN_refl _ _ (nf2 + nf3)))
                  have B12 := bdrewN B10 (nf2 + nf3)
                  clear BB10 BB11
                  go_wp2_with fail
                  go_roundw
                  case rel => exact ⟨j + 1, by omega, by simp, _, _, _, _, _, BB12, B12⟩
                  case measure => simp [intOf]; omega
            · clear hB
              go_wp2_with fail
              go_ret
              exact ⟨rfl, hbr⟩
end Go.Proofs.Ytbmodlhnkbohhaa
