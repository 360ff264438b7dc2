/- tidelinelaw07.EntryStreams: the walk. -/
import Derived.Test.YtpmanpckkpheeaaDoorStrR
import Derived.Test.YtpmanpckkpheeaaDoorLogK
import Derived.Test.YtpmanpckkpheeaaDoorLogS
import Derived.Maps.OwnIn
import Derived.Maps.AppendAt
namespace Go.Proofs.YtpmanpckkpheeaaDoor
open Go.RowKit Go.Shelf
set_option linter.unusedVariables false
attribute [local go_sem] Oper.semAt_some

theorem bits_7 (z : Int) : bits BinOp.and IntKind.i64 z 7 = s8 z := by
  have h : (BitVec.ofInt 64 z &&& BitVec.ofInt 64 7).toNat = (z % 8).toNat := by
    rw [BitVec.toNat_and, show (BitVec.ofInt 64 7).toNat = 2 ^ 3 - 1 from rfl, Nat.and_two_pow_sub_one_eq_mod, BitVec.toNat_ofInt]
    omega
  show IntKind.i64.wrap ((BitVec.ofInt 64 z &&& BitVec.ofInt 64 7).toNat : Int) = _
  rw [h, IntKind.wrap_i64]
  unfold s8
  omega

set_option maxRecDepth 100000 in
set_option maxHeartbeats 2000000 in
theorem estr1_any (ss : List Int) (n i : Nat) (hi : i < n) (hn : n ≤ 1000) (bl g cap : Nat) (w : World) (hb : w.cell? ⟨bl, 0, none⟩ = some (.slice (some ⟨g, 0, none⟩) n cap)) (hc : ∀ k u, (logCells ss n)[k]? = some u → w.cell? ⟨g, k, none⟩ = some u) :
    Calls Tryd.prog 32 #[.int .i64 (i : Int), .pointer (some ⟨bl, 0, none⟩)] w fun e w' => e = .returned (.tuple #[(entAt ss i).val, .bool true]) ∧ Below w.heap.size w w' := by
  have h0 : ¬ ((i : Int) < 0) := by omega
  have h1 : ¬ ((n : Int) ≤ (i : Int)) := by omega
  have h2 : (i : Int) < (n : Int) := by omega
  have q0 := hc _ _ (logCells_at ss n i 0 _ hi rfl)
  have q1 := hc _ _ (logCells_at ss n i 1 _ hi rfl)
  have q2 := hc _ _ (logCells_at ss n i 2 _ hi rfl)
  have q3 := hc _ _ (logCells_at ss n i 3 _ hi rfl)
  have q4 := hc _ _ (logCells_at ss n i 4 _ hi rfl)
  have q5 := hc _ _ (logCells_at ss n i 5 _ hi rfl)
  have q6 := hc _ _ (logCells_at ss n i 6 _ hi rfl)
  rw [Nat.add_zero] at q0
  have hbl : bl < w.heap.size := World.block_lt_of_cell? w _ hb
  have hg : g < w.heap.size := World.block_lt_of_cell? w _ q0
  clear hc
  go_enter Tryd.func32, Tryd.ntmps32
  go_wp2_with fail
  refine bodyPost_ret (v := .tuple #[(entAt ss i).val, .bool true]) (results_row_tmp Tryd.results32 _ _ w.heap.size 45 #[.int .i64 (entAt ss i).k, .int .i64 (entAt ss i).cl, .int .i64 (entAt ss i).bi, .int .i64 (entAt ss i).nu, .int .i64 (entAt ss i).st, .int .i64 (entAt ss i).ba, .slice none 0 0] (0, 0) _ _ rfl rfl (heap_alloc_new w _) Tryd.underlying45 rfl (by kernel_rfl)) rfl ⟨rfl, (Below.refl _ _).alloc (Nat.le_refl _) _⟩

theorem results_cell_bool {fn : Func} {p : Tmp} (h : fn.results = #[.cell p 4]) (tmps : Array Value) (w : World) (g : Nat) (b : Bool) (hp : tmps[p]?.getD undef = .pointer (some ⟨g, 0, none⟩)) (hc : w.cell? ⟨g, 0, none⟩ = some (.bool b)) :
    (results fn tmps).run Tryd.prog w = .ok (.bool b) w := by
  simp [results, h, hp, go_sem, hc]

set_option maxRecDepth 100000 in
set_option maxHeartbeats 4000000 in
theorem estr_walk (A : Option Addr) (c : Nat) (ss : List Int) (wh : Int) (w : World) (hT : Tab w) (hs : Sl w w.heap.size A (iv ss)) (hl : ss.length ≤ maxLen) :
    Calls Tryd.prog 5 #[.slice A ss.length c, .int .i64 wh] w fun e w' => e = .returned (.bool true) ∧ Below w.heap.size w w' := by
  refine (callsIn_wide (n := 6)).1 ?_
  have HT := Lib.hid hT
  have HS := Lib.hid hs
  clear hT hs
  unfold maxLen at hl
  obtain ⟨N, hN⟩ : ∃ n, ss.length = n := ⟨_, rfl⟩
  have HN := Lib.hid hN
  rw [hN] at hl ⊢
  clear hN
  have hmm := @run_makeMap Tryd.prog
  refine callsIn_of_wp_marks Tryd.func5 rfl trivial ?_ rfl
  simp only [Tryd.ntmps5, List.size_toArray, List.length_cons, List.length_nil, Nat.reduceAdd, Nat.reduceSub, Array.replicate_succ, Array.replicate_zero, List.push_toArray, List.append_toArray, List.nil_append, List.cons_append]
  gi_wp2
  refine ⟨trivial, ?_⟩
  have hT1 : Tab ((w.alloc (.cells #[.int .i64 wh] 3)).alloc (.cells #[.bool false] 4)) := HT.out.below HT.out.1 (((Below.refl _ _).alloc (Nat.le_refl _) _).alloc (by simp) _)
  refine (callsIn_wide.2 (espeak_any _ hT1)).mono ?_
  rintro e W0 ⟨rfl, hb0⟩
  have hbx := ((Blk.new w #[.int .i64 wh] 3).alloc (.cells #[.bool false] 4)).belowAll hb0
  have hrx0 := Blk.new (w.alloc (.cells #[.int .i64 wh] 3)) #[.bool false] 4
  rw [World.size_alloc] at hrx0
  have hrx := hrx0.belowAll hb0
  have hB0 : Below w.heap.size w W0 := (((Below.refl _ _).alloc (Nat.le_refl _) _).alloc (by simp) _).trans (hb0.mono (by simp; omega))
  have hS0 : w.heap.size + 2 ≤ W0.heap.size := by have := hb0.size; simpa using this
  have cw0 := hbx.cell 0
  have cr0 := hrx.cell 0
  have fr0 := hrx.free 0
  clear hT1 hrx0 hb0
  by_cases h200 : 200 < N
  · have hi : (200 : Int) < (N : Int) := by omega
    clear hbx hrx
    gi_wp2
    exact ⟨_, results_cell_bool rfl _ _ (w.heap.size + 1) true rfl (World.cell?_setCell_same' _ _ _ (by rw [cr0]; rfl)), rfl, hB0.setCell (p := ⟨w.heap.size + 1, 0, none⟩) (by show w.heap.size ≤ w.heap.size + 1; omega) _⟩
  have hi : ¬ ((200 : Int) < (N : Int)) := by omega
  gi_wp2
  obtain ⟨sw, hsw⟩ : ∃ s, s8 wh = s := ⟨_, rfl⟩
  have e7w : bits BinOp.and IntKind.i64 wh 7 = sw := by rw [bits_7, hsw]
  have hswr : 0 ≤ sw ∧ sw ≤ 7 := by rw [← hsw]; exact s8_range wh
  clear hsw hbx hrx hi
  gi_loopw [28] (fun s28 wr => ∃ k gl cl gw cw D, k ≤ N ∧ s28 = .int .i64 (k : Int) ∧ Hid (StS W0 ss sw k wr gl cl gw cw D)) (fun s28 _ => N - (intOf s28).toNat)
  case atStart => exact ⟨0, _, _, _, _, _, Nat.zero_le _, rfl, Lib.hid (sts_start W0 ss sw)⟩
  case round =>
    obtain ⟨k, gl, cl, gw, cw, D, hkN, rfl, hst⟩ := hrel
    by_cases hlt : k < N
    · have hi1 : (k : Int) < (N : Int) := by omega
      have hkl : k < ss.length := by rw [HN.out]; exact hlt
      obtain ⟨b1, o1, rfl, hb1, hc1⟩ := (HS.out.below (hB0.trans (hst.out.bk.mono (by omega)))).at (k := k) (by simpa [iv] using hkl)
      have hv1 : (iv ss)[k]'(by simpa [iv] using hkl) = Value.int .i64 (ss.getD k 0) := by simp [iv, List.getD_eq_getElem?_getD, hkl]
      rw [hv1] at hc1
      clear hv1
      obtain ⟨sx, hsx⟩ : ∃ s, s8 (ss.getD k 0) = s := ⟨_, rfl⟩
      obtain ⟨z, hz⟩ : ∃ z, ss.getD k 0 = z := ⟨_, rfl⟩
      have e7 : bits BinOp.and IntKind.i64 z 7 = sx := by rw [bits_7, ← hz, hsx]
      have hsxr : 0 ≤ sx ∧ sx ≤ 7 := by rw [← hsx]; exact s8_range _
      rw [hz] at hc1
      have hwx := wf_small (z := sx) (by omega) (by omega)
      have hwk := wf_small (z := (k : Int)) (by omega) (by omega)
      have HSX := Lib.hid hsx
      clear hz hsx
      have hent : entAt ss k = ⟨(k : Int), 1, 0, 0, 0, sx, lastOf ss sx k⟩ := by unfold entAt; rw [HSX.out]
      have cbl := hst.out.bl.cell
      rcases hst.out.look sx hsxr.1 hsxr.2 with ⟨hl0, hhas, hat⟩ | ⟨hlm, hhas, hat⟩
      · by_cases he : sx = sw
        · subst he
          gi_wp2_with (first
            | (gi_at_lookup; refine lookup_is _ rfl _ _ rfl (W0.heap.size + 1) k D rfl hst.out.mp sx (lastOf ss sx k) true rfl hwx hat hhas ?_)
            | (gi_at_builtin; refine append_log _ rfl _ _ rfl W0.heap.size k gl cl (logCells ss k) rfl (hst.out.rl.alloc _) (entAt ss k) _ rfl (by rw [hent]; exact heap_alloc_new wr _) (by omega) (by simp; have := hst.out.bk.size; omega) ?_; intro gl' cl' w1 hown1 hgrow1; obtain ⟨kb, k2b, k2r, k2w, k2wr, k2m, k2k⟩ := hst.out.logged hown1 hgrow1; have ckb := kb.cell; have fkb := kb.frozen; rw [← logCells_succ] at k2r; clear kb hown1 hgrow1)
            | (gi_at_mapUpdate; refine update_is _ rfl _ _ _ rfl (W0.heap.size + 1) k D rfl k2m (by unfold maxLen; omega) sx (k : Int) rfl rfl hwx hwk ?_; intro w3 hown3 hgrow3; have HF := Lib.hid (half_of k2b k2r k2w k2wr k2m k2k HSX.out hst.out.mi hst.out.md hown3 hgrow3); have cw3 := (HF.out.bk.cell (p := ⟨w.heap.size, 0, none⟩) (by show w.heap.size < W0.heap.size; omega)).trans cw0; have cg3 := (HF.out.bw.alloc (.cells #[.int .i64 (k : Int)] 3)).cell; clear k2b k2r k2w k2wr k2m k2k hown3 hgrow3)
            | (gi_at_builtin; refine append_want _ rfl _ _ rfl W0.heap.size _ (wantOf ss sx k).length gw cw (k : Int) ((wantOf ss sx k).map Int.ofNat) rfl (heap_alloc_new w3 _) rfl (HF.out.rw_.alloc _) (by simp) (by have := wantOf_len ss sx k; omega) HF.out.bk.size (by simp) ?_; intro g5 c5 w4 hown4 hgrow4; obtain ⟨kw, HS4⟩ := HF.out.wanted HSX.out hown4 hgrow4; have ckw := kw.cell; have fkw := kw.frozen; have HS5 := Lib.hid HS4; clear kw HS4 hown4 hgrow4))
          go_roundw
          case rel => exact ⟨k + 1, _, _, _, _, _, by omega, by simp, HS5⟩
          case measure => simp [intOf]; omega
        · have hne : ¬ (sx = sw) := he
          gi_wp2_with (first
            | (gi_at_lookup; refine lookup_is _ rfl _ _ rfl (W0.heap.size + 1) k D rfl hst.out.mp sx (lastOf ss sx k) true rfl hwx hat hhas ?_)
            | (gi_at_builtin; refine append_log _ rfl _ _ rfl W0.heap.size k gl cl (logCells ss k) rfl (hst.out.rl.alloc _) (entAt ss k) _ rfl (by rw [hent]; exact heap_alloc_new wr _) (by omega) (by simp; have := hst.out.bk.size; omega) ?_; intro gl' cl' w1 hown1 hgrow1; obtain ⟨kb, k2b, k2r, k2w, k2wr, k2m, k2k⟩ := hst.out.logged hown1 hgrow1; have ckb := kb.cell; have fkb := kb.frozen; rw [← logCells_succ] at k2r; clear kb hown1 hgrow1)
            | (gi_at_mapUpdate; refine update_is _ rfl _ _ _ rfl (W0.heap.size + 1) k D rfl k2m (by unfold maxLen; omega) sx (k : Int) rfl rfl hwx hwk ?_; intro w3 hown3 hgrow3; have HF := Lib.hid (half_of k2b k2r k2w k2wr k2m k2k HSX.out hst.out.mi hst.out.md hown3 hgrow3); have cw3 := (HF.out.bk.cell (p := ⟨w.heap.size, 0, none⟩) (by show w.heap.size < W0.heap.size; omega)).trans cw0; have cg3 := (HF.out.bw.alloc (.cells #[.int .i64 (k : Int)] 3)).cell; clear k2b k2r k2w k2wr k2m k2k hown3 hgrow3))
          go_roundw
          case rel => exact ⟨k + 1, _, _, _, _, _, by omega, by simp, Lib.hid (HF.out.done (by rw [HSX.out]; exact he))⟩
          case measure => simp [intOf]; omega
      · by_cases he : sx = sw
        · subst he
          gi_wp2_with (first
            | (gi_at_lookup; refine lookup_is _ rfl _ _ rfl (W0.heap.size + 1) k D rfl hst.out.mp sx 0 false rfl hwx hat hhas ?_)
            | (gi_at_builtin; refine append_log _ rfl _ _ rfl W0.heap.size k gl cl (logCells ss k) rfl (hst.out.rl.alloc _) (entAt ss k) _ rfl (by rw [hent, hlm]; exact heap_alloc_new wr _) (by omega) (by simp; have := hst.out.bk.size; omega) ?_; intro gl' cl' w1 hown1 hgrow1; obtain ⟨kb, k2b, k2r, k2w, k2wr, k2m, k2k⟩ := hst.out.logged hown1 hgrow1; have ckb := kb.cell; have fkb := kb.frozen; rw [← logCells_succ] at k2r; clear kb hown1 hgrow1)
            | (gi_at_mapUpdate; refine update_is _ rfl _ _ _ rfl (W0.heap.size + 1) k D rfl k2m (by unfold maxLen; omega) sx (k : Int) rfl rfl hwx hwk ?_; intro w3 hown3 hgrow3; have HF := Lib.hid (half_of k2b k2r k2w k2wr k2m k2k HSX.out hst.out.mi hst.out.md hown3 hgrow3); have cw3 := (HF.out.bk.cell (p := ⟨w.heap.size, 0, none⟩) (by show w.heap.size < W0.heap.size; omega)).trans cw0; have cg3 := (HF.out.bw.alloc (.cells #[.int .i64 (k : Int)] 3)).cell; clear k2b k2r k2w k2wr k2m k2k hown3 hgrow3)
            | (gi_at_builtin; refine append_want _ rfl _ _ rfl W0.heap.size _ (wantOf ss sx k).length gw cw (k : Int) ((wantOf ss sx k).map Int.ofNat) rfl (heap_alloc_new w3 _) rfl (HF.out.rw_.alloc _) (by simp) (by have := wantOf_len ss sx k; omega) HF.out.bk.size (by simp) ?_; intro g5 c5 w4 hown4 hgrow4; obtain ⟨kw, HS4⟩ := HF.out.wanted HSX.out hown4 hgrow4; have ckw := kw.cell; have fkw := kw.frozen; have HS5 := Lib.hid HS4; clear kw HS4 hown4 hgrow4))
          go_roundw
          case rel => exact ⟨k + 1, _, _, _, _, _, by omega, by simp, HS5⟩
          case measure => simp [intOf]; omega
        · have hne : ¬ (sx = sw) := he
          gi_wp2_with (first
            | (gi_at_lookup; refine lookup_is _ rfl _ _ rfl (W0.heap.size + 1) k D rfl hst.out.mp sx 0 false rfl hwx hat hhas ?_)
            | (gi_at_builtin; refine append_log _ rfl _ _ rfl W0.heap.size k gl cl (logCells ss k) rfl (hst.out.rl.alloc _) (entAt ss k) _ rfl (by rw [hent, hlm]; exact heap_alloc_new wr _) (by omega) (by simp; have := hst.out.bk.size; omega) ?_; intro gl' cl' w1 hown1 hgrow1; obtain ⟨kb, k2b, k2r, k2w, k2wr, k2m, k2k⟩ := hst.out.logged hown1 hgrow1; have ckb := kb.cell; have fkb := kb.frozen; rw [← logCells_succ] at k2r; clear kb hown1 hgrow1)
            | (gi_at_mapUpdate; refine update_is _ rfl _ _ _ rfl (W0.heap.size + 1) k D rfl k2m (by unfold maxLen; omega) sx (k : Int) rfl rfl hwx hwk ?_; intro w3 hown3 hgrow3; have HF := Lib.hid (half_of k2b k2r k2w k2wr k2m k2k HSX.out hst.out.mi hst.out.md hown3 hgrow3); have cw3 := (HF.out.bk.cell (p := ⟨w.heap.size, 0, none⟩) (by show w.heap.size < W0.heap.size; omega)).trans cw0; have cg3 := (HF.out.bw.alloc (.cells #[.int .i64 (k : Int)] 3)).cell; clear k2b k2r k2w k2wr k2m k2k hown3 hgrow3))
          go_roundw
          case rel => exact ⟨k + 1, _, _, _, _, _, by omega, by simp, Lib.hid (HF.out.done (by rw [HSX.out]; exact he))⟩
          case measure => simp [intOf]; omega
    · obtain rfl : k = N := by omega
      have hend : ¬ ((k : Int) < (k : Int)) := by omega
      have hwsw := wf_small (z := sw) (by omega) (by omega)
      have cw3 := (hst.out.bk.cell (p := ⟨w.heap.size, 0, none⟩) (by show w.heap.size < W0.heap.size; omega)).trans cw0
      have cr3 := (hst.out.bk.cell (p := ⟨w.heap.size + 1, 0, none⟩) (by show w.heap.size + 1 < W0.heap.size; omega)).trans cr0
      have fr3 := (hst.out.bk.frozen (p := ⟨w.heap.size + 1, 0, none⟩) (by show w.heap.size + 1 < W0.heap.size; omega)).trans fr0
      clear hlt cw0 cr0 fr0
      rcases hst.out.look sw hswr.1 hswr.2 with ⟨hl0, hhas, hat⟩ | ⟨hlm, hhas, hat⟩
      · have hzf : Falls (lastOf ss sw k) (entsOf ss sw k) := falls_of ss sw k
        gi_wp2_with (gi_at_lookup; refine lookup_is _ rfl _ _ rfl (W0.heap.size + 1) k D rfl hst.out.mp sw (lastOf ss sw k) true rfl hwsw hat hhas ?_)
        refine ⟨trivial, ?_⟩
        refine (ewalk_in 5 (lastOf ss sw k) 32 #[.pointer (some ⟨W0.heap.size + 1 + 1, 0, none⟩)] _).mono ?_
        rintro e W3 ⟨rfl, rfl⟩
        gi_wp2
        have hB34 : Below wr.heap.size wr (((wr.alloc (.cells #[.int .i64 0] 3)).alloc (.cells #[.int .i64 (lastOf ss sw k)] 3)).alloc (.cells #[.func (.func 32) #[] #[.pointer (some ⟨W0.heap.size + 1 + 1, 0, none⟩)]] 56)) := (((Below.refl _ _).alloc (Nat.le_refl _) _).alloc (by simp) _).alloc (by simp; omega) _
        have hBk := ((Blk.new wr #[.int .i64 0] 3).alloc (.cells #[.int .i64 (lastOf ss sw k)] 3)).alloc (.cells #[.func (.func 32) #[] #[.pointer (some ⟨W0.heap.size + 1 + 1, 0, none⟩)]] 56)
        have hBa0 := (Blk.new (wr.alloc (.cells #[.int .i64 0] 3)) #[.int .i64 (lastOf ss sw k)] 3).alloc (.cells #[.func (.func 32) #[] #[.pointer (some ⟨W0.heap.size + 1 + 1, 0, none⟩)]] 56)
        have hBr0 := Blk.new ((wr.alloc (.cells #[.int .i64 0] 3)).alloc (.cells #[.int .i64 (lastOf ss sw k)] 3)) #[.func (.func 32) #[] #[.pointer (some ⟨W0.heap.size + 1 + 1, 0, none⟩)]] 56
        rw [World.size_alloc] at hBa0 hBr0
        rw [World.size_alloc] at hBr0
        obtain ⟨W4, hW4⟩ : ∃ X, ((wr.alloc (.cells #[.int .i64 0] 3)).alloc (.cells #[.int .i64 (lastOf ss sw k)] 3)).alloc (.cells #[.func (.func 32) #[] #[.pointer (some ⟨W0.heap.size + 1 + 1, 0, none⟩)]] 56) = X := ⟨_, rfl⟩
        have hsz4 : W4.heap.size = wr.heap.size + 3 := by rw [← hW4]; simp
        rw [hW4] at hB34 hBk hBa0 hBr0 ⊢
        clear hW4 hhas hat
        have hrs := hst.out.bk.size
        have hlen : (entsOf ss sw k).length = (wantOf ss sw k).length := by unfold entsOf; rw [List.length_map]
        refine wpIn_rangeFunc_ownX rfl (by omega) (gf := 85) (lb := #[.pointer (some ⟨wr.heap.size + 1, 0, none⟩), .pointer (some ⟨wr.heap.size + 1 + 1, 0, none⟩)]) rfl trivial (enters_of Tryd.func85 (by kernel_rfl) rfl)
          (ewalk_stops 5 (by omega) (wr.heap.size + 1) (wr.heap.size + 1 + 1) W4.heap.size (fun j => j = wr.heap.size) 32 #[.pointer (some ⟨W0.heap.size + 1 + 1, 0, none⟩)] (lastOf ss sw k) (entsOf ss sw k) hzf W4 (fun _ => rfl) (enters_of Tryd.func32 (by kernel_rfl) rfl) ?hread (hBa0.cell 0) (hBr0.cell 0) ⟨by omega, by omega⟩ ⟨by omega, by omega⟩ (Nat.le_refl _)) kept_t (kept_b (Nat.le_refl _)) (Below.refl _ _) (fun _ => rfl)
          (fun pre W => ((W.cell? ⟨wr.heap.size, 0, none⟩ = some (.int .i64 (pre.length : Int)) ∧ W.frozen? ⟨wr.heap.size, 0, none⟩ = false) ∧ W4.heap.size ≤ W.heap.size) ∧ Below wr.heap.size wr W)
          (fun _ pre _ => ¬ (pre <+: entsOf ss sw k))
          (OwnFrom.and (Own.from (fun s A B row hs hg hr => ⟨⟨cell_kept hs.1.1 hg hr, (frozen_kept hs.1.1 hg hr).trans hs.1.2⟩, Nat.le_trans hs.2 hg.size⟩) _) (ownFrom_below (Nat.le_refl _) (by omega)))
          (fun _ _ _ _ _ hs _ _ => hs)
          ⟨⟨⟨hBk.cell 0, hBk.free 0⟩, Nat.le_refl _⟩, hB34⟩
          (fun x b W => W.cell? ⟨b, 4, none⟩ = some (.int .i64 x.st)) (fun x b => Own.from (fun _ A B row hs hg hr => cell_kept hs hg hr) _)
          ?f1 ?assign ?body ?done ?stop
        case hread =>
          intro e he W' hkp
          obtain ⟨i, hi, rfl⟩ := List.mem_map.1 he
          obtain ⟨hik, -⟩ := wantOf_mem ss sw k i hi
          obtain ⟨q1, q2⟩ := hst.out.read hB34 (by omega) (fun j hj e => by omega) hkp
          exact estr1_any ss k i hik (by omega) _ gl cl W' q1 q2
        case assign =>
          rintro l pre x W K ⟨⟨⟨hc, hf⟩, hsz⟩, hB⟩ hK
          dsimp only [Ent.enc, Ent.val]
          simp only [List.zip_toArray, List.zip_cons_cons, List.zip_nil_left]
          gi_wp2
          have hwl := World.block_lt_of_cell? W _ hc
          have k1 := KeepsFrom.of_grownBy (B := W4.heap.size) (World.grownBy_alloc W (.cells #[.int .i64 x.k, .int .i64 x.cl, .int .i64 x.bi, .int .i64 x.nu, .int .i64 x.st, .int .i64 x.ba, .slice none 0 0] 45) none) (fun j e => by cases e)
          have k2 : Kept W4.heap.size (fun j => j = wr.heap.size) W (W.alloc (.cells #[.int .i64 x.k, .int .i64 x.cl, .int .i64 x.bi, .int .i64 x.nu, .int .i64 x.st, .int .i64 x.ba, .slice none 0 0] 45)) := (Kept.refl W).alloc hsz _
          have k4 := (Blk.new W #[.int .i64 x.k, .int .i64 x.cl, .int .i64 x.bi, .int .i64 x.nu, .int .i64 x.st, .int .i64 x.ba, .slice none 0 0] 45).cell 4
          have k5 := hB.alloc hB.size (.cells #[.int .i64 x.k, .int .i64 x.cl, .int .i64 x.bi, .int .i64 x.nu, .int .i64 x.st, .int .i64 x.ba, .slice none 0 0] 45)
          have hK2 := hK W.heap.size _ k1 k2 ⟨⟨⟨(World.cell?_alloc_lt W _ _ hwl).trans hc, (frozen_kept hc (World.grownBy_alloc W _ none) (fun r e => by cases e)).trans hf⟩, by simp; omega⟩, k5⟩ k4
          generalize W.heap.size = bx at hK2 ⊢
          exact hK2
        case body =>
          rintro l pre x b W ⟨⟨⟨hc, hf⟩, hsz⟩, hB⟩ hC hlt
          have hlt2 : pre.length < (wantOf ss sw k).length := by omega
          have hwl := wantOf_len ss sw k
          obtain ⟨cwb, cww⟩ := hst.out.want hB
          have cwj := cww pre.length hlt2
          have cW := (hB.cell (p := ⟨w.heap.size, 0, none⟩) (by show w.heap.size < wr.heap.size; omega)).trans cw3
          have cR := (hB.cell (p := ⟨w.heap.size + 1, 0, none⟩) (by show w.heap.size + 1 < wr.heap.size; omega)).trans cr3
          have fR := (hB.frozen (p := ⟨w.heap.size + 1, 0, none⟩) (by show w.heap.size + 1 < wr.heap.size; omega)).trans fr3
          obtain ⟨v, hv⟩ : ∃ v, ((wantOf ss sw k)[pre.length] : Int) = v := ⟨_, rfl⟩
          rw [hv] at cwj
          have hge : ¬ (((wantOf ss sw k).length : Int) ≤ (pre.length : Int)) := by omega
          clear hBa0 hBr0 hBk hB34 cww
          by_cases h1 : x.n = v
          · by_cases h2 : x.st = sw
            · rw [h2] at hC
              gi_wp2
              refine ⟨(KeepsOthers.setCell _ _ _).from _, Kept.setCell _ _ _ (.inr rfl), ⟨⟨⟨(World.cell?_setCell_same' W ⟨wr.heap.size, 0, none⟩ (.int .i64 ((pre.length : Int) + 1)) (by rw [hc]; rfl)).trans (by simp), ?_⟩, ?_⟩, hB.setCell (p := ⟨wr.heap.size, 0, none⟩) (Nat.le_refl _) _⟩⟩
              · rw [World.frozen?_setCell]; exact hf
              · exact Nat.le_trans (by omega) (KeepsWalks.setCell W _ _).size
            · gi_wp2
              exact ⟨(KeepsOthers.setCell _ _ _).from _, fun hp => h2 (ent_match hp).2.2⟩
          · gi_wp2
            exact ⟨(KeepsOthers.setCell _ _ _).from _, fun hp => h1 (by rw [← hv]; exact (ent_match hp).2.1)⟩
        case stop =>
          rintro D c pre W _ hp h _
          exact absurd hp h
        case done =>
          rintro D2 ys W5 hD2 rfl ⟨⟨⟨hc5, hf5⟩, hsz5⟩, hB5⟩ hK5
          rw [hlen] at hc5
          obtain ⟨cwb, -⟩ := hst.out.want hB5
          have cR := (hB5.cell (p := ⟨w.heap.size + 1, 0, none⟩) (by show w.heap.size + 1 < wr.heap.size; omega)).trans cr3
          have fR := (hB5.frozen (p := ⟨w.heap.size + 1, 0, none⟩) (by show w.heap.size + 1 < wr.heap.size; omega)).trans fr3
          clear hBa0 hBr0 hBk hB34
          gi_wp2
          have hres := World.cell?_setCell_same' W5 ⟨w.heap.size + 1, 0, none⟩ (.bool true) (by rw [cR]; rfl)
          have hKD := (Below.heap_setCell W5 ⟨w.heap.size + 1, 0, none⟩ (.bool true) D2 (by show D2 ≠ w.heap.size + 1; omega)).trans hK5
          have hP := belowK_b (w := W4) (Nat.le_refl _) (W5.setCell ⟨w.heap.size + 1, 0, none⟩ (.bool true)) D2 _ (.deferred none) (by omega) hKD rfl rfl
          have hP2 := belowK_b (w := w) (Nat.le_refl _) (W5.setCell ⟨w.heap.size + 1, 0, none⟩ (.bool true)) D2 _ (.deferred none) (by omega) hKD rfl rfl
          have hB7 : Below w.heap.size w (W5.setCell ⟨w.heap.size + 1, 0, none⟩ (.bool true)) := (hB0.trans ((hst.out.bk.mono (by omega)).trans (hB5.mono (by omega)))).setCell (p := ⟨w.heap.size + 1, 0, none⟩) (by show w.heap.size ≤ w.heap.size + 1; omega) _
          refine ⟨by simp, .inl ⟨_, _, rfl, run_takeDeferred hKD, ?_⟩⟩
          exact ⟨_, results_cell_bool rfl _ _ (w.heap.size + 1) true rfl ((hP.cell (p := ⟨w.heap.size + 1, 0, none⟩) (by show w.heap.size + 1 < W4.heap.size; omega)).trans hres), rfl, hB7.trans hP2⟩
      · have hzf : Falls (-1) (entsOf ss sw k) := by have := falls_of ss sw k; rwa [hlm] at this
        gi_wp2_with (gi_at_lookup; refine lookup_is _ rfl _ _ rfl (W0.heap.size + 1) k D rfl hst.out.mp sw 0 false rfl hwsw hat hhas ?_)
        refine ⟨trivial, ?_⟩
        refine (ewalk_in 5 (-1) 32 #[.pointer (some ⟨W0.heap.size + 1 + 1, 0, none⟩)] _).mono ?_
        rintro e W3 ⟨rfl, rfl⟩
        gi_wp2
        have hB34 : Below wr.heap.size wr (((wr.alloc (.cells #[.int .i64 0] 3)).alloc (.cells #[.int .i64 (-1)] 3)).alloc (.cells #[.func (.func 32) #[] #[.pointer (some ⟨W0.heap.size + 1 + 1, 0, none⟩)]] 56)) := (((Below.refl _ _).alloc (Nat.le_refl _) _).alloc (by simp) _).alloc (by simp; omega) _
        have hBk := ((Blk.new wr #[.int .i64 0] 3).alloc (.cells #[.int .i64 (-1)] 3)).alloc (.cells #[.func (.func 32) #[] #[.pointer (some ⟨W0.heap.size + 1 + 1, 0, none⟩)]] 56)
        have hBa0 := (Blk.new (wr.alloc (.cells #[.int .i64 0] 3)) #[.int .i64 (-1)] 3).alloc (.cells #[.func (.func 32) #[] #[.pointer (some ⟨W0.heap.size + 1 + 1, 0, none⟩)]] 56)
        have hBr0 := Blk.new ((wr.alloc (.cells #[.int .i64 0] 3)).alloc (.cells #[.int .i64 (-1)] 3)) #[.func (.func 32) #[] #[.pointer (some ⟨W0.heap.size + 1 + 1, 0, none⟩)]] 56
        rw [World.size_alloc] at hBa0 hBr0
        rw [World.size_alloc] at hBr0
        obtain ⟨W4, hW4⟩ : ∃ X, ((wr.alloc (.cells #[.int .i64 0] 3)).alloc (.cells #[.int .i64 (-1)] 3)).alloc (.cells #[.func (.func 32) #[] #[.pointer (some ⟨W0.heap.size + 1 + 1, 0, none⟩)]] 56) = X := ⟨_, rfl⟩
        have hsz4 : W4.heap.size = wr.heap.size + 3 := by rw [← hW4]; simp
        rw [hW4] at hB34 hBk hBa0 hBr0 ⊢
        clear hW4 hhas hat
        have hrs := hst.out.bk.size
        have hlen : (entsOf ss sw k).length = (wantOf ss sw k).length := by unfold entsOf; rw [List.length_map]
        refine wpIn_rangeFunc_ownX rfl (by omega) (gf := 85) (lb := #[.pointer (some ⟨wr.heap.size + 1, 0, none⟩), .pointer (some ⟨wr.heap.size + 1 + 1, 0, none⟩)]) rfl trivial (enters_of Tryd.func85 (by kernel_rfl) rfl)
          (ewalk_stops 5 (by omega) (wr.heap.size + 1) (wr.heap.size + 1 + 1) W4.heap.size (fun j => j = wr.heap.size) 32 #[.pointer (some ⟨W0.heap.size + 1 + 1, 0, none⟩)] (-1) (entsOf ss sw k) hzf W4 (fun _ => rfl) (enters_of Tryd.func32 (by kernel_rfl) rfl) ?hread2 (hBa0.cell 0) (hBr0.cell 0) ⟨by omega, by omega⟩ ⟨by omega, by omega⟩ (Nat.le_refl _)) kept_t (kept_b (Nat.le_refl _)) (Below.refl _ _) (fun _ => rfl)
          (fun pre W => ((W.cell? ⟨wr.heap.size, 0, none⟩ = some (.int .i64 (pre.length : Int)) ∧ W.frozen? ⟨wr.heap.size, 0, none⟩ = false) ∧ W4.heap.size ≤ W.heap.size) ∧ Below wr.heap.size wr W)
          (fun _ pre _ => ¬ (pre <+: entsOf ss sw k))
          (OwnFrom.and (Own.from (fun s A B row hs hg hr => ⟨⟨cell_kept hs.1.1 hg hr, (frozen_kept hs.1.1 hg hr).trans hs.1.2⟩, Nat.le_trans hs.2 hg.size⟩) _) (ownFrom_below (Nat.le_refl _) (by omega)))
          (fun _ _ _ _ _ hs _ _ => hs)
          ⟨⟨⟨hBk.cell 0, hBk.free 0⟩, Nat.le_refl _⟩, hB34⟩
          (fun x b W => W.cell? ⟨b, 4, none⟩ = some (.int .i64 x.st)) (fun x b => Own.from (fun _ A B row hs hg hr => cell_kept hs hg hr) _)
          ?f12 ?assign2 ?body2 ?done2 ?stop2
        case hread2 =>
          intro e he W' hkp
          obtain ⟨i, hi, rfl⟩ := List.mem_map.1 he
          obtain ⟨hik, -⟩ := wantOf_mem ss sw k i hi
          obtain ⟨q1, q2⟩ := hst.out.read hB34 (by omega) (fun j hj e => by omega) hkp
          exact estr1_any ss k i hik (by omega) _ gl cl W' q1 q2
        case assign2 =>
          rintro l pre x W K ⟨⟨⟨hc, hf⟩, hsz⟩, hB⟩ hK
          dsimp only [Ent.enc, Ent.val]
          simp only [List.zip_toArray, List.zip_cons_cons, List.zip_nil_left]
          gi_wp2
          have hwl := World.block_lt_of_cell? W _ hc
          have k1 := KeepsFrom.of_grownBy (B := W4.heap.size) (World.grownBy_alloc W (.cells #[.int .i64 x.k, .int .i64 x.cl, .int .i64 x.bi, .int .i64 x.nu, .int .i64 x.st, .int .i64 x.ba, .slice none 0 0] 45) none) (fun j e => by cases e)
          have k2 : Kept W4.heap.size (fun j => j = wr.heap.size) W (W.alloc (.cells #[.int .i64 x.k, .int .i64 x.cl, .int .i64 x.bi, .int .i64 x.nu, .int .i64 x.st, .int .i64 x.ba, .slice none 0 0] 45)) := (Kept.refl W).alloc hsz _
          have k4 := (Blk.new W #[.int .i64 x.k, .int .i64 x.cl, .int .i64 x.bi, .int .i64 x.nu, .int .i64 x.st, .int .i64 x.ba, .slice none 0 0] 45).cell 4
          have k5 := hB.alloc hB.size (.cells #[.int .i64 x.k, .int .i64 x.cl, .int .i64 x.bi, .int .i64 x.nu, .int .i64 x.st, .int .i64 x.ba, .slice none 0 0] 45)
          have hK2 := hK W.heap.size _ k1 k2 ⟨⟨⟨(World.cell?_alloc_lt W _ _ hwl).trans hc, (frozen_kept hc (World.grownBy_alloc W _ none) (fun r e => by cases e)).trans hf⟩, by simp; omega⟩, k5⟩ k4
          generalize W.heap.size = bx at hK2 ⊢
          exact hK2
        case body2 =>
          rintro l pre x b W ⟨⟨⟨hc, hf⟩, hsz⟩, hB⟩ hC hlt
          have hlt2 : pre.length < (wantOf ss sw k).length := by omega
          have hwl := wantOf_len ss sw k
          obtain ⟨cwb, cww⟩ := hst.out.want hB
          have cwj := cww pre.length hlt2
          have cW := (hB.cell (p := ⟨w.heap.size, 0, none⟩) (by show w.heap.size < wr.heap.size; omega)).trans cw3
          have cR := (hB.cell (p := ⟨w.heap.size + 1, 0, none⟩) (by show w.heap.size + 1 < wr.heap.size; omega)).trans cr3
          have fR := (hB.frozen (p := ⟨w.heap.size + 1, 0, none⟩) (by show w.heap.size + 1 < wr.heap.size; omega)).trans fr3
          obtain ⟨v, hv⟩ : ∃ v, ((wantOf ss sw k)[pre.length] : Int) = v := ⟨_, rfl⟩
          rw [hv] at cwj
          have hge : ¬ (((wantOf ss sw k).length : Int) ≤ (pre.length : Int)) := by omega
          clear hBa0 hBr0 hBk hB34 cww
          by_cases h1 : x.n = v
          · by_cases h2 : x.st = sw
            · rw [h2] at hC
              gi_wp2
              refine ⟨(KeepsOthers.setCell _ _ _).from _, Kept.setCell _ _ _ (.inr rfl), ⟨⟨⟨(World.cell?_setCell_same' W ⟨wr.heap.size, 0, none⟩ (.int .i64 ((pre.length : Int) + 1)) (by rw [hc]; rfl)).trans (by simp), ?_⟩, ?_⟩, hB.setCell (p := ⟨wr.heap.size, 0, none⟩) (Nat.le_refl _) _⟩⟩
              · rw [World.frozen?_setCell]; exact hf
              · exact Nat.le_trans (by omega) (KeepsWalks.setCell W _ _).size
            · gi_wp2
              exact ⟨(KeepsOthers.setCell _ _ _).from _, fun hp => h2 (ent_match hp).2.2⟩
          · gi_wp2
            exact ⟨(KeepsOthers.setCell _ _ _).from _, fun hp => h1 (by rw [← hv]; exact (ent_match hp).2.1)⟩
        case stop2 =>
          rintro D c pre W _ hp h _
          exact absurd hp h
        case done2 =>
          rintro D2 ys W5 hD2 rfl ⟨⟨⟨hc5, hf5⟩, hsz5⟩, hB5⟩ hK5
          rw [hlen] at hc5
          obtain ⟨cwb, -⟩ := hst.out.want hB5
          have cR := (hB5.cell (p := ⟨w.heap.size + 1, 0, none⟩) (by show w.heap.size + 1 < wr.heap.size; omega)).trans cr3
          have fR := (hB5.frozen (p := ⟨w.heap.size + 1, 0, none⟩) (by show w.heap.size + 1 < wr.heap.size; omega)).trans fr3
          clear hBa0 hBr0 hBk hB34
          gi_wp2
          have hres := World.cell?_setCell_same' W5 ⟨w.heap.size + 1, 0, none⟩ (.bool true) (by rw [cR]; rfl)
          have hKD := (Below.heap_setCell W5 ⟨w.heap.size + 1, 0, none⟩ (.bool true) D2 (by show D2 ≠ w.heap.size + 1; omega)).trans hK5
          have hP := belowK_b (w := W4) (Nat.le_refl _) (W5.setCell ⟨w.heap.size + 1, 0, none⟩ (.bool true)) D2 _ (.deferred none) (by omega) hKD rfl rfl
          have hP2 := belowK_b (w := w) (Nat.le_refl _) (W5.setCell ⟨w.heap.size + 1, 0, none⟩ (.bool true)) D2 _ (.deferred none) (by omega) hKD rfl rfl
          have hB7 : Below w.heap.size w (W5.setCell ⟨w.heap.size + 1, 0, none⟩ (.bool true)) := (hB0.trans ((hst.out.bk.mono (by omega)).trans (hB5.mono (by omega)))).setCell (p := ⟨w.heap.size + 1, 0, none⟩) (by show w.heap.size ≤ w.heap.size + 1; omega) _
          refine ⟨by simp, .inl ⟨_, _, rfl, run_takeDeferred hKD, ?_⟩⟩
          exact ⟨_, results_cell_bool rfl _ _ (w.heap.size + 1) true rfl ((hP.cell (p := ⟨w.heap.size + 1, 0, none⟩) (by show w.heap.size + 1 < W4.heap.size; omega)).trans hres), rfl, hB7.trans hP2⟩
end Go.Proofs.YtpmanpckkpheeaaDoor
