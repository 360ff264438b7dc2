/- tidelineref03.Split. -/
import Derived.Test.YtjkilpjdgjijiaaDoorPathM
import Derived.Test.YtjkilpjdgjijiaaDoorFrame
import Derived.Laws.OwnMore
import Derived.Deep.AppendLies
namespace Go.Proofs.YtjkilpjdgjijiaaDoor
open Go.RowKit
set_option linter.unusedVariables false

theorem Tryd.info_string : (Tryd.prog.info? 9).map (fun i => (i.zero, i.size, i.bytes)) = some (some (.string ⟨#[]⟩), 1, 16) := by kernel_rfl

theorem pown_ge {w : World} {v : Value} {base e size n : Nat} {xs : List Value} (h : w.ownsRow base e size v n xs) : ∀ k, v.ownBlock = some k → base ≤ k := by
  intro k hk
  rcases h.2 with ⟨rfl, _⟩ | ⟨g', cap, cur, rfl, hb, _⟩
  · simp [Value.ownBlock] at hk
  · simp [Value.ownBlock] at hk; omega
theorem pown_form {w : World} {base : Nat} {e : TypeId} {size n : Nat} {v : Value} {xs : List Value} (h : w.ownsRow base e size v n xs) : ∃ A c, v = .slice A n c ∧ n ≤ c := by
  rcases h.2 with ⟨rfl, rfl⟩ | ⟨g, cap, cur, rfl, _, _, hc, _⟩
  · exact ⟨none, 0, rfl, Nat.le_refl _⟩
  · exact ⟨_, _, rfl, hc⟩

/-- What tidelineref03.Split answers. -/
def RSplits (l : List UInt8) (e : Ending) (w' : World) : Prop :=
  match pathOf l with
  | none => ∃ (A : Option Addr) (c : Nat), e = .returned (.tuple #[.slice A 0 c, .bool false])
  | some ns => ∃ (A : Option Addr) (c : Nat) (zs : List ByteArray), e = .returned (.tuple #[.slice A zs.length c, .bool true]) ∧ zs.map (·.data.toList) = ns ∧ Sl w' w'.heap.size A (zs.map Value.string) ∧ zs.length ≤ c
theorem rsplits_none {l : List UInt8} {w' : World} (h : pathOf l = none) (A : Option Addr) (c : Nat) : RSplits l (.returned (.tuple #[.slice A 0 c, .bool false])) w' := by
  unfold RSplits; rw [h]; exact ⟨A, c, rfl⟩
theorem rsplits_root {l : List UInt8} {w' : World} (h : l = [47]) (A : Option Addr) (c : Nat) : RSplits l (.returned (.tuple #[.slice A 0 c, .bool true])) w' := by
  unfold RSplits pathOf; rw [if_pos h]
  exact ⟨A, c, [], rfl, rfl, Sl.nil, Nat.zero_le _⟩
theorem rsplits_some {l : List UInt8} {n : Nat} {w' : World} {A : Option Addr} {c : Nat} {zs : List ByteArray} (h : pathOf l = some (zs.map (·.data.toList))) (hn : n = zs.length) (hs : Sl w' w'.heap.size A (zs.map Value.string)) (hc : n ≤ c) :
    RSplits l (.returned (.tuple #[.slice A n c, .bool true])) w' := by
  subst hn
  unfold RSplits; rw [h]
  exact ⟨A, c, zs, rfl, rfl, hs, hc⟩

set_option maxRecDepth 100000 in
set_option maxHeartbeats 2000000 in
theorem rsplit_any (s : ByteArray) (w : World) (hs : s.size ≤ 1099511627776) :
    Calls Tryd.prog 51 #[.string s] w fun e w' => RSplits s.data.toList e w' ∧ Below w.heap.size w w' := by
  have HS := Lib.hid hs
  have hz : s.data.toList.length = s.size := by simp
  have hgr : Hid (Below w.heap.size w (w.alloc (.cells #[] 9))) := (Below.refl _ _).alloc (Nat.le_refl _) _
  have h63 : (s.size : Int) + 1 ≤ 9223372036854775807 := by omega
  by_cases p0 : s.data.toList = [47]
  · have p1 : s.toList = [47] := by rw [Lib.toList_data]; exact p0
    have HP := Lib.hid (rsplits_root (w' := w.alloc (.cells #[] 9)) p0 (some ⟨w.heap.size, 0, none⟩) 0)
    clear p0 hz
    go_enter Tryd.func51, Tryd.ntmps51
    go_wp2
    go_ret2
    exact ⟨HP.out, hgr.out⟩
  have p1 : ¬ s.toList = [47] := by rw [Lib.toList_data]; exact p0
  have p2 : (s.toList == [47]) = false := by simpa using p1
  have P0 := Lib.hid p0
  clear p0
  by_cases h0 : s.size = 0
  · have hp : pathOf s.data.toList = none := by
      have : s.data.toList = [] := List.eq_nil_of_length_eq_zero (by omega)
      rw [this]; rfl
    have hi0 : (s.size : Int) = 0 := by omega
    have HP := Lib.hid (rsplits_none (w' := w.alloc (.cells #[] 9)) hp (some ⟨w.heap.size, 0, none⟩) 0)
    clear hp hz h0
    go_enter Tryd.func51, Tryd.ntmps51
    go_wp2
    go_ret2
    exact ⟨HP.out, hgr.out⟩
  have HZ : Hid (1 ≤ s.data.toList.length ∧ s.data.toList.length = s.size) := by show _ ∧ _; omega
  have hi0 : ¬ ((s.size : Int) = 0) := by omega
  have he0 : ¬ (s = ByteArray.empty) := fun h => h0 (by rw [h]; rfl)
  have hi1 : ((s.size : Int) == 0) = false := by rw [beq_eq_false_iff_ne]; exact hi0
  have hlt0 : (0 : Int) < (s.size : Int) := by omega
  have hlt1 : 0 < s.size := by omega
  obtain ⟨b0, hb0⟩ : ∃ b, s[0]'hlt1 = b := ⟨_, rfl⟩
  clear hz
  clear h63 hs
  have HH0 : Hid (s.data.toList.head? = some b0) := by
    show _ = _
    rw [List.head?_eq_getElem?, List.getElem?_eq_getElem (by rw [HZ.out.2]; exact hlt1), ← hb0]
    simp [ByteArray.getElem_eq_getElem_data]
  by_cases hb : b0 = 47
  · have HB0 : Hid (s.data.toList.head? = some 47) := by show _ = _; rw [HH0.out, hb]
    have hb1 : b0.toNat = 47 := by rw [hb]; rfl
    clear hb h0
    go_enter Tryd.func51, Tryd.ntmps51
    go_wp2_with fail
    go_loopw [4, 5, 6] (fun s4 s5 s6 wr => ∃ (st i : Nat) (zs : List ByteArray), s6 = .int .i64 (i : Int) ∧ s5 = .int .i64 (st : Int) ∧ Hid (Mid s.data.toList (zs.map (·.data.toList)) st i ∧ 1 ≤ i ∧ (i = s.size + 1 → st = i)) ∧ Hid (wr.ownsRow w.heap.size 9 1 s4 zs.length (zs.map Value.string)) ∧ Below w.heap.size w wr) (fun _ _ s6 _ => s.size + 2 - (intOf s6).toNat)
    case atStart => exact ⟨1, 1, [], rfl, rfl, Lib.hid ⟨Mid.start HZ.out.1, by omega, fun _ => rfl⟩, Lib.hid (World.ownsRow_made w #[] 0 (Nat.le_refl _) (Nat.zero_le _) rfl), hgr.out⟩
    case round =>
      obtain ⟨st, i, zs, rfl, rfl, hm, ho, hbw⟩ := hrel
      obtain ⟨A4, c4, hv4, hc4⟩ := pown_form ho.out
      have HC4 := Lib.hid hc4
      clear hc4
      subst hv4
      have hM := hm.out
      have hS := HS.out
      have hle := hM.1.le
      have hbd := hM.1.bound
      have hfew := hM.1.few
      rw [List.length_map] at hfew
      rw [HZ.out.2] at hbd
      have hw1 : (i : Int) + 1 ≤ 9223372036854775807 := by omega
      by_cases hlt : i ≤ s.size
      · have hi : (i : Int) ≤ (s.size : Int) := by omega
        have hsti : (st : Int) ≤ (i : Int) := by omega
        have hst0 : (0 : Int) ≤ (st : Int) := by omega
        have h63 : Hid (zs.length + 1 ≤ maxLen) := by show _ ≤ _; unfold maxLen; omega
        have hby : Hid ((zs.length + 1) * 16 ≤ 140737488355328) := by show _ ≤ _; omega
        by_cases he : i = s.size
        · subst he
          have HN : Hid (Mid s.data.toList ((zs ++ [s.extract st s.size]).map (·.data.toList)) (s.size + 1) (s.size + 1)) := by
            show Mid _ _ _ _
            have := hM.1
            rw [← HZ.out.2] at this ⊢
            have h := this.last
            rw [List.map_append, List.map_singleton, ext_data]
            rw [HZ.out.2] at h ⊢
            exact h
          clear hM hbd hfew hle hlt hi0 he0 hi1
          go_wp2_with (at_builtin; obtain ⟨i0, hj, hz0, hz1, hz2⟩ := info_parts Tryd.info_string; refine wpList_append_own _ rfl _ _ 28 rfl w.heap.size 9 i0 _ 1 16 Tryd.underlying28 hj hz0 hz1 hz2 rfl (by decide) (.slice A4 zs.length c4) zs.length (zs.map Value.string) rfl (ho.out.alloc _) ⟨wr.heap.size, 0, none⟩ 1 1 [.string (s.extract st s.size)] rfl rfl (World.news_of_block (cs := #[.string (s.extract st s.size)]) (t := 9) (fr := (0, 0)) (heap_alloc_new wr _)) (by simp [Value.oneCell']) h63.out hby.out (by simp; have := hbw.size; omega) ?_; intro v3 W3 hown3 hgrow3 _; clear hj hz0 hz1 hz2 i0)
          have hb3 : Below w.heap.size wr W3 := ((Below.refl w.heap.size wr).alloc hbw.size _).grown hgrow3 (by simp; have := hbw.size; omega) (fun q hq => pown_ge ho.out q hq)
          go_roundw
          case rel => exact ⟨s.size + 1, s.size + 1, zs ++ [s.extract st s.size], by simp, by simp, Lib.hid ⟨HN.out, by omega, fun _ => rfl⟩, Lib.hid (by rw [List.length_append, List.map_append]; exact hown3), hbw.trans hb3⟩
          case measure => simp [intOf] <;> omega
        · have hlt2 : i < s.size := by omega
          have hi2 : ((i : Int) == (s.size : Int)) = false := by rw [beq_eq_false_iff_ne]; omega
          have hi3 : ¬ ((i : Int) = (s.size : Int)) := by omega
          have hi4 : (i : Int) < (s.size : Int) := by omega
          obtain ⟨b, hbi⟩ : ∃ b, s[i]'hlt2 = b := ⟨_, rfl⟩
          have hget : s.data.toList[i]? = some b := by
            rw [List.getElem?_eq_getElem (by rw [HZ.out.2]; exact hlt2), ← hbi]
            simp [ByteArray.getElem_eq_getElem_data]
          by_cases h47 : b = 47
          · have HN : Hid (Mid s.data.toList ((zs ++ [s.extract st i]).map (·.data.toList)) (i + 1) (i + 1)) := by
              show Mid _ _ _ _
              rw [List.map_append, List.map_singleton, ext_data]
              exact hM.1.cut (by rw [HZ.out.2]; exact hlt2) (by rw [hget, h47])
            have hb47 : b.toNat = 47 := by rw [h47]; rfl
            clear hM hbd hfew hle hlt hi0 he0 hi1 hget h47 he
            go_wp2_with (at_builtin; obtain ⟨i0, hj, hz0, hz1, hz2⟩ := info_parts Tryd.info_string; refine wpList_append_own _ rfl _ _ 28 rfl w.heap.size 9 i0 _ 1 16 Tryd.underlying28 hj hz0 hz1 hz2 rfl (by decide) (.slice A4 zs.length c4) zs.length (zs.map Value.string) rfl (ho.out.alloc _) ⟨wr.heap.size, 0, none⟩ 1 1 [.string (s.extract st i)] rfl rfl (World.news_of_block (cs := #[.string (s.extract st i)]) (t := 9) (fr := (0, 0)) (heap_alloc_new wr _)) (by simp [Value.oneCell']) h63.out hby.out (by simp; have := hbw.size; omega) ?_; intro v3 W3 hown3 hgrow3 _; clear hj hz0 hz1 hz2 i0)
            have hb3 : Below w.heap.size wr W3 := ((Below.refl w.heap.size wr).alloc hbw.size _).grown hgrow3 (by simp; have := hbw.size; omega) (fun q hq => pown_ge ho.out q hq)
            go_roundw
            case rel => exact ⟨i + 1, i + 1, zs ++ [s.extract st i], by simp, by simp, Lib.hid ⟨HN.out, by omega, fun _ => rfl⟩, Lib.hid (by rw [List.length_append, List.map_append]; exact hown3), hbw.trans hb3⟩
            case measure => simp [intOf] <;> omega
          · have HN : Hid (Mid s.data.toList (zs.map (·.data.toList)) st (i + 1)) := by
              show Mid _ _ _ _
              exact hM.1.skip (by rw [HZ.out.2]; exact hlt2) (by rw [hget]; intro h; exact h47 (Option.some.inj h))
            have hb47 : ¬ b.toNat = 47 := fun h => h47 (UInt8.toNat_inj.1 h)
            have hb48 : ((b.toNat : Int) == 47) = false := by rw [beq_eq_false_iff_ne]; omega
            have hst' : i + 1 = s.size + 1 → st = i + 1 := fun h => by omega
            clear hM hbd hfew hle hlt hi0 he0 hi1 hget h47 he
            go_wp2_with fail
            go_roundw
            case rel => exact ⟨st, i + 1, zs, by simp, rfl, Lib.hid ⟨HN.out, by omega, hst'⟩, ho, hbw⟩
            case measure => simp [intOf] <;> omega
      · have hi : ¬ ((i : Int) ≤ (s.size : Int)) := by omega
        have hie : i = s.size + 1 := by omega
        have hzp : zs.map (·.data.toList) = parts s.data.toList.tail := hM.1.end_ (by rw [HZ.out.2]; exact hie) (hM.2.2 hie)
        have hps : pathOf s.data.toList = if zs.length ≤ 8 ∧ zs.all (fun z => isNm z.data.toList) = true then some (zs.map (·.data.toList)) else none := by
          unfold pathOf
          rw [if_neg P0.out, if_neg (by rw [HB0.out]; simp), ← hzp, List.length_map, List.all_map]
          rfl
        have hzl : Hid (∀ z ∈ zs, z.size ≤ maxLen) := by
          show ∀ z ∈ zs, z.size ≤ maxLen
          intro z hz'
          have h5 : (z.data.toList).length + 1 ≤ ((parts s.data.toList.tail).map (fun p => p.length + 1)).sum := by
            rw [← hzp]
            exact le_total (List.mem_map.2 ⟨z, hz', rfl⟩)
          rw [parts_len, List.length_tail, HZ.out.2] at h5
          have : z.data.toList.length = z.size := by simp
          unfold maxLen
          omega
        have HPS := Lib.hid hps
        have hsl : Sl wr wr.heap.size A4 (zs.map Value.string) := Sl.of_own ho.out
        have HSL := Lib.hid hsl
        have hzn : (zs.length : Int) ≤ 9223372036854775807 := by omega
        have hlz : zs.length ≤ s.size + 1 := by omega
        clear hzp hps hM hbd hfew hle hlt hie hi0 he0 hi1 hsl hm ho
        obtain ⟨n, hn⟩ : ∃ n, zs.length = n := ⟨_, rfl⟩
        have HN := Lib.hid hn
        rw [hn] at HPS hzn hlz ⊢
        clear hn
        go_wp2_with fail
        go_loopw [7] (fun s7 wr2 => ∃ j : Nat, j ≤ n ∧ s7 = .int .i64 (j : Int) ∧ Hid ((zs.take j).all (fun z => isNm z.data.toList) = true) ∧ wr2 = wr) (fun s7 _ => n - (intOf s7).toNat)
        case atStart => exact ⟨0, Nat.zero_le _, rfl, Lib.hid rfl, rfl⟩
        case round =>
          obtain ⟨j, hj, rfl, hall, rfl⟩ := hrel
          by_cases hjn : j < n
          · have hj1 : (j : Int) < (n : Int) := by omega
            have hjz : j < zs.length := by rw [HN.out]; exact hjn
            obtain ⟨b, o, rfl, hb, hcell⟩ := HSL.out.at (k := j) (by simpa using hjz)
            rw [List.getElem_map] at hcell
            have hcall := rname_any zs[j] wr (hzl.out _ (List.getElem_mem hjz))
            have htk : zs.take (j + 1) = zs.take j ++ [zs[j]] := List.take_succ_eq_append_getElem hjz
            have HT := Lib.hid htk
            have HMem := Lib.hid (List.getElem_mem hjz)
            obtain ⟨r, hr⟩ : ∃ r, isNm zs[j].data.toList = r := ⟨_, rfl⟩
            have HR := Lib.hid hr
            rw [hr] at hcall
            have HC := Lib.hid hcall
            clear hr htk hcall hjn
            cases r with
            | true =>
              go_wp2_with fail
              refine HC.out.mono ?_
              rintro e w' ⟨rfl, rfl⟩
              go_wp2
              go_roundw
              case rel => exact ⟨j + 1, by omega, by simp, Lib.hid (by rw [HT.out, List.all_append, hall.out]; simp [HR.out]), trivial⟩
              case measure => simp [intOf] <;> omega
            | false =>
              have hp : pathOf s.data.toList = none := by
                rw [HPS.out, if_neg]
                intro h
                have h2 := List.all_eq_true.1 h.2 _ HMem.out
                rw [HR.out] at h2
                cases h2
              have HP := Lib.hid (rsplits_none (w' := wr.alloc (.cells #[] 9)) hp (some ⟨wr.heap.size, 0, none⟩) 0)
              have HBW : Hid (Below w.heap.size w (wr.alloc (.cells #[] 9))) := hbw.alloc hbw.size _
              clear hp
              go_wp2_with fail
              refine HC.out.mono ?_
              rintro e w' ⟨rfl, rfl⟩
              go_wp2
              go_ret2
              exact ⟨HP.out, HBW.out⟩
          · have hjn' : ¬ ((j : Int) < (n : Int)) := by omega
            have hje : j = n := by omega
            subst hje
            have hal := hall.out
            rw [List.take_of_length_le (by rw [HN.out]; exact Nat.le_refl _)] at hal
            have HAL := Lib.hid hal
            clear hal hall
            by_cases h8 : 8 < j
            · have h8' : (8 : Int) < (j : Int) := by omega
              have hp : pathOf s.data.toList = none := by rw [HPS.out, if_neg]; omega
              have HP := Lib.hid (rsplits_none (w' := wr.alloc (.cells #[] 9)) hp (some ⟨wr.heap.size, 0, none⟩) 0)
              have HBW : Hid (Below w.heap.size w (wr.alloc (.cells #[] 9))) := hbw.alloc hbw.size _
              clear hp h8 hjn
              go_wp2
              go_ret2
              exact ⟨HP.out, HBW.out⟩
            · have h8' : ¬ ((8 : Int) < (j : Int)) := by omega
              have hp : pathOf s.data.toList = some (zs.map (·.data.toList)) := by rw [HPS.out, if_pos ⟨by omega, HAL.out⟩]
              have HP := Lib.hid (rsplits_some (w' := wr) (A := A4) (c := c4) hp HN.out.symm HSL.out (by have := HC4.out; have := HN.out; omega))
              clear hp h8 hjn
              go_wp2
              go_ret2
              exact ⟨HP.out, hbw⟩
  · have hp : pathOf s.data.toList = none := by
      unfold pathOf
      rw [if_neg P0.out, if_pos]
      rw [HH0.out]
      intro h
      exact hb (Option.some.inj h)
    have hb47 : ¬ b0.toNat = 47 := fun h => hb (UInt8.toNat_inj.1 h)
    have hb48 : ((b0.toNat : Int) == 47) = false := by rw [beq_eq_false_iff_ne]; omega
    have HP := Lib.hid (rsplits_none (w' := w.alloc (.cells #[] 9)) hp (some ⟨w.heap.size, 0, none⟩) 0)
    clear hp hb
    go_enter Tryd.func51, Tryd.ntmps51
    go_wp2
    go_ret2
    exact ⟨HP.out, hgr.out⟩
end Go.Proofs.YtjkilpjdgjijiaaDoor
