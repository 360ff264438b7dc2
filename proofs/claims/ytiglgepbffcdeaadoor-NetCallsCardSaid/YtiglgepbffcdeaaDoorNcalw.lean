/- NetCalls: the walk (printed by ncalw.py). -/
/- NetCalls: what the loop holds. -/
import Derived.Test.YtiglgepbffcdeaaDoorCallM
import Derived.Test.YtiglgepbffcdeaaDoorNetAll
import Derived.Test.YtiglgepbffcdeaaDoorNetM
import Derived.Test.YtiglgepbffcdeaaDoorNetL
import Derived.Test.YtiglgepbffcdeaaDoorNetF
import Derived.Test.YtiglgepbffcdeaaDoorNempw
namespace Go.Proofs.YtiglgepbffcdeaaDoor
open Go.RowKit
set_option linter.unusedVariables false

structure CallT (B n0 g : Nat) (v : Value) (ms : List Mm) (lv : Value) (ls : List Mm) (w W : World) : Prop where
  net : NetS W n0 g v ms
  ref : RefL W n0 B lv ls
  ap : ∀ k, lv.ownBlock = some k → v.ownBlock ≠ some k
  bel : Below n0 w W
variable {B n0 g : Nat} {v lv : Value} {ms ls : List Mm} {w W W' : World}
/-- A block of messages is no net. -/
theorem ref_no_net (h : NetS W n0 g v ms) (hr : RefL W n0 B lv ls) : ∀ k, lv.ownBlock = some k → k ≠ g := by
  intro k hk e
  subst e
  rcases hr.row.2 with ⟨rfl, _⟩ | ⟨gg, cap, cur, rfl, _, hh, _⟩
  · simp [Value.ownBlock] at hk
  · have : gg = k := by simpa [Value.ownBlock] using hk
    subst this
    have := h.blk
    rw [hh] at this
    injection this with this
    injection this with _ e2
    exact absurd e2 (by decide)
theorem RefL.netp (h : RefL W n0 B lv ls) (hS : NetS W n0 g v ms) (ap : ∀ k, lv.ownBlock = some k → v.ownBlock ≠ some k) (hf : Fr (NM g v) W W') (hb : Below n0 W W') (hB : B ≤ n0) : RefL W' n0 B lv ls :=
  ⟨hf.owns h.row (fun k hk hm => by
    rcases hm with e | e
    · exact ref_no_net hS h k hk e
    · exact ap k hk e), fun x hx => (h.dat x hx).below (hb.mono hB)⟩
theorem NetS.refp (h : NetS W n0 g v ms) (hr : RefL W n0 B lv ls) (ap : ∀ k, lv.ownBlock = some k → v.ownBlock ≠ some k) (hf : Fr (fun k => lv.ownBlock = some k) W W') : NetS W' n0 g v ms :=
  ⟨h.ge, (hf.block g h.lt (fun e => ref_no_net h hr g e rfl)).trans h.blk, hf.owns h.row (fun k hk hm => ap k hm hk),
    fun x hx => ⟨hf.owns (h.dat x hx).cd (fun k hk hm => owns_apart (h.dat x hx).cd hr.row (by decide) k hk hm), hf.owns (h.dat x hx).va (fun k hk hm => owns_apart (h.dat x hx).va hr.row (by decide) k hk hm)⟩, h.fit, h.le⟩
theorem CallT.below (h : CallT B n0 g v ms lv ls w W) (hb : Below W.heap.size W W') (hB : B ≤ n0) (hn : n0 ≤ W.heap.size) : CallT B n0 g v ms lv ls w W' :=
  ⟨h.net.below hb, h.ref.below hb (Nat.le_trans hB hn), h.ap, h.bel.trans (hb.mono hn)⟩
theorem CallT.put1 {m : Msg} (h : CallT B n0 g v ms lv ls w W) (hB : B ≤ n0) (hn : n0 ≤ W.heap.size) (hp : Putted n0 g v ms m W W') : ∃ v' y, y.m = m ∧ CallT B n0 g v' (ms ++ [y]) lv ls w W' := by
  have hb := hp.below h.net hn
  obtain ⟨v', y, hy, hS, hf, hv⟩ := hp
  refine ⟨v', y, hy, hS, h.ref.netp h.net h.ap hf hb hB, fun k hk e => ?_, h.bel.trans hb⟩
  rcases hv k e with e | e
  · exact h.ap k hk e
  · have := own_blk_lt h.ref.row hk
    omega
theorem CallT.put2 {lv' : Value} {ls' : List Mm} (h : CallT B n0 g v ms lv ls w W) (hn : n0 ≤ W.heap.size) (hr : RefL W' n0 B lv' ls') (hf : Fr (fun k => lv.ownBlock = some k) W W') (hv : ∀ k, lv'.ownBlock = some k → lv.ownBlock = some k ∨ W.heap.size ≤ k) : CallT B n0 g v ms lv' ls' w W' := by
  refine ⟨h.net.refp h.ref h.ap hf, hr, fun k hk e => ?_, h.bel.trans (hf.below hn (fun k hk => own_ge h.ref.row hk))⟩
  rcases hv k hk with e' | e'
  · exact h.ap k e' e
  · have := own_blk_lt h.net.row e
    omega
theorem CallT.take {i : Nat} (h : CallT B n0 g v ms lv ls w W) (hB : B ≤ n0) (hn : n0 ≤ W.heap.size) (ht : Taken n0 g v ms i W W') : ∃ v', CallT B n0 g v' (ms.eraseIdx i) lv ls w W' := by
  have hb := ht.below h.net hn
  obtain ⟨v', hS, hf, hv⟩ := ht
  exact ⟨v', hS, h.ref.netp h.net h.ap hf hb hB, fun k hk e => h.ap k hk (hv k e), h.bel.trans hb⟩
theorem CallT.wout {lv' : Value} {ls' : List Mm} (h : CallT B n0 g v ms lv ls w W) (hn : n0 ≤ W.heap.size) (hr : RefL W' W.heap.size B lv' ls') (hb : Below W.heap.size W W') : CallT B n0 g v ms lv' ls' w W' := by
  refine ⟨h.net.below hb, ⟨owns_low hr.row hn, hr.dat⟩, fun k hk e => ?_, h.bel.trans (hb.mono hn)⟩
  have h1 := own_blk_lt h.net.row e
  have h2 := own_ge hr.row hk
  omega
/-- A row of messages of one's own, as it can be read. -/
theorem sl_own16 {base n c : Nat} {A : Option Addr} {xs : List Mm} (h : W.ownsRow base 34 16 (.slice A n c) n (mcells xs)) : Sl W W.heap.size A (mcells xs) := by
  rcases h.2 with ⟨e, h0⟩ | ⟨gg, cap, cur, e, _, hh, _⟩
  · left
    have := h.1
    rw [h0] at this
    exact List.eq_nil_of_length_eq_zero (by simpa using this)
  · injection e with e1 _ _
    subst e1
    refine .inr ⟨gg, 0, rfl, (Array.getElem?_eq_some_iff.1 hh).1, fun k u hk => ?_⟩
    have := h.cells (g := gg) rfl k u hk
    rw [show ((⟨gg, 0, none⟩ : Addr).add k) = ⟨gg, k, none⟩ by simp [Addr.add]; exact fun e => e.symm] at this
    rw [Nat.zero_add]
    exact this
theorem InM.more {b b' : Nat} {x : Mm} (h : InM W b x) (hb : b ≤ b') : InM W b' x := ⟨h.s1.more hb, h.s2.more hb, h.n1, h.n2, h.k1, h.k2⟩
/-- What All gave, against the document's row. -/
theorem CallT.check (h : CallT B n0 g v ms lv ls w W) (hB : B ≤ n0) (hn : n0 ≤ W.heap.size) (he : ms.map (·.m) = ls.map (·.m)) {b : Nat} {va : Value} {ys : List Mm} (hm : ys.map (·.m) = ms.map (·.m)) (hr : W.ownsRow b 34 16 va ys.length (mcells ys)) (hy : ∀ x ∈ ys, x.own W b) :
    Calls Tryd.prog 39 #[va, lv] W fun e w' => e = .returned (.bool true) ∧ Below W.heap.size W w' := by
  obtain ⟨A1, c1, rfl⟩ := own_form hr
  have hlr := h.ref.row
  obtain ⟨A2, c2, rfl⟩ := own_form hlr
  have hyl : ys.length = ms.length := by simpa using congrArg List.length hm
  refine rsame_msgs A1 A2 c1 c2 ys ls W.heap.size W (sl_own16 hr) (sl_own16 hlr) (fun x hx => ?_) (fun x hx => (h.ref.dat x hx).more (Nat.le_trans hB hn)) (Nat.le_refl _) (by rw [hyl]; exact h.net.le) (hm.trans he)
  have hxm : x.m ∈ ms.map (·.m) := by rw [← hm]; exact List.mem_map.2 ⟨x, hx, rfl⟩
  obtain ⟨y, hym, hye⟩ := List.mem_map.1 hxm
  have hf := h.net.fit y hym
  replace hye : y.m = x.m := hye
  rw [hye] at hf
  have ho := hy x hx
  exact ⟨Sl.of_own ho.cd, Sl.of_own ho.va, own_nil ho.cd, own_nil ho.va, Nat.le_trans hf.1 (by unfold maxLen; omega), Nat.le_trans hf.2 (by unfold maxLen; omega)⟩
theorem map_erase (xs : List Mm) (i : Nat) : (xs.eraseIdx i).map (·.m) = (xs.map (·.m)).eraseIdx i := by
  induction xs generalizing i with
  | nil => rfl
  | cons x xs ih =>
    cases i with
    | zero => rfl
    | succ i => simp only [List.eraseIdx_cons_succ, List.map_cons, ih]
theorem map_at {xs ys : List Mm} (h : xs.map (·.m) = ys.map (·.m)) {i : Nat} (hi : i < xs.length) (hj : i < ys.length) : xs[i].m = ys[i].m := by
  have h := congrArg (fun x => x[i]?) h
  simpa [hi, hj] using h
end Go.Proofs.YtiglgepbffcdeaaDoor
namespace Go.Proofs.YtiglgepbffcdeaaDoor
open Go.RowKit
set_option linter.unusedVariables false
attribute [local go_sem] Oper.semAt_some

set_option maxRecDepth 100000 in
set_option maxHeartbeats 16000000 in
theorem ncal_walk (A : Option Addr) (c : Nat) (cl : List Cc) (w : World) (hT : Tab w) (hl : Sl w w.heap.size A (ccells cl)) (hin : ∀ x ∈ cl, InM w w.heap.size x.x) (hwf : ∀ x ∈ cl, (Lit.int .i64 x.pt).wf = true) (hlen : cl.length ≤ maxLen) :
    Calls Tryd.prog 6 #[.slice A cl.length c] w fun e w' => e = .returned (.bool true) ∧ Below w.heap.size w w' := by
  have HT := Lib.hid hT
  have H0 := Lib.hid hT.1
  have HL := Lib.hid hl
  have HIN := Lib.hid hin
  have HWF := Lib.hid hwf
  have HLEN := Lib.hid hlen
  unfold maxLen at hlen
  obtain ⟨n, hN⟩ : ∃ n, cl.length = n := ⟨_, rfl⟩
  have HN := Lib.hid hN
  have HGR := fun (W1 : World) (hb : Below w.heap.size w W1) => great_calls A c cl W1 ((HL.out.below hb).more hb.size) (fun x hx => ((HIN.out x hx).below hb).more hb.size) HLEN.out
  rw [hN] at hlen HGR ⊢
  replace HGR := Lib.hid HGR
  clear hT hl hin hwf hN
  go_enter Tryd.func6, Tryd.ntmps6
  go_wp2_with fail
  refine (speaks13 _ HT.out).mono ?_
  rintro en W1 ⟨rfl, hb1⟩
  have T1 := Lib.hid (HT.out.low H0.out hb1)
  have HB1 := Lib.hid hb1
  have HG1 := Lib.hid (HGR.out W1 hb1)
  clear hb1
  go_wp2_with fail
  refine HG1.out.mono ?_
  rintro en W2 ⟨⟨bg, rfl, hbg⟩, hb2⟩
  have H1 : Hid (0 < W1.heap.size) := T1.out.1
  have T2 := Lib.hid (T1.out.low H1.out hb2)
  have HB2 := Lib.hid (HB1.out.trans (hb2.mono HB1.out.size))
  have HB20 : Hid (w.heap.size ≤ W2.heap.size) := HB2.out.size
  clear hb2
  cases bg with
  | true =>
    go_wp2_with fail
    go_ret
    exact ⟨rfl, HB2.out⟩
  | false =>
  have hn60 : n ≤ 60 := hbg rfl
  have HN60 := Lib.hid hn60
  clear hbg hlen
  go_wp2_with fail
  refine (net_new _).mono ?_
  rintro en W3 ⟨rfl, hS3, hb3⟩
  have HC0 : Hid (CallT w.heap.size W2.heap.size W2.heap.size (.slice none 0 0) [] (.slice (some ⟨W3.heap.size, 0, none⟩) 0 0) [] W2 (W3.alloc (.cells #[] 34))) :=
    ⟨hS3.below ((Below.refl _ _).alloc (Nat.le_refl _) _), ⟨World.ownsRow_made W3 #[] 0 hb3.size (Nat.zero_le _) rfl, fun x hx => absurd hx (by simp)⟩, fun k hk e => by simp [Value.ownBlock] at e, hb3.alloc hb3.size _⟩
  have H2 : Hid (0 < W2.heap.size) := T2.out.1
  clear hS3 hb3
  go_wp2_with fail
  go_loopw [4, 22] (fun s4 s22 wr => ∃ (i : Nat) (v : Value) (ms : List Mm) (A0 : Option Addr) (c0 : Nat) (ls : List Mm), i ≤ n ∧ s22 = .int .i64 (i : Int) ∧ s4 = .slice A0 ls.length c0 ∧ Hid (ms.map (·.m) = ls.map (·.m)) ∧ Hid (ms.length ≤ i) ∧ Hid (CallT w.heap.size W2.heap.size W2.heap.size v ms (.slice A0 ls.length c0) ls W2 wr)) (fun _ s22 _ => n - (intOf s22).toNat)
  case atStart => exact ⟨0, _, [], _, _, [], Nat.zero_le _, rfl, rfl, rfl, Nat.zero_le _, HC0⟩
  case round =>
    clear HC0
    obtain ⟨i, v, ms, A0, c0, ls, hi, rfl, rfl, HE, HLE, HC0⟩ := hrel
    by_cases hlt : i < n
    · have hi1 : (i : Int) < (n : Int) := by omega
      have hil : i < cl.length := by rw [HN.out]; exact hlt
      have hbw : Below w.heap.size w wr := HB2.out.trans (HC0.out.bel.mono HB2.out.size)
      obtain ⟨b1, o1, rfl, hb1, hrow⟩ : ∃ b o, A = some ⟨b, o, none⟩ ∧ b < w.heap.size ∧ RowAt wr b o (ccells cl) := by
        rcases HL.out.below hbw with h | ⟨b, o, e, h1, h2⟩
        · have := congrArg List.length h
          rw [ccells_len] at this
          simp at this
          omega
        · exact ⟨b, o, e, h1, h2⟩
      have hld := ld_call_sl hrow hil
      have hx := (HIN.out _ (List.getElem_mem hil)).below hbw
      have hpw := HWF.out _ (List.getElem_mem hil)
      obtain ⟨⟨d1, d2, d3, ⟨a1, a2, a3, a4, a5, a6, a7, a8, a9, a10, a11, a12, a13, a14, a15, a16⟩, A1, c1, A3, c3⟩, hxe⟩ : ∃ x, cl[i] = x := ⟨_, rfl⟩
      rw [hxe] at hld hx hpw
      replace hld : ldR Tryd.prog 63 (.pointer (some ⟨b1, o1 + i * 19, none⟩)) wr = .ok (.value (.agg (ccs d1 d2 d3 a1 a2 a3 a4 a5 a6 a7 a8 (.slice A1 a9.length c1) a10 a11 (.slice A3 a12.length c3) a13 a14 a15 a16))) wr := hld
      obtain ⟨W3, hW3⟩ : ∃ X, wr.alloc (.cells (ccs d1 d2 d3 a1 a2 a3 a4 a5 a6 a7 a8 (.slice A1 a9.length c1) a10 a11 (.slice A3 a12.length c3) a13 a14 a15 a16) 63) = X := ⟨_, rfl⟩
      have hb3 : Below wr.heap.size wr W3 := by rw [← hW3]; exact (Below.refl _ _).alloc (Nat.le_refl _) _
      have m3 : W3.heap[wr.heap.size]? = some (.cells (ccs d1 d2 d3 a1 a2 a3 a4 a5 a6 a7 a8 (.slice A1 a9.length c1) a10 a11 (.slice A3 a12.length c3) a13 a14 a15 a16) 63 (0, 0)) := by rw [← hW3]; exact heap_alloc_new wr _
      have hl3 : wr.heap.size < W3.heap.size := (Array.getElem?_eq_some_iff.1 m3).1
      have hq3 := (Blk.of_heap m3).cell
      have HX := Lib.hid (hx.below (hb3.mono hbw.size))
      have HPW := Lib.hid hpw
      have M3 := Lib.hid m3
      have HC3 := Lib.hid (HC0.out.below hb3 HB20.out HC0.out.bel.size)
      have HG : Hid (W2.heap.size < wr.heap.size) := HC0.out.net.lt
      have HVB : Hid (∀ k, v.ownBlock = some k → k < wr.heap.size) := fun k hk => own_blk_lt HC0.out.net.row hk
      have HWR : Hid (w.heap.size ≤ wr.heap.size) := hbw.size
      have T3 := Lib.hid ((T2.out.low H2.out HC3.out.bel))
      have HML : Hid (ms.length ≤ i + 1) := Nat.le_succ_of_le HLE.out
      have hm60 : ms.length ≤ 60 := by have := HLE.out; have := HN60.out; omega
      have HM60 := Lib.hid hm60
      have hll : ls.length = ms.length := by simpa using (congrArg List.length HE.out).symm
      have HLL := Lib.hid hll
      clear hrow hx hpw hxe hbw hb3 m3 hm60 hll
      by_cases h0 : d1 = 0
      · subst h0
        have hld3 := ld_msg_in (W := W3) (q := wr.heap.size) (b1 := 0) (b2 := d2) (b3 := d3) (x := ⟨(Msg.mk a1 a2 a3 a4 a5 a6 a7 a8 a9 a10 a11 a12 a13 a14 a15 a16), A1, c1, A3, c3⟩) M3.out
        replace hld3 : ldR Tryd.prog 34 (.pointer (some ⟨wr.heap.size, 3, none⟩)) W3 = .ok (.value (.agg (mcs a1 a2 a3 a4 a5 a6 a7 a8 (.slice A1 a9.length c1) a10 a11 (.slice A3 a12.length c3) a13 a14 a15 a16))) W3 := hld3
        by_cases hrt : (Msg.mk a1 a2 a3 a4 a5 a6 a7 a8 a9 a10 a11 a12 a13 a14 a15 a16).right = true
        · have HPUT := Lib.hid (net_put_lit a1 a2 a3 a4 a5 a6 a7 a8 a9 a10 a11 a12 a13 a14 a15 a16 A1 A3 c1 c3 w.heap.size HC3.out.net (by have := HM60.out; omega) T3.out HX.out.s1 HX.out.s2 HX.out.n1 HX.out.n2 (Nat.le_trans HB20.out HC3.out.bel.size) HC3.out.bel.size hrt)
          have HRT := Lib.hid hrt
          clear hrt
          go_wp2_with fail
          refine HPUT.out.mono ?_
          rintro en4 W4 ⟨rfl, hp4⟩
          have m4 : W4.heap[wr.heap.size]? = some (.cells (ccs 0 d2 d3 a1 a2 a3 a4 a5 a6 a7 a8 (.slice A1 a9.length c1) a10 a11 (.slice A3 a12.length c3) a13 a14 a15 a16) 63 (0, 0)) := by
            obtain ⟨_, _, _, _, hf, _⟩ := hp4
            exact (HC3.out.net.away hf hl3 (by have := HG.out; omega) (fun j hj => by have := HVB.out j hj; omega)).trans M3.out
          have hb4 := hp4.below HC3.out.net HC3.out.bel.size
          obtain ⟨v4, y, hy, hC4⟩ := HC3.out.put1 HB20.out HC3.out.bel.size hp4
          have hld4 := ld_msg_in (W := W4) (q := wr.heap.size) (b1 := 0) (b2 := d2) (b3 := d3) (x := ⟨(Msg.mk a1 a2 a3 a4 a5 a6 a7 a8 a9 a10 a11 a12 a13 a14 a15 a16), A1, c1, A3, c3⟩) m4
          replace hld4 : ldR Tryd.prog 34 (.pointer (some ⟨wr.heap.size, 3, none⟩)) W4 = .ok (.value (.agg (mcs a1 a2 a3 a4 a5 a6 a7 a8 (.slice A1 a9.length c1) a10 a11 (.slice A3 a12.length c3) a13 a14 a15 a16))) W4 := hld4
          have HRP := Lib.hid (ref_put_ok a1 a2 a3 a4 a5 a6 a7 a8 a9 a10 a11 a12 a13 a14 a15 a16 A1 A3 c1 c3 w.heap.size hC4.ref (by have := HM60.out; have := HLL.out; omega) (HX.out.below (hb4.mono HB20.out)) HB20.out hC4.bel.size HRT.out)
          have HC4 := Lib.hid hC4
          have HY := Lib.hid hy
          have hq4 := (Blk.of_heap m4).cell
          clear hp4 hC4 hy m4 hb4
          go_wp2_with fail
          refine HRP.out.mono ?_
          rintro en5 W5 ⟨l5, rfl, hr5, hf5, hv5⟩
          have hC5 := HC4.out.put2 HC4.out.bel.size hr5 hf5 hv5
          have hr6 := hC5.ref.row
          obtain ⟨A5, c5, rfl⟩ := own_form hr6
          have hE : (ms ++ [y]).map (·.m) = (ls ++ [(⟨(Msg.mk a1 a2 a3 a4 a5 a6 a7 a8 a9 a10 a11 a12 a13 a14 a15 a16), A1, c1, A3, c3⟩ : Mm)]).map (·.m) := by
            rw [List.map_append, List.map_append, HE.out]
            simp [HY.out]
          have hML : (ms ++ [y]).length ≤ i + 1 := by rw [List.length_append]; have := HLE.out; simp; omega
          clear hf5 hv5 hr6 hr5 HE HML
          obtain ⟨MS, hMS⟩ : ∃ L, ms ++ [y] = L := ⟨_, rfl⟩
          obtain ⟨LS, hLS⟩ : ∃ L, ls ++ [(⟨(Msg.mk a1 a2 a3 a4 a5 a6 a7 a8 a9 a10 a11 a12 a13 a14 a15 a16), A1, c1, A3, c3⟩ : Mm)] = L := ⟨_, rfl⟩
          rw [hMS] at hC5 hE hML
          rw [hLS] at hC5 hE ⊢
          have HC := Lib.hid hC5
          have HE := Lib.hid hE
          have HML := Lib.hid hML
          clear hMS hLS hC5 hE hML
          have hml : (MS).length = (LS).length := by simpa using congrArg List.length HE.out
          have hln := net_len HC.out.net
          rw [hml] at hln
          have HLN := Lib.hid hln
          have HAL := Lib.hid (net_all HC.out.net)
          have HNX := Lib.hid HC.out.bel.size
          clear hln hml
          go_wp2_with fail
          refine HLN.out.mono ?_
          rintro eX1 WX1 ⟨rfl, rfl⟩
          go_wp2_with fail
          refine HAL.out.mono ?_
          rintro eX2 WX2 ⟨⟨va, ys, rfl, hym, hyr, hyo⟩, hbX⟩
          obtain ⟨Ay, cy, rfl⟩ := own_form hyr
          have HC2 := Lib.hid (HC.out.below hbX HB20.out HNX.out)
          have HSAM := Lib.hid (HC2.out.check HB20.out HC2.out.bel.size HE.out hym hyr hyo)
          clear hym hyr hyo hbX
          go_wp2_with fail
          refine HSAM.out.mono ?_
          rintro eX3 WX3 ⟨rfl, hbY⟩
          have HC3 := Lib.hid (HC2.out.below hbY HB20.out HC2.out.bel.size)
          clear hbY
          go_wp2_with fail
          go_roundw
          case rel => exact ⟨i + 1, _, MS, _, _, LS, by omega, by go_num, rfl, HE, HML, HC3⟩
          case measure => simp [intOf]; omega
        · have HPUT := Lib.hid (net_put_bad (Msg.mk a1 a2 a3 a4 a5 a6 a7 a8 a9 a10 a11 a12 a13 a14 a15 a16) A1 A3 c1 c3 W3 W2.heap.size (by simpa using hrt))
          have HRT : Hid ((Msg.mk a1 a2 a3 a4 a5 a6 a7 a8 a9 a10 a11 a12 a13 a14 a15 a16).right = false) := Bool.eq_false_iff.2 hrt
          clear hrt
          go_wp2_with fail
          refine HPUT.out.mono ?_
          rintro en4 W4 ⟨rfl, hb4⟩
          have m4 := (hb4.block wr.heap.size hl3).trans M3.out
          have hld4 := ld_msg_in (W := W4) (q := wr.heap.size) (b1 := 0) (b2 := d2) (b3 := d3) (x := ⟨(Msg.mk a1 a2 a3 a4 a5 a6 a7 a8 a9 a10 a11 a12 a13 a14 a15 a16), A1, c1, A3, c3⟩) m4
          replace hld4 : ldR Tryd.prog 34 (.pointer (some ⟨wr.heap.size, 3, none⟩)) W4 = .ok (.value (.agg (mcs a1 a2 a3 a4 a5 a6 a7 a8 (.slice A1 a9.length c1) a10 a11 (.slice A3 a12.length c3) a13 a14 a15 a16))) W4 := hld4
          have HC4 := Lib.hid (HC3.out.below hb4 HB20.out HC3.out.bel.size)
          have HRP := Lib.hid (ref_put_bad (Msg.mk a1 a2 a3 a4 a5 a6 a7 a8 a9 a10 a11 a12 a13 a14 a15 a16) A1 A3 A0 c1 c3 ls.length c0 W4 HRT.out)
          have hq4 := (Blk.of_heap m4).cell
          clear hb4 m4
          go_wp2_with fail
          refine HRP.out.mono ?_
          rintro en5 W5 ⟨rfl, hb5⟩
          have HC := Lib.hid (HC4.out.below hb5 HB20.out HC4.out.bel.size)
          clear hb5
          have hml : (ms).length = (ls).length := by simpa using congrArg List.length HE.out
          have hln := net_len HC.out.net
          rw [hml] at hln
          have HLN := Lib.hid hln
          have HAL := Lib.hid (net_all HC.out.net)
          have HNX := Lib.hid HC.out.bel.size
          clear hln hml
          go_wp2_with fail
          refine HLN.out.mono ?_
          rintro eX1 WX1 ⟨rfl, rfl⟩
          go_wp2_with fail
          refine HAL.out.mono ?_
          rintro eX2 WX2 ⟨⟨va, ys, rfl, hym, hyr, hyo⟩, hbX⟩
          obtain ⟨Ay, cy, rfl⟩ := own_form hyr
          have HC2 := Lib.hid (HC.out.below hbX HB20.out HNX.out)
          have HSAM := Lib.hid (HC2.out.check HB20.out HC2.out.bel.size HE.out hym hyr hyo)
          clear hym hyr hyo hbX
          go_wp2_with fail
          refine HSAM.out.mono ?_
          rintro eX3 WX3 ⟨rfl, hbY⟩
          have HC3 := Lib.hid (HC2.out.below hbY HB20.out HC2.out.bel.size)
          clear hbY
          go_wp2_with fail
          go_roundw
          case rel => exact ⟨i + 1, _, ms, _, _, ls, by omega, by go_num, rfl, HE, HML, HC3⟩
          case measure => simp [intOf]; omega
      · by_cases h1 : d1 = 1
        · subst h1
          have hz1 : ((1 : Int) == 0) = false := rfl
          cases hms : ms with
          | nil =>
            subst hms
            have hls : ls = [] := List.eq_nil_of_length_eq_zero HLL.out
            subst hls
            have HTN := Lib.hid (net_take_none HC3.out.net d2 d3)
            go_wp2_with fail
            refine HTN.out.mono ?_
            rintro en4 W4 ⟨rfl, hb4⟩
            obtain ⟨W5, hW5⟩ : ∃ X, W4.alloc (.cells zcells 34) = X := ⟨_, rfl⟩
            have hb5 : Below W4.heap.size W4 W5 := by rw [← hW5]; exact (Below.refl _ _).alloc (Nat.le_refl _) _
            have m5 : W5.heap[W4.heap.size]? = some (.cells zcells 34 (0, 0)) := by rw [← hW5]; exact heap_alloc_new W4 _
            have hq5 := (Blk.of_heap m5).cell
            have hC5 := (HC3.out.below hb4 HB20.out HC3.out.bel.size).below hb5 HB20.out (Nat.le_trans HC3.out.bel.size hb4.size)
            have HC5 := Lib.hid hC5
            have hsame := msame_any (Msg.mk 0 0 0 false 0 0 0 0 [] 0 0 [] 0 0 0 0) (Msg.mk 0 0 0 false 0 0 0 0 [] 0 0 [] 0 0 0 0) none none none none 0 0 0 0 W5.heap.size W5 (.inl rfl) (.inl rfl) (.inl rfl) (.inl rfl) (Nat.zero_le _) (Nat.zero_le _) (Nat.zero_le _) (Nat.zero_le _) (Nat.le_refl _)
            rw [(Msg.eqb_iff _ _).2 rfl] at hsame
            have HMS := Lib.hid hsame
            clear hb4 hb5 m5 hC5 hsame
            subst hW5
            go_wp2_with fail
            refine HMS.out.mono ?_
            rintro en6 W6 ⟨rfl, hb6⟩
            have HC := Lib.hid (HC5.out.below hb6 HB20.out HC5.out.bel.size)
            clear hb6
            have hml : (([] : List Mm)).length = (([] : List Mm)).length := rfl
            have hln := net_len HC.out.net
            rw [hml] at hln
            have HLN := Lib.hid hln
            have HAL := Lib.hid (net_all HC.out.net)
            have HNX := Lib.hid HC.out.bel.size
            clear hln hml
            go_wp2_with fail
            refine HLN.out.mono ?_
            rintro eX1 WX1 ⟨rfl, rfl⟩
            go_wp2_with fail
            refine HAL.out.mono ?_
            rintro eX2 WX2 ⟨⟨va, ys, rfl, hym, hyr, hyo⟩, hbX⟩
            obtain ⟨Ay, cy, rfl⟩ := own_form hyr
            have HC2 := Lib.hid (HC.out.below hbX HB20.out HNX.out)
            have HSAM := Lib.hid (HC2.out.check HB20.out HC2.out.bel.size rfl hym hyr hyo)
            clear hym hyr hyo hbX
            go_wp2_with fail
            refine HSAM.out.mono ?_
            rintro eX3 WX3 ⟨rfl, hbY⟩
            have HC3 := Lib.hid (HC2.out.below hbY HB20.out HC2.out.bel.size)
            clear hbY
            go_wp2_with fail
            go_roundw
            case rel => exact ⟨i + 1, _, ([] : List Mm), _, _, ([] : List Mm), by omega, by go_num, rfl, rfl, HML, HC3⟩
            case measure => simp [intOf]; omega
          | cons y0 ys0 =>
            have hne : ms ≠ [] := by rw [hms]; exact List.cons_ne_nil _ _
            have hlp : 0 < ls.length := by rw [HLL.out, hms]; exact Nat.succ_pos _
            obtain ⟨lq, hlq⟩ : ∃ q, ls.length = q := ⟨_, rfl⟩
            have HLQ := Lib.hid hlq
            have hlq0 : ¬ (lq = 0) := by omega
            have hlq0i : ¬ ((lq : Int) = 0) := by omega
            rw [hlq]
            have HRPL := fun (X : World) => ref_place d2 lq (by omega) (by have := HM60.out; have := HLL.out; omega) X
            replace HRPL := Lib.hid HRPL
            have HNE := Lib.hid hne
            clear hne hms hlq hlp
            cases d3 with
            | true =>
              have HTK := Lib.hid (net_take_stay HC3.out.net HNE.out d2 HC3.out.bel.size)
              go_wp2_with fail
              refine HTK.out.mono ?_
              rintro en4 W4 ⟨j, hj, B1, e1, B2, e2, hjz, rfl, hown, hb4⟩
              have hjl : j < ls.length := by rw [HLL.out]; exact hj
              have hmj := map_at HE.out hj hjl
              have hfit := HC3.out.net.fit ms[j] (List.getElem_mem hj)
              have m4 := (hb4.block wr.heap.size hl3).trans M3.out
              have hC4 := HC3.out.below hb4 HB20.out HC3.out.bel.size
              obtain ⟨m, hm⟩ : ∃ m, ms[j].m = m := ⟨_, rfl⟩
              rw [hm] at hmj hfit hown ⊢
              obtain ⟨p1, p2, p3, p4, p5, p6, p7, p8, p9, p10, p11, p12, p13, p14, p15, p16⟩ := m
              obtain ⟨W5, hW5⟩ : ∃ X, W4.alloc (.cells (mcs p1 p2 p3 p4 p5 p6 p7 p8 (.slice B1 p9.length e1) p10 p11 (.slice B2 p12.length e2) p13 p14 p15 p16) 34) = X := ⟨_, rfl⟩
              have hb5 : Below W4.heap.size W4 W5 := by rw [← hW5]; exact (Below.refl _ _).alloc (Nat.le_refl _) _
              have m5 : W5.heap[W4.heap.size]? = some (.cells (mcs p1 p2 p3 p4 p5 p6 p7 p8 (.slice B1 p9.length e1) p10 p11 (.slice B2 p12.length e2) p13 p14 p15 p16) 34 (0, 0)) := by rw [← hW5]; exact heap_alloc_new W4 _
              have hl4 := (Array.getElem?_eq_some_iff.1 m4).1
              have m5c := (hb5.block wr.heap.size hl4).trans m4
              have hq5 := (Blk.of_heap m5c).cell
              have hl5 := (Array.getElem?_eq_some_iff.1 m5c).1
              have hC5 := hC4.below hb5 HB20.out hC4.bel.size
              have hld5 := ldR_row (P := Tryd.prog) 34 W5.drew W4.heap.size 34 (mcs p1 p2 p3 p4 p5 p6 p7 p8 (.slice B1 p9.length e1) p10 p11 (.slice B2 p12.length e2) p13 p14 p15 p16) (0, 0) _ m5 Tryd.underlying34 rfl (by kernel_rfl)
              have hr5 := hC5.ref.row
              obtain ⟨b2, o2, rfl, hbb2, hrw2⟩ := sl_row (sl_own16 hr5) hjl
              have hld6 := ld_msg_sl (W := W5.drew) hrw2 hjl (B := 0)
              have hx6 := (hC5.ref.dat _ (List.getElem_mem hjl)).more (Nat.le_trans HB20.out hC5.bel.size)
              obtain ⟨y, hy⟩ : ∃ y, ls[j] = y := ⟨_, rfl⟩
              rw [hy] at hmj hld6 hx6
              obtain ⟨m', Q1, q1, Q2, q2⟩ := y
              replace hmj : (Msg.mk p1 p2 p3 p4 p5 p6 p7 p8 p9 p10 p11 p12 p13 p14 p15 p16) = m' := hmj
              subst hmj
              replace hld6 : ldR Tryd.prog 34 (.pointer (some ⟨b2, o2 + j * 16, none⟩)) W5.drew = .ok (.value (.agg (mcs p1 p2 p3 p4 p5 p6 p7 p8 (.slice Q1 p9.length q1) p10 p11 (.slice Q2 p12.length q2) p13 p14 p15 p16))) W5.drew := hld6
              have hf9 : p9.length ≤ 65536 ∧ p12.length ≤ 1000 := hfit
              have hs1 : Sl W5 W5.heap.size B1 (bv p9) := Sl.of_own (owns_keep hown.cd hb5)
              have hs2 : Sl W5 W5.heap.size B2 (bv p12) := Sl.of_own (owns_keep hown.va hb5)
              have hsm := fun (X : World) (hX : Below W5.heap.size W5 X) => msame_any (Msg.mk p1 p2 p3 p4 p5 p6 p7 p8 p9 p10 p11 p12 p13 p14 p15 p16) (Msg.mk p1 p2 p3 p4 p5 p6 p7 p8 p9 p10 p11 p12 p13 p14 p15 p16) B1 B2 Q1 Q2 e1 e2 q1 q2 W5.heap.size X (hs1.below hX) (hs2.below hX) (hx6.s1.below hX) (hx6.s2.below hX)
                (Nat.le_trans hf9.1 (by unfold maxLen; omega)) (Nat.le_trans hf9.2 (by unfold maxLen; omega)) (Nat.le_trans hf9.1 (by unfold maxLen; omega)) (Nat.le_trans hf9.2 (by unfold maxLen; omega)) hX.size
              rw [(Msg.eqb_iff _ _).2 rfl] at hsm
              have HMS := Lib.hid hsm
              have HC5 := Lib.hid hC5
              have M5C := Lib.hid m5c
              have HJZ := Lib.hid hjz
              have HJL := Lib.hid hjl
              have hD : Below W5.heap.size W5 W5.drew := (Below.refl _ _).drew
              have hj1 : (j : Int) < (lq : Int) := by have := HLQ.out; omega
              have hmz : (ms.length : Int) = (lq : Int) := by have := HLL.out; have := HLQ.out; omega
              have HMZ := Lib.hid hmz
              clear hm hown hb5 m5 hl4 m5c hC5 hr5 hbb2 hrw2 hx6 hy hf9 hs1 hs2 hsm hfit hjz m4 hC4 hjl hmz
              go_wp2_with fail
              refine (HRPL.out _).mono ?_
              rintro en5 WY ⟨⟨j', hj', hjz', rfl⟩, rfl⟩
              obtain rfl : j = j' := by have h := HJZ.out; rw [HMZ.out] at h; omega
              clear hjz'
              go_wp2_with fail
              go_region_law (go_simp; go_at_call 32; refine (HMS.out _ hD).mono ?_; rintro en X ⟨rfl, hbX⟩)
              all_goals
                have hbZ := hD.trans (hbX.mono hD.size)
                have mX := (hbZ.block wr.heap.size hl5).trans M5C.out
                have hqX := (Blk.of_heap mX).cell
                have HC6 := Lib.hid (HC5.out.below hbZ HB20.out HC5.out.bel.size)
                clear hbZ mX
                have HC := HC6
                rw [← HLQ.out]
                have hml : (ms).length = (ls).length := by simpa using congrArg List.length HE.out
                have hln := net_len HC.out.net
                rw [hml] at hln
                have HLN := Lib.hid hln
                have HAL := Lib.hid (net_all HC.out.net)
                have HNX := Lib.hid HC.out.bel.size
                clear hln hml
                go_wp2_with fail
                refine HLN.out.mono ?_
                rintro eX1 WX1 ⟨rfl, rfl⟩
                go_wp2_with fail
                refine HAL.out.mono ?_
                rintro eX2 WX2 ⟨⟨va, ys, rfl, hym, hyr, hyo⟩, hbX⟩
                obtain ⟨Ay, cy, rfl⟩ := own_form hyr
                have HC2 := Lib.hid (HC.out.below hbX HB20.out HNX.out)
                have HSAM := Lib.hid (HC2.out.check HB20.out HC2.out.bel.size HE.out hym hyr hyo)
                clear hym hyr hyo hbX
                go_wp2_with fail
                refine HSAM.out.mono ?_
                rintro eX3 WX3 ⟨rfl, hbY⟩
                have HC3 := Lib.hid (HC2.out.below hbY HB20.out HC2.out.bel.size)
                clear hbY
                go_wp2_with fail
                go_roundw
                case rel => exact ⟨i + 1, _, ms, _, _, ls, by omega, by go_num, rfl, HE, HML, HC3⟩
                case measure => simp [intOf]; omega
            | false =>
              have HTK := Lib.hid (net_take_out HC3.out.net HNE.out d2 HC3.out.bel.size)
              go_wp2_with fail
              refine HTK.out.mono ?_
              rintro en4 W4 ⟨j, hj, B1, e1, B2, e2, hjz, rfl, hown, htk⟩
              have hjl : j < ls.length := by rw [HLL.out]; exact hj
              have hmj := map_at HE.out hj hjl
              have hfit := HC3.out.net.fit ms[j] (List.getElem_mem hj)
              have m4 : W4.heap[wr.heap.size]? = some (.cells (ccs 1 d2 false a1 a2 a3 a4 a5 a6 a7 a8 (.slice A1 a9.length c1) a10 a11 (.slice A3 a12.length c3) a13 a14 a15 a16) 63 (0, 0)) := by
                obtain ⟨_, _, hf, _⟩ := htk
                exact (HC3.out.net.away hf hl3 (by have := HG.out; omega) (fun j hj => by have := HVB.out j hj; omega)).trans M3.out
              obtain ⟨v4, hC4⟩ := HC3.out.take HB20.out HC3.out.bel.size htk
              clear htk
              obtain ⟨m, hm⟩ : ∃ m, ms[j].m = m := ⟨_, rfl⟩
              rw [hm] at hmj hfit hown ⊢
              obtain ⟨p1, p2, p3, p4, p5, p6, p7, p8, p9, p10, p11, p12, p13, p14, p15, p16⟩ := m
              obtain ⟨W5, hW5⟩ : ∃ X, W4.alloc (.cells (mcs p1 p2 p3 p4 p5 p6 p7 p8 (.slice B1 p9.length e1) p10 p11 (.slice B2 p12.length e2) p13 p14 p15 p16) 34) = X := ⟨_, rfl⟩
              have hb5 : Below W4.heap.size W4 W5 := by rw [← hW5]; exact (Below.refl _ _).alloc (Nat.le_refl _) _
              have m5 : W5.heap[W4.heap.size]? = some (.cells (mcs p1 p2 p3 p4 p5 p6 p7 p8 (.slice B1 p9.length e1) p10 p11 (.slice B2 p12.length e2) p13 p14 p15 p16) 34 (0, 0)) := by rw [← hW5]; exact heap_alloc_new W4 _
              have hl4 := (Array.getElem?_eq_some_iff.1 m4).1
              have m5c := (hb5.block wr.heap.size hl4).trans m4
              have hq5 := (Blk.of_heap m5c).cell
              have hl5 := (Array.getElem?_eq_some_iff.1 m5c).1
              have hC5 := hC4.below hb5 HB20.out hC4.bel.size
              have hld5 := ldR_row (P := Tryd.prog) 34 W5.drew W4.heap.size 34 (mcs p1 p2 p3 p4 p5 p6 p7 p8 (.slice B1 p9.length e1) p10 p11 (.slice B2 p12.length e2) p13 p14 p15 p16) (0, 0) _ m5 Tryd.underlying34 rfl (by kernel_rfl)
              have hr5 := hC5.ref.row
              obtain ⟨b2, o2, rfl, hbb2, hrw2⟩ := sl_row (sl_own16 hr5) hjl
              have hld6 := ld_msg_sl (W := W5.drew) hrw2 hjl (B := 0)
              have hx6 := (hC5.ref.dat _ (List.getElem_mem hjl)).more (Nat.le_trans HB20.out hC5.bel.size)
              obtain ⟨y, hy⟩ : ∃ y, ls[j] = y := ⟨_, rfl⟩
              rw [hy] at hmj hld6 hx6
              obtain ⟨m', Q1, q1, Q2, q2⟩ := y
              replace hmj : (Msg.mk p1 p2 p3 p4 p5 p6 p7 p8 p9 p10 p11 p12 p13 p14 p15 p16) = m' := hmj
              subst hmj
              replace hld6 : ldR Tryd.prog 34 (.pointer (some ⟨b2, o2 + j * 16, none⟩)) W5.drew = .ok (.value (.agg (mcs p1 p2 p3 p4 p5 p6 p7 p8 (.slice Q1 p9.length q1) p10 p11 (.slice Q2 p12.length q2) p13 p14 p15 p16))) W5.drew := hld6
              have hf9 : p9.length ≤ 65536 ∧ p12.length ≤ 1000 := hfit
              have hs1 : Sl W5 W5.heap.size B1 (bv p9) := Sl.of_own (owns_keep hown.cd hb5)
              have hs2 : Sl W5 W5.heap.size B2 (bv p12) := Sl.of_own (owns_keep hown.va hb5)
              have hsm := fun (X : World) (hX : Below W5.heap.size W5 X) => msame_any (Msg.mk p1 p2 p3 p4 p5 p6 p7 p8 p9 p10 p11 p12 p13 p14 p15 p16) (Msg.mk p1 p2 p3 p4 p5 p6 p7 p8 p9 p10 p11 p12 p13 p14 p15 p16) B1 B2 Q1 Q2 e1 e2 q1 q2 W5.heap.size X (hs1.below hX) (hs2.below hX) (hx6.s1.below hX) (hx6.s2.below hX)
                (Nat.le_trans hf9.1 (by unfold maxLen; omega)) (Nat.le_trans hf9.2 (by unfold maxLen; omega)) (Nat.le_trans hf9.1 (by unfold maxLen; omega)) (Nat.le_trans hf9.2 (by unfold maxLen; omega)) hX.size
              rw [(Msg.eqb_iff _ _).2 rfl] at hsm
              have HMS := Lib.hid hsm
              have HC5 := Lib.hid hC5
              have M5C := Lib.hid m5c
              have HJZ := Lib.hid hjz
              have HJL := Lib.hid hjl
              have hD : Below W5.heap.size W5 W5.drew := (Below.refl _ _).drew
              have hj1 : (j : Int) < (lq : Int) := by have := HLQ.out; omega
              have hmz : (ms.length : Int) = (lq : Int) := by have := HLL.out; have := HLQ.out; omega
              have HMZ := Lib.hid hmz
              clear hm hown hb5 m5 hl4 m5c hC5 hr5 hbb2 hrw2 hx6 hy hf9 hs1 hs2 hsm hfit hjz m4 hC4 hjl hmz
              go_wp2_with fail
              refine (HRPL.out _).mono ?_
              rintro en5 WY ⟨⟨j', hj', hjz', rfl⟩, rfl⟩
              obtain rfl : j = j' := by have h := HJZ.out; rw [HMZ.out] at h; omega
              clear hjz'
              go_wp2_with fail
              go_region_law (go_simp; go_at_call 32; refine (HMS.out _ hD).mono ?_; rintro en X ⟨rfl, hbX⟩)
              all_goals
                have hbZ := hD.trans (hbX.mono hD.size)
                have mX := (hbZ.block wr.heap.size hl5).trans M5C.out
                have hqX := (Blk.of_heap mX).cell
                have HC6 := Lib.hid (HC5.out.below hbZ HB20.out HC5.out.bel.size)
                clear hbZ mX
                have hrw := ref_without HC6.out.ref (Nat.le_trans HB20.out HC6.out.bel.size) HJL.out (by have := HM60.out; have := HLL.out; omega)
                rw [HLQ.out] at hrw
                have HRW := Lib.hid hrw
                clear hrw
                go_wp2_with fail
                refine HRW.out.mono ?_
                rintro en7 W7 ⟨⟨l7, rfl, hr7⟩, hb7⟩
                have hC7 := HC6.out.wout HC6.out.bel.size hr7 hb7
                have hr8 := hC7.ref.row
                obtain ⟨A7, c7, rfl⟩ := own_form hr8
                have hE : (ms.eraseIdx j).map (·.m) = (ls.eraseIdx j).map (·.m) := by rw [map_erase, map_erase, HE.out]
                have hML : (ms.eraseIdx j).length ≤ i + 1 := Nat.le_trans (List.length_eraseIdx_le _ _) HML.out
                obtain ⟨MS, hMS⟩ : ∃ L, ms.eraseIdx j = L := ⟨_, rfl⟩
                obtain ⟨LS, hLS⟩ : ∃ L, ls.eraseIdx j = L := ⟨_, rfl⟩
                rw [hMS] at hC7 hE hML
                rw [hLS] at hC7 hE ⊢
                clear HE HML
                have HC := Lib.hid hC7
                have HE := Lib.hid hE
                have HML := Lib.hid hML
                clear hMS hLS hC7 hE hML hr7 hr8 hb7
                have hml : (MS).length = (LS).length := by simpa using congrArg List.length HE.out
                have hln := net_len HC.out.net
                rw [hml] at hln
                have HLN := Lib.hid hln
                have HAL := Lib.hid (net_all HC.out.net)
                have HNX := Lib.hid HC.out.bel.size
                clear hln hml
                go_wp2_with fail
                refine HLN.out.mono ?_
                rintro eX1 WX1 ⟨rfl, rfl⟩
                go_wp2_with fail
                refine HAL.out.mono ?_
                rintro eX2 WX2 ⟨⟨va, ys, rfl, hym, hyr, hyo⟩, hbX⟩
                obtain ⟨Ay, cy, rfl⟩ := own_form hyr
                have HC2 := Lib.hid (HC.out.below hbX HB20.out HNX.out)
                have HSAM := Lib.hid (HC2.out.check HB20.out HC2.out.bel.size HE.out hym hyr hyo)
                clear hym hyr hyo hbX
                go_wp2_with fail
                refine HSAM.out.mono ?_
                rintro eX3 WX3 ⟨rfl, hbY⟩
                have HC3 := Lib.hid (HC2.out.below hbY HB20.out HC2.out.bel.size)
                clear hbY
                go_wp2_with fail
                go_roundw
                case rel => exact ⟨i + 1, _, MS, _, _, LS, by omega, by go_num, rfl, HE, HML, HC3⟩
                case measure => simp [intOf]; omega
        · have hb0 : (d1 == 0) = false := by simpa using h0
          have hb1' : (d1 == 1) = false := by simpa using h1
          cases hms : ms with
          | nil =>
            subst hms
            have hls : ls = [] := List.eq_nil_of_length_eq_zero HLL.out
            subst hls
            have HTN := Lib.hid (net_drop_none HC3.out.net d2)
            have HC := HC3
            go_wp2_with fail
            refine HTN.out.mono ?_
            rintro en4 W4 ⟨rfl, rfl⟩
            have hml : (([] : List Mm)).length = (([] : List Mm)).length := rfl
            have hln := net_len HC.out.net
            rw [hml] at hln
            have HLN := Lib.hid hln
            have HAL := Lib.hid (net_all HC.out.net)
            have HNX := Lib.hid HC.out.bel.size
            clear hln hml
            go_wp2_with fail
            refine HLN.out.mono ?_
            rintro eX1 WX1 ⟨rfl, rfl⟩
            go_wp2_with fail
            refine HAL.out.mono ?_
            rintro eX2 WX2 ⟨⟨va, ys, rfl, hym, hyr, hyo⟩, hbX⟩
            obtain ⟨Ay, cy, rfl⟩ := own_form hyr
            have HC2 := Lib.hid (HC.out.below hbX HB20.out HNX.out)
            have HSAM := Lib.hid (HC2.out.check HB20.out HC2.out.bel.size rfl hym hyr hyo)
            clear hym hyr hyo hbX
            go_wp2_with fail
            refine HSAM.out.mono ?_
            rintro eX3 WX3 ⟨rfl, hbY⟩
            have HC3 := Lib.hid (HC2.out.below hbY HB20.out HC2.out.bel.size)
            clear hbY
            go_wp2_with fail
            go_roundw
            case rel => exact ⟨i + 1, _, ([] : List Mm), _, _, ([] : List Mm), by omega, by go_num, rfl, rfl, HML, HC3⟩
            case measure => simp [intOf]; omega
          | cons y0 ys0 =>
            have hne : ms ≠ [] := by rw [hms]; exact List.cons_ne_nil _ _
            have hlp : 0 < ls.length := by rw [HLL.out, hms]; exact Nat.succ_pos _
            obtain ⟨lq, hlq⟩ : ∃ q, ls.length = q := ⟨_, rfl⟩
            have HLQ := Lib.hid hlq
            have hlq0 : ¬ (lq = 0) := by omega
            have hlq0i : ¬ ((lq : Int) = 0) := by omega
            rw [hlq]
            have HRPL := fun (X : World) => ref_place d2 lq (by omega) (by have := HM60.out; have := HLL.out; omega) X
            replace HRPL := Lib.hid HRPL
            have HTK := Lib.hid (net_drop HC3.out.net hne d2)
            clear hne hms hlq hlp
            go_wp2_with fail
            refine HTK.out.mono ?_
            rintro en4 W4 ⟨rfl, j, hj, hjz, htk⟩
            have hjl : j < ls.length := by rw [HLL.out]; exact hj
            have m4 : W4.heap[wr.heap.size]? = some (.cells (ccs d1 d2 d3 a1 a2 a3 a4 a5 a6 a7 a8 (.slice A1 a9.length c1) a10 a11 (.slice A3 a12.length c3) a13 a14 a15 a16) 63 (0, 0)) := by
              obtain ⟨_, _, hf, _⟩ := htk
              exact (HC3.out.net.away hf hl3 (by have := HG.out; omega) (fun j hj => by have := HVB.out j hj; omega)).trans M3.out
            obtain ⟨v4, hC4⟩ := HC3.out.take HB20.out HC3.out.bel.size htk
            have hq4 := (Blk.of_heap m4).cell
            have HC4 := Lib.hid hC4
            have HJZ := Lib.hid hjz
            have HJL := Lib.hid hjl
            have hmz : (ms.length : Int) = (lq : Int) := by have := HLL.out; have := HLQ.out; omega
            have HMZ := Lib.hid hmz
            clear htk m4 hC4 hjz hjl hmz
            go_wp2_with fail
            refine (HRPL.out _).mono ?_
            rintro en5 WY ⟨⟨j', hj', hjz', rfl⟩, rfl⟩
            obtain rfl : j = j' := by have h := HJZ.out; rw [HMZ.out] at h; omega
            clear hjz'
            have hrw := ref_without HC4.out.ref (Nat.le_trans HB20.out HC4.out.bel.size) HJL.out (by have := HM60.out; have := HLL.out; omega)
            rw [HLQ.out] at hrw
            have HRW := Lib.hid hrw
            clear hrw
            go_wp2_with fail
            refine HRW.out.mono ?_
            rintro en7 W7 ⟨⟨l7, rfl, hr7⟩, hb7⟩
            have hC7 := HC4.out.wout HC4.out.bel.size hr7 hb7
            have hr8 := hC7.ref.row
            obtain ⟨A7, c7, rfl⟩ := own_form hr8
            have hE : (ms.eraseIdx j).map (·.m) = (ls.eraseIdx j).map (·.m) := by rw [map_erase, map_erase, HE.out]
            have hML : (ms.eraseIdx j).length ≤ i + 1 := Nat.le_trans (List.length_eraseIdx_le _ _) HML.out
            obtain ⟨MS, hMS⟩ : ∃ L, ms.eraseIdx j = L := ⟨_, rfl⟩
            obtain ⟨LS, hLS⟩ : ∃ L, ls.eraseIdx j = L := ⟨_, rfl⟩
            rw [hMS] at hC7 hE hML
            rw [hLS] at hC7 hE ⊢
            clear HE HML
            have HC := Lib.hid hC7
            have HE := Lib.hid hE
            have HML := Lib.hid hML
            clear hMS hLS hC7 hE hML hr7 hr8 hb7
            have hml : (MS).length = (LS).length := by simpa using congrArg List.length HE.out
            have hln := net_len HC.out.net
            rw [hml] at hln
            have HLN := Lib.hid hln
            have HAL := Lib.hid (net_all HC.out.net)
            have HNX := Lib.hid HC.out.bel.size
            clear hln hml
            go_wp2_with fail
            refine HLN.out.mono ?_
            rintro eX1 WX1 ⟨rfl, rfl⟩
            go_wp2_with fail
            refine HAL.out.mono ?_
            rintro eX2 WX2 ⟨⟨va, ys, rfl, hym, hyr, hyo⟩, hbX⟩
            obtain ⟨Ay, cy, rfl⟩ := own_form hyr
            have HC2 := Lib.hid (HC.out.below hbX HB20.out HNX.out)
            have HSAM := Lib.hid (HC2.out.check HB20.out HC2.out.bel.size HE.out hym hyr hyo)
            clear hym hyr hyo hbX
            go_wp2_with fail
            refine HSAM.out.mono ?_
            rintro eX3 WX3 ⟨rfl, hbY⟩
            have HC3 := Lib.hid (HC2.out.below hbY HB20.out HC2.out.bel.size)
            clear hbY
            go_wp2_with fail
            go_roundw
            case rel => exact ⟨i + 1, _, MS, _, _, LS, by omega, by go_num, rfl, HE, HML, HC3⟩
            case measure => simp [intOf]; omega
    · obtain rfl : i = n := by omega
      have hend : ¬ ((i : Int) < (i : Int)) := by omega
      go_wp2_with fail
      go_ret
      exact ⟨rfl, HB2.out.trans (HC0.out.bel.mono HB2.out.size)⟩
end Go.Proofs.YtiglgepbffcdeaaDoor
