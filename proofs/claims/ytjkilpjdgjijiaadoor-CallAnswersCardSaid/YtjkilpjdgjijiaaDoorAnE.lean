/- call.EncodeAnswer. -/
import Derived.Test.YtjkilpjdgjijiaaDoorCqE
namespace Go.Proofs.YtjkilpjdgjijiaaDoor
open Go.RowKit
set_option linter.unusedVariables false
attribute [local go_sem] Oper.semAt_some

/-- Done: the writer holds L. -/
def WrD (n0 g : Nat) (L : List UInt8) (w : World) (e : Ending) (w' : World) : Prop := e = .returned (.tuple #[]) ∧ ∃ v', Wr w' n0 g v' L ∧ Below n0 w w'
/-- Texts as values. -/
def sv (l : List ByteArray) : List Value := l.map Value.string
theorem sv_len (l : List ByteArray) : (sv l).length = l.length := by simp [sv]
theorem put_text {w : World} {n0 g : Nat} {v : Value} {l : List UInt8} (h : Wr w n0 g v l) (s : ByteArray) (hl : l.length + 4 + s.size ≤ 70368744170000) (hn0 : n0 ≤ w.heap.size) :
    Calls Tryd.prog 43 #[.pointer (some ⟨g, 0, none⟩), .string s] w (WrD n0 g (l ++ putS s) w) := by
  obtain ⟨b, hb⟩ : ∃ b, s.data.toList = b := ⟨_, rfl⟩
  have hbl : b.length = s.size := by rw [← hb, size_list]
  have e : putS s = lenBytes b := by unfold putS; rw [hb]
  have hcv := sb_run s b hb
  have hbw := sb_below w s
  have HB := Lib.hid (wbytes_mk (c := sbC w s) (h.below hbw) (sb_mk w s b hb) (by omega) (Nat.le_trans hn0 hbw.size))
  have HBW := Lib.hid hbw
  rw [e]
  clear h hb hbw e hbl hl
  go_enter Tryd.func43, Tryd.ntmps43
  go_wp2_with fail
  refine HB.out.mono ?_
  rintro e w1 ⟨rfl, v1, hw1, hb1⟩
  go_wp2_with fail
  go_end0
  exact ⟨rfl, v1, hw1, (HBW.out.mono hn0).trans hb1⟩
theorem flatS_len {ns : List ByteArray} (h : ∀ s ∈ ns, s.size ≤ 1000000) : ((ns.map putS).flatten).length ≤ 1000004 * ns.length := by
  induction ns with
  | nil => simp
  | cons c cs ih =>
    rw [List.map_cons, List.flatten_cons, List.length_append, putS_len, List.length_cons]
    have h1 := h c (by simp)
    have h2 := ih (fun d hd => h d (by simp [hd]))
    omega

set_option maxRecDepth 100000 in
set_option maxHeartbeats 2000000 in
theorem put_texts {w : World} {n0 g : Nat} {v : Value} {l : List UInt8} (h : Wr w n0 g v l) (A : Option Addr) (cc B : Nat) (c : List ByteArray) (hc : Sl w B A (sv c)) (hB : B ≤ n0) (h12 : c.length ≤ 1000) (hs : ∀ s ∈ c, s.size ≤ 1000000) (hl : l.length ≤ 10000000) (hn0 : n0 ≤ w.heap.size) :
    Calls Tryd.prog 42 #[.pointer (some ⟨g, 0, none⟩), .slice A c.length cc, .func (.func 43) #[] #[]] w (WrD n0 g (l ++ (beBytes c.length 4 ++ (c.map putS).flatten)) w) := by
  have H := Lib.hid h
  have HC := Lib.hid hc
  have HS := Lib.hid hs
  obtain ⟨n, hN⟩ : ∃ n, c.length = n := ⟨_, rfl⟩
  have HN := Lib.hid hN
  rw [hN] at h12 ⊢
  have hcv : IntKind.u64.wrap (n : Int) = (n : Int) := by rw [IntKind.wrap_u64]; omega
  have h12i : ¬ ((1000 : Int) < (n : Int)) := by omega
  clear h hc hN hs
  have heq : ∀ W, Sem.run Tryd.prog (binOp BinOp.eql 80 (Value.func (Fn.func 43) #[] #[]) Value.nilFunc) W = .ok (.bool false) W := fun W => rfl
  go_enter Tryd.func42, Tryd.ntmps42
  go_wp2_with fail
  refine (number_ok H.out n 4 (by omega) (by decide) (by omega) hn0).mono ?_
  rintro e w1 ⟨rfl, v1, h1, hb1⟩
  have H1 : Hid (Wr w1 n0 g v1 (l ++ beBytes n 4 ++ ((c.take 0).map putS).flatten)) := by show Wr _ _ _ _ _; rw [List.take_zero, List.map_nil, List.flatten_nil, List.append_nil]; exact h1
  have HB1 := Lib.hid hb1
  clear h1 hb1 hcv
  go_wp2_with fail
  go_loopw [17] (fun s wr => ∃ (k : Nat) (v' : Value), k ≤ n ∧ s = .int .i64 (k : Int) ∧ Hid (Wr wr n0 g v' (l ++ beBytes n 4 ++ ((c.take k).map putS).flatten)) ∧ Hid (Below n0 w wr)) (fun s _ => n - (intOf s).toNat)
  case atStart => exact ⟨0, v1, Nat.zero_le _, rfl, H1, HB1⟩
  case round =>
    clear H1 HB1
    obtain ⟨k, v', hk, rfl, hW, hBW⟩ := hrel
    by_cases hlt : k < n
    · have hi1 : (k : Int) < (n : Int) := by omega
      have hkl : k < c.length := by rw [HN.out]; exact hlt
      obtain ⟨b1, o1, rfl, hb1, hc1⟩ := (HC.out.below (hBW.out.mono hB)).at (k := k) (by rw [sv_len]; exact hkl)
      have ea : (sv c)[k]'(by rw [sv_len]; exact hkl) = Value.string c[k] := by simp [sv]
      rw [ea] at hc1
      have HJ : Hid (c.take (k + 1) = c.take k ++ [c[k]]) := List.take_succ_eq_append_getElem hkl
      have hzs := HS.out _ (List.getElem_mem hkl)
      obtain ⟨z, hz⟩ : ∃ z, c[k] = z := ⟨_, rfl⟩
      rw [hz] at hc1 HJ hzs
      have hs : n0 ≤ wr.heap.size := Nat.le_trans hn0 hBW.out.size
      have hll : (l ++ beBytes n 4 ++ ((c.take k).map putS).flatten).length + 4 + z.size ≤ 70368744170000 := by
        have h3 := flatS_len (ns := c.take k) (fun s hs => HS.out s (List.mem_of_mem_take hs))
        rw [List.length_take] at h3
        rw [List.length_append, List.length_append, be_len]; omega
      have HP := Lib.hid (put_text hW.out z hll hs)
      clear ea hz hll
      go_wp2_with fail
      refine HP.out.mono ?_
      rintro e w2 ⟨rfl, v2, hw2, hb2⟩
      have HW2 : Hid (Wr w2 n0 g v2 (l ++ beBytes n 4 ++ ((c.take (k + 1)).map putS).flatten)) := by
        show Wr _ _ _ _ _
        rw [HJ.out, List.map_append, List.flatten_append, ← List.append_assoc]
        simpa using hw2
      have HB2 := Lib.hid (hBW.out.trans hb2)
      clear hw2 hb2
      go_wp2_with fail
      go_roundw
      case rel => exact ⟨k + 1, v2, by omega, by go_num, HW2, HB2⟩
      case measure => simp [intOf]; omega
    · obtain rfl : k = n := by omega
      have hend : ¬ ((k : Int) < (k : Int)) := by omega
      have hf := hW.out
      rw [List.take_of_length_le (Nat.le_of_eq HN.out)] at hf
      have HF : Hid (Wr wr n0 g v' (l ++ (beBytes k 4 ++ (c.map putS).flatten))) := by
        show Wr _ _ _ _ _
        rw [← List.append_assoc]
        exact hf
      clear hf
      go_wp2_with fail
      go_end0
      exact ⟨rfl, v', HF.out, hBW.out⟩

set_option maxRecDepth 100000 in
set_option maxHeartbeats 4000000 in
theorem anenc_ok (x : An) (A1 : Option Addr) (c1 : Nat) (A2 : Option Addr) (c2 B : Nat) (w : World) (hT : Tab w) (h1 : Sl w B A1 (bv x.d)) (n1 : A1 = none → c1 = 0) (h2 : Sl w B A2 (sv x.ns)) (hB : B ≤ w.heap.size) (z1 : x.d.length ≤ 1000000) (z2 : x.ns.length ≤ 1000) (zs : ∀ s ∈ x.ns, s.size ≤ 1000000) :
    Calls Tryd.prog 15 #[x.val A1 c1 A2 c2] w fun e w' => NewBytes w.heap.size (wrapped (encAn x)) e w' ∧ Below w.heap.size w w' := by
  obtain ⟨E, hE⟩ : ∃ E, encAn x = E := ⟨_, rfl⟩
  rw [hE]
  have HE := Lib.hid hE
  have HN1 := Lib.hid n1
  have HZS := Lib.hid zs
  clear hE n1 zs
  obtain ⟨a1, a2, a3, a4, a5, a6⟩ := x
  have z1 : a5.length ≤ 1000000 := z1
  have z2 : a6.length ≤ 1000 := z2
  replace HZS : Hid (∀ s ∈ a6, s.size ≤ 1000000) := HZS
  have hbx := (Blk.new w #[.int .i64 a1, .int .i64 a2, .int .i64 a3, .int .i64 a4, .slice A1 a5.length c1, .slice A2 a6.length c2] 30).alloc (.cells #[.slice none 0 0] 72)
  have HBX0 := Lib.hid hbx
  have HBK0 : Hid (Below w.heap.size w ((w.alloc (.cells #[.int .i64 a1, .int .i64 a2, .int .i64 a3, .int .i64 a4, .slice A1 a5.length c1, .slice A2 a6.length c2] 30)).alloc (.cells #[.slice none 0 0] 72))) := ((Below.refl _ _).alloc (Nat.le_refl _) _).alloc (by simp) _
  have HW0 := Lib.hid (wr_new (w.alloc (.cells #[.int .i64 a1, .int .i64 a2, .int .i64 a3, .int .i64 a4, .slice A1 a5.length c1, .slice A2 a6.length c2] 30)) (w.heap.size + 1) (by simp))
  rw [World.size_alloc] at HW0
  have HSZ : Hid (w.heap.size + 1 ≤ ((w.alloc (.cells #[.int .i64 a1, .int .i64 a2, .int .i64 a3, .int .i64 a4, .slice A1 a5.length c1, .slice A2 a6.length c2] 30)).alloc (.cells #[.slice none 0 0] 72)).heap.size) := Lib.hid (by simp)
  clear hbx
  go_enter Tryd.func15, Tryd.ntmps15
  go_wp2_with fail
  obtain ⟨n0, hn0⟩ : ∃ n0, w.heap.size + 1 = n0 := ⟨_, rfl⟩
  have hbn : w.heap.size < n0 := by omega
  have hB1 : B ≤ n0 := by omega
  have hwn : w.heap.size ≤ n0 := by omega
  obtain ⟨w0, hw0⟩ : ∃ X, (w.alloc (.cells #[.int .i64 a1, .int .i64 a2, .int .i64 a3, .int .i64 a4, .slice A1 a5.length c1, .slice A2 a6.length c2] 30)).alloc (.cells #[.slice none 0 0] 72) = X := ⟨_, rfl⟩
  rw [hn0] at HW0 HSZ ⊢
  rw [hw0] at HW0 HSZ HBX0 HBK0 ⊢
  have hbx0 := HBX0.out
  have Bk0 := HBK0.out
  have hs0 := HSZ.out
  obtain ⟨g, hg⟩ : ∃ g, n0 = g := ⟨_, rfl⟩
  have HG := Lib.hid hg
  have HW0 : Hid (Wr w0 n0 g (.slice none 0 0) []) := Lib.hid (by rw [← hg]; exact HW0.out)
  obtain ⟨l0, hl0⟩ : ∃ l, ([] : List UInt8) = l := ⟨_, rfl⟩
  have hn0' : l0.length ≤ 0 := by rw [← hl0]; simp
  rw [hl0] at HW0
  have HL0 := Lib.hid hl0
  have hc0 := hbx0.cell
  clear hw0 hl0 hn0
  rw [show (Value.pointer (some ⟨n0, 0, none⟩)) = .pointer (some ⟨g, 0, none⟩) from by rw [hg]]
  clear hg
  refine (wint_ok HW0.out a1 (by omega) hs0).mono ?_
  rintro e w1 ⟨rfl, v1, hw1, hb1⟩
  obtain ⟨l1, hl1⟩ : ∃ l, l0 ++ beBytes (u64of a1) 8 = l := ⟨_, rfl⟩
  have hn1 : l1.length ≤ l0.length + (8) := app_len hl1 (be_len _ _)
  rw [hl1] at hw1
  have HL1 := Lib.hid hl1
  have HW1 := Lib.hid hw1
  have hbx1 := hbx0.below hb1 hbn
  have hc1 := hbx1.cell
  have hs1 : n0 ≤ w1.heap.size := Nat.le_trans hs0 hb1.size
  have Bk1 := Bk0.trans (hb1.mono hwn)
  clear hl1 hw1 hc0 hbx0 hb1 hs0
  go_wp2_with fail
  refine (wint_ok HW1.out a2 (by omega) hs1).mono ?_
  rintro e w2 ⟨rfl, v2, hw2, hb2⟩
  obtain ⟨l2, hl2⟩ : ∃ l, l1 ++ beBytes (u64of a2) 8 = l := ⟨_, rfl⟩
  have hn2 : l2.length ≤ l1.length + (8) := app_len hl2 (be_len _ _)
  rw [hl2] at hw2
  have HL2 := Lib.hid hl2
  have HW2 := Lib.hid hw2
  have hbx2 := hbx1.below hb2 hbn
  have hc2 := hbx2.cell
  have hs2 : n0 ≤ w2.heap.size := Nat.le_trans hs1 hb2.size
  have Bk2 := Bk1.trans (hb2.mono hwn)
  clear hl2 hw2 hc1 hbx1 hb2 hs1
  go_wp2_with fail
  refine (wint_ok HW2.out a3 (by omega) hs2).mono ?_
  rintro e w3 ⟨rfl, v3, hw3, hb3⟩
  obtain ⟨l3, hl3⟩ : ∃ l, l2 ++ beBytes (u64of a3) 8 = l := ⟨_, rfl⟩
  have hn3 : l3.length ≤ l2.length + (8) := app_len hl3 (be_len _ _)
  rw [hl3] at hw3
  have HL3 := Lib.hid hl3
  have HW3 := Lib.hid hw3
  have hbx3 := hbx2.below hb3 hbn
  have hc3 := hbx3.cell
  have hs3 : n0 ≤ w3.heap.size := Nat.le_trans hs2 hb3.size
  have Bk3 := Bk2.trans (hb3.mono hwn)
  clear hl3 hw3 hc2 hbx2 hb3 hs2
  go_wp2_with fail
  refine (wint_ok HW3.out a4 (by omega) hs3).mono ?_
  rintro e w4 ⟨rfl, v4, hw4, hb4⟩
  obtain ⟨l4, hl4⟩ : ∃ l, l3 ++ beBytes (u64of a4) 8 = l := ⟨_, rfl⟩
  have hn4 : l4.length ≤ l3.length + (8) := app_len hl4 (be_len _ _)
  rw [hl4] at hw4
  have HL4 := Lib.hid hl4
  have HW4 := Lib.hid hw4
  have hbx4 := hbx3.below hb4 hbn
  have hc4 := hbx4.cell
  have hs4 : n0 ≤ w4.heap.size := Nat.le_trans hs3 hb4.size
  have Bk4 := Bk3.trans (hb4.mono hwn)
  clear hl4 hw4 hc3 hbx3 hb4 hs3
  go_wp2_with fail
  refine (wbytes_any HW4.out A1 c1 B a5 (h1.below (Bk4.mono hB)) HN1.out hB1 (by omega) hs4).mono ?_
  rintro e w5 ⟨rfl, v5, hw5, hb5⟩
  obtain ⟨l5, hl5⟩ : ∃ l, l4 ++ lenBytes a5 = l := ⟨_, rfl⟩
  have hn5 : l5.length ≤ l4.length + (4 + a5.length) := app_len hl5 (lenBytes_len _)
  rw [hl5] at hw5
  have HL5 := Lib.hid hl5
  have HW5 := Lib.hid hw5
  have hbx5 := hbx4.below hb5 hbn
  have hc5 := hbx5.cell
  have hs5 : n0 ≤ w5.heap.size := Nat.le_trans hs4 hb5.size
  have Bk5 := Bk4.trans (hb5.mono hwn)
  clear hl5 hw5 hc4 hbx4 hb5 hs4
  go_wp2_with fail
  refine (put_texts HW5.out A2 c2 B a6 (h2.below (Bk5.mono hB)) hB1 z2 HZS.out (by omega) hs5).mono ?_
  rintro e w6 ⟨rfl, v6, hw6, hb6⟩
  obtain ⟨l6, hl6⟩ : ∃ l, l5 ++ (beBytes a6.length 4 ++ (a6.map putS).flatten) = l := ⟨_, rfl⟩
  have hn6 : l6.length ≤ l5.length + (4 + 1000004 * a6.length) := by have := flatS_len HZS.out; rw [← hl6, List.length_append, List.length_append, be_len]; omega
  rw [hl6] at hw6
  have HL6 := Lib.hid hl6
  have HW6 := Lib.hid hw6
  have hbx6 := hbx5.below hb6 hbn
  have hc6 := hbx6.cell
  have hs6 : n0 ≤ w6.heap.size := Nat.le_trans hs5 hb6.size
  have Bk6 := Bk5.trans (hb6.mono hwn)
  clear hl6 hw6 hc5 hbx5 hb6 hs5
  go_wp2_with fail
  have HEQ : Hid (E = l6) := Lib.hid (by
    rw [← HE.out, ← HL6.out, ← HL5.out, ← HL4.out, ← HL3.out, ← HL2.out, ← HL1.out, ← HL0.out]
    rfl)
  refine (out_ok HW6.out (by omega) hs6).mono ?_
  rintro e w7 ⟨⟨A3, c3, rfl, ho⟩, hb7⟩
  have HO := Lib.hid ho
  have hTn := hT.below hT.1 (Bk6.trans (hb7.mono Bk6.size))
  have Bkn := Bk6.trans (hb7.mono Bk6.size)
  clear ho hc6
  go_wp2_with fail
  refine (wrap_ok A3 c3 w7.heap.size l6 w7 hTn (Sl.of_own HO.out) (fun e => by have hh := HO.out; rw [e] at hh; exact owns_nil0 hh) (by omega) (Nat.le_refl _)).mono ?_
  rintro e w18 ⟨⟨A4, c4, rfl, ho4⟩, hb18⟩
  go_wp2
  go_ret
  rw [HEQ.out]
  have hs := Bkn.size
  exact ⟨⟨A4, c4, rfl, own_low ho4 hs⟩, Bkn.trans (hb18.mono hs)⟩
end Go.Proofs.YtjkilpjdgjijiaaDoor
