/- tidelineref04.Tree in memory: 64 nodes of five cells; what holds of each. tidelineref04: Find, Up, Place: what they answer lies in bounds. tidelineref04: Place. tidelineref04: drop, put, size: the tree's entries and bytes are laid anew; what is stored into it. tidelineref04: the tree's do: what holds between its steps; calls that do nothing. tidelineref04: the tree's do, calls that only read: an answer in the making. -/
import Derived.Test.YtjkilpjdgjijiaaDoorCqM
import Derived.Test.YtjkilpjdgjijiaaDoorInts
import Derived.Test.YtjkilpjdgjijiaaDoorClone
import Derived.Deep.CutRange
import Derived.Test.YtjkilpjdgjijiaaDoorPathT
import Derived.Test.YtjkilpjdgjijiaaDoorPathJ
import Derived.Deep.RegionLaw
import Derived.Deep.AppendLies
import Derived.Test.YtjkilpjdgjijiaaDoorPathI
import Derived.Test.YtjkilpjdgjijiaaDoorWide
namespace Go.Proofs.YtjkilpjdgjijiaaDoor
open Go.RowKit
set_option linter.unusedVariables false
attribute [local go_sem] Oper.semAt_some

abbrev InR (z : Int) : Prop := -9223372036854775808 ≤ z ∧ z ≤ 9223372036854775807
def ecells (es : List (ByteArray × Int)) : List Value := es.flatMap fun e => [.string e.1, .int .i64 e.2]
theorem ecells_len (es : List (ByteArray × Int)) : (ecells es).length = 2 * es.length := by
  unfold ecells
  induction es with
  | nil => rfl
  | cons a l ih => simp only [List.flatMap_cons, List.length_append, ih, List.length_cons, List.length_nil]; omega
theorem ecells_at : ∀ (es : List (ByteArray × Int)) (i : Nat) (e : ByteArray × Int), es[i]? = some e → (ecells es)[2 * i]? = some (.string e.1) ∧ (ecells es)[2 * i + 1]? = some (.int .i64 e.2)
  | [], i, e, h => by simp at h
  | a :: l, 0, e, h => by
    obtain rfl : a = e := by simpa using h
    exact ⟨rfl, rfl⟩
  | a :: l, i + 1, e, h => by
    have h2 := ecells_at l i e (by simpa using h)
    have e1 : ecells (a :: l) = [.string a.1, .int .i64 a.2] ++ ecells l := rfl
    rw [e1, show 2 * (i + 1) = 2 * i + 2 from by omega, show 2 * i + 2 + 1 = (2 * i + 1) + 2 from by omega]
    exact h2
theorem ecells_app (a b : List (ByteArray × Int)) : ecells (a ++ b) = ecells a ++ ecells b := by simp [ecells]

structure Nd where
  n : Int
  k : Int
  l : Int
  d : List UInt8
  A : Option Addr
  c : Nat
  es : List (ByteArray × Int)
  B : Option Addr
  cb : Nat
structure NdAt (cs : Array Value) (j : Nat) (x : Nd) : Prop where
  n : cs[j * 5]? = some (.int .i64 x.n)
  k : cs[j * 5 + 1]? = some (.int .i64 x.k)
  l : cs[j * 5 + 2]? = some (.int .i64 x.l)
  d : cs[j * 5 + 3]? = some (.slice x.A x.d.length x.c)
  e : cs[j * 5 + 4]? = some (.slice x.B x.es.length x.cb)
structure NdOk (W : World) (m : Nat) (x : Nd) : Prop where
  n : InR x.n
  k : InR x.k
  l : InR x.l
  d : x.d.length ≤ 512
  od : W.ownsRow 0 5 1 (.slice x.A x.d.length x.c) x.d.length (bv x.d)
  m : x.es.length ≤ m
  es : ∀ e ∈ x.es, e.1.size ≤ 300 ∧ 0 ≤ e.2 ∧ e.2 < 64
  oe : W.ownsRow 0 119 2 (.slice x.B x.es.length x.cb) x.es.length (ecells x.es)
structure Tr (W : World) (g m : Nat) : Prop where
  blk : ∃ cs, W.heap[g]? = some (.cells cs 96 (0, 0)) ∧ cs.size = 320 ∧ ∀ j, j < 64 → ∃ x, NdAt cs j x ∧ NdOk W m x
theorem NdOk.fr {W W' : World} {g m : Nat} {x : Nd} {cs : Array Value} (h : NdOk W m x) (hf : Fr (fun k => k = g) W W') (hg : W.heap[g]? = some (.cells cs 96 (0, 0))) : NdOk W' m x :=
  ⟨h.n, h.k, h.l, h.d, hf.owns h.od (info_apart h.od hg (by decide)), h.m, h.es, hf.owns h.oe (info_apart h.oe hg (by decide))⟩
theorem Tr.below {W W' : World} {g m : Nat} (h : Tr W g m) (hb : Below W.heap.size W W') : Tr W' g m := by
  obtain ⟨cs, hg, hs, hx⟩ := h.blk
  refine ⟨cs, (hb.block g (Array.getElem?_eq_some_iff.1 hg).1).trans hg, hs, fun j hj => ?_⟩
  obtain ⟨x, h1, h2⟩ := hx j hj
  exact ⟨x, h1, h2.fr (Fr.of_below hb) hg⟩
theorem Tr.lt {W : World} {g m : Nat} (h : Tr W g m) : g < W.heap.size := by
  obtain ⟨cs, hg, -⟩ := h.blk
  exact (Array.getElem?_eq_some_iff.1 hg).1
theorem cell_blk {W : World} {g i : Nat} {cs : Array Value} {t : TypeId} {v : Value} (hg : W.heap[g]? = some (.cells cs t (0, 0))) (h : cs[i]? = some v) : W.cell? ⟨g, i, none⟩ = some v := by
  rw [cell_of_row W g i cs t (0, 0) hg]; exact h

theorem own_at {W : World} {base size n c : Nat} {e : TypeId} {A : Option Addr} {xs : List Value} (h : W.ownsRow base e size (.slice A n c) n xs) {i : Nat} {v : Value} (hi : xs[i]? = some v) :
    ∃ b, A = some ⟨b, 0, none⟩ ∧ W.cell? ⟨b, i, none⟩ = some v := by
  rcases h.2 with ⟨e', h0⟩ | ⟨g, cap, cur, e', hb, hh, hn, hc, hsz, ht⟩
  · have h1 := h.1
    rw [h0, Nat.zero_mul] at h1
    rw [List.eq_nil_of_length_eq_zero h1] at hi
    simp at hi
  · injection e' with e1 e2 e3
    refine ⟨g, e1, ?_⟩
    rw [cell_of_row W g i cur e (0, 0) hh]
    rw [← ht, List.getElem?_take] at hi
    split at hi
    · simpa using hi
    · cases hi
theorem own_ent {W : World} {base c : Nat} {B : Option Addr} {es : List (ByteArray × Int)} (h : W.ownsRow base 119 2 (.slice B es.length c) es.length (ecells es)) {i : Nat} (hi : i < es.length) :
    ∃ b, B = some ⟨b, 0, none⟩ ∧ W.cell? ⟨b, i * 2, none⟩ = some (.string es[i].1) ∧ W.cell? ⟨b, i * 2 + 1, none⟩ = some (.int .i64 es[i].2) := by
  obtain ⟨h1, h2⟩ := ecells_at es i es[i] (List.getElem?_eq_getElem hi)
  obtain ⟨b, e1, q1⟩ := own_at h h1
  obtain ⟨b', e2, q2⟩ := own_at h h2
  rw [e1] at e2
  injection e2 with e2
  injection e2 with e2
  subst e2
  rw [Nat.mul_comm]
  exact ⟨b, e1, q1, q2⟩

set_option maxHeartbeats 4000000 in
theorem entry_any (g m j : Nat) (nm : ByteArray) (W : World) (h : Tr W g m) (hj : j < 64) (hm : m ≤ 64) :
    Calls Tryd.prog 80 #[.pointer (some ⟨g, 0, none⟩), .int .i64 (j : Int), .string nm] W fun e w' => (∃ r : Int, e = .returned (.int .i64 r) ∧ -1 ≤ r ∧ r < 64) ∧ Below W.heap.size W w' := by
  have HR0 : Hid (∃ r : Int, Ending.returned (.int .i64 (-1)) = .returned (.int .i64 r) ∧ -1 ≤ r ∧ r < 64) := Lib.hid ⟨-1, rfl, by omega, by omega⟩
  have HR1 : Hid (∀ z : Int, 0 ≤ z → z < 64 → ∃ r : Int, Ending.returned (.int .i64 z) = .returned (.int .i64 r) ∧ -1 ≤ r ∧ r < 64) := Lib.hid fun z h0 h1 => ⟨z, rfl, by omega, h1⟩
  obtain ⟨RR, hRR⟩ : ∃ R : Ending → Prop, (fun e => ∃ r : Int, e = .returned (.int .i64 r) ∧ -1 ≤ r ∧ r < 64) = R := ⟨_, rfl⟩
  have HR0 : Hid (RR (.returned (.int .i64 (-1)))) := by rw [← hRR]; exact HR0
  have HR1 : Hid (∀ z : Int, 0 ≤ z → z < 64 → RR (.returned (.int .i64 z))) := by rw [← hRR]; exact HR1
  refine Calls.mono (R := fun e w' => RR e ∧ Below W.heap.size W w') ?_ (fun e w' h => by rw [← hRR] at h; exact h)
  clear hRR
  obtain ⟨cs, hg, hs, hx⟩ := h.blk
  obtain ⟨x, hxa, hxo⟩ := hx j hj
  have hq := cell_blk hg hxa.e
  have HOE := Lib.hid hxo.oe
  have HES := Lib.hid hxo.es
  have hlm := hxo.m
  obtain ⟨n, hn⟩ : ∃ n, x.es.length = n := ⟨_, rfl⟩
  have HN := Lib.hid hn
  rw [hn] at hq hlm
  have t70 : ¬ ((70 : Int) < (n : Int)) := by omega
  clear hxo hxa hx hg hs h hn
  go_enter Tryd.func80, Tryd.ntmps80
  go_upto_region 3 with fail
  go_loopw [8] (fun s wr => ∃ (i : Nat), i ≤ n ∧ s = .int .i64 (i : Int) ∧ wr = W) (fun s _ => n - (intOf s).toNat)
  case atStart => exact ⟨0, Nat.zero_le _, rfl, rfl⟩
  case round =>
    obtain ⟨i, hi, rfl, rfl⟩ := hrel
    by_cases hlt : i < n
    · have hi1 : (i : Int) < (n : Int) := by omega
      have hil : i < x.es.length := by rw [HN.out]; exact hlt
      obtain ⟨b, hb, q1, q2⟩ := own_ent HOE.out hil
      have hz := HES.out _ (List.getElem_mem hil)
      obtain ⟨z, hze⟩ : ∃ z, x.es[i] = z := ⟨_, rfl⟩
      rw [hze] at q1 q2 hz
      obtain ⟨z1, z2⟩ := z
      have HZ := Lib.hid hz
      clear hz hze
      by_cases heq : z1.toList = nm.toList
      · have hd : (z1.toList == nm.toList) = true := by rw [heq]; simp
        go_wp2_with fail
        go_ret
        exact ⟨HR1.out _ HZ.out.2.1 HZ.out.2.2, Below.refl _ _⟩
      · have hd : (z1.toList == nm.toList) = false := by simpa using heq
        go_wp2_with fail
        go_roundw
        case rel => exact ⟨i + 1, by omega, by go_num, by trivial⟩
        case measure => simp [intOf]; omega
    · obtain rfl : i = n := by omega
      have hend : ¬ ((i : Int) < (i : Int)) := by omega
      go_wp2_with fail
      go_ret
      exact ⟨HR0.out, Below.refl _ _⟩
end Go.Proofs.YtjkilpjdgjijiaaDoor
namespace Go.Proofs.YtjkilpjdgjijiaaDoor
open Go.RowKit
set_option linter.unusedVariables false
attribute [local go_sem] Oper.semAt_some

theorem path_names {l : List UInt8} {zs : List ByteArray} (h : pathOf l = some (zs.map (·.data.toList))) : zs.length ≤ 8 ∧ ∀ z ∈ zs, z.size ≤ 16 := by
  unfold pathOf at h
  split at h
  · injection h with h
    have : zs = [] := by simpa using h.symm
    subst this
    exact ⟨by simp, by simp⟩
  · split at h
    · cases h
    · split at h
      · rename_i h2
        injection h with h
        rw [h] at h2
        refine ⟨by simpa using h2.1, fun z hz => ?_⟩
        have h3 := List.all_eq_true.1 h2.2 z.data.toList (List.mem_map.2 ⟨z, hz, rfl⟩)
        have h4 := (of_decide_eq_true h3).2.1
        simpa using h4
      · cases h
theorem joinL_short : ∀ (zs : List ByteArray), (∀ z ∈ zs, z.size ≤ 16) → (joinL zs).length ≤ zs.length * 17
  | [], _ => by simp [joinL]
  | a :: l, h => by
    have h1 := joinL_short l (fun z hz => h z (List.mem_cons_of_mem _ hz))
    have h2 := h a List.mem_cons_self
    have h3 : a.data.toList.length = a.size := rfl
    have h4 : joinL (a :: l) = 47 :: a.data.toList ++ joinL l := rfl
    rw [h4, List.length_append, List.length_cons, List.length_cons, h3]
    omega
theorem joinP_short {zs : List ByteArray} (hn : zs.length ≤ 8) (h : ∀ z ∈ zs, z.size ≤ 16) {t : ByteArray} (ht : t.data.toList = joinP (zs.map (·.data.toList))) : t.size ≤ 400 := by
  have h3 : t.data.toList.length = t.size := rfl
  have h1 := joinL_short zs h
  rw [← h3, ht]
  unfold joinP
  split
  · simp
  · have : (List.flatMap (fun n => 47 :: n) (zs.map (·.data.toList))) = joinL zs := by simp [joinL, List.flatMap_map]
    rw [this]; omega

/-- Names that Split gave. -/
def Names (w : World) (e : Ending) : Prop := (∃ (A : Option Addr) (c : Nat), e = .returned (.tuple #[.slice A 0 c, .bool false])) ∨
  ∃ (A : Option Addr) (c : Nat) (zs : List ByteArray), e = .returned (.tuple #[.slice A zs.length c, .bool true]) ∧ zs.length ≤ 8 ∧ (∀ z ∈ zs, z.size ≤ 16) ∧ Sl w w.heap.size A (zs.map Value.string) ∧ zs.length ≤ c
theorem split_names (s : ByteArray) (w : World) (hs : s.size ≤ 400) : Calls Tryd.prog 51 #[.string s] w fun e w' => Names w' e ∧ Below w.heap.size w w' := by
  refine (rsplit_any s w (by omega)).mono ?_
  rintro e w' ⟨h, hb⟩
  refine ⟨?_, hb⟩
  unfold RSplits at h
  cases hp : pathOf s.data.toList with
  | none => rw [hp] at h; exact .inl h
  | some ns =>
    rw [hp] at h
    obtain ⟨A, c, zs, he, hz, hs, hc⟩ := h
    rw [← hz] at hp
    have hn := path_names hp
    exact .inr ⟨A, c, zs, he, hn.1, hn.2, hs, hc⟩

def FindR (e : Ending) : Prop := ∃ (j : Nat) (k : Int), e = .returned (.tuple #[.int .i64 (j : Int), .int .i64 k]) ∧ j < 64 ∧ 0 ≤ k ∧ k ≤ 30
theorem FindR.mk {j : Nat} {k : Int} (hj : j < 64) (h0 : 0 ≤ k) (h1 : k ≤ 30) : FindR (.returned (.tuple #[.int .i64 (j : Int), .int .i64 k])) := ⟨j, k, rfl, hj, h0, h1⟩
set_option maxRecDepth 100000 in
set_option maxHeartbeats 4000000 in
theorem find_any (g m : Nat) (s : ByteArray) (W : World) (h : Tr W g m) (hs : s.size ≤ 400) (hm : m ≤ 64) :
    Calls Tryd.prog 67 #[.pointer (some ⟨g, 0, none⟩), .string s] W fun e w' => FindR e ∧ Below W.heap.size W w' := by
  have HS := Lib.hid (split_names s W hs)
  have HT := Lib.hid h
  have HM := Lib.hid hm
  have H0 : Hid (∀ k : Int, 0 ≤ k → k ≤ 30 → FindR (.returned (.tuple #[.int .i64 0, .int .i64 k]))) := Lib.hid fun k h0 h1 => FindR.mk (j := 0) (by omega) h0 h1
  have H1 : Hid (∀ j : Nat, j < 64 → FindR (.returned (.tuple #[.int .i64 (j : Int), .int .i64 0]))) := Lib.hid fun j hj => FindR.mk hj (by omega) (by omega)
  clear hs h hm
  go_enter Tryd.func67, Tryd.ntmps67
  go_wp2_with fail
  refine HS.out.mono ?_
  rintro e W1 ⟨hn, hb⟩
  have HB := Lib.hid hb
  clear hb
  rcases hn with ⟨A, c, rfl⟩ | ⟨A, c, zs, rfl, h8, h16, hsl, hc⟩
  · go_wp2_with fail
    go_ret2
    exact ⟨H0.out 20 (by omega) (by omega), HB.out⟩
  have HSL := Lib.hid hsl
  have H16 := Lib.hid h16
  have HC := Lib.hid hc
  obtain ⟨n, hn⟩ : ∃ n, zs.length = n := ⟨_, rfl⟩
  have HN := Lib.hid hn
  rw [hn] at h8 ⊢
  have t70 : ¬ ((70 : Int) < (n : Int)) := by omega
  clear hsl h16 hc hn
  go_wp2_with fail
  go_loopw [8, 9] (fun s8 s9 wr => ∃ (j i : Nat), j < 64 ∧ i ≤ n ∧ s8 = .int .i64 (j : Int) ∧ s9 = .int .i64 (i : Int) ∧ Hid (Below W1.heap.size W1 wr)) (fun _ s _ => n - (intOf s).toNat)
  case atStart => exact ⟨0, 0, by omega, Nat.zero_le _, rfl, rfl, Lib.hid (Below.refl _ _)⟩
  case round =>
    obtain ⟨j, i, hj, hi, rfl, rfl, HBR⟩ := hrel
    by_cases hlt : i < n
    · have hi1 : (i : Int) < (n : Int) := by omega
      have hil : i < zs.length := by rw [HN.out]; exact hlt
      have hT1 := HT.out.below (HB.out.trans (HBR.out.mono HB.out.size))
      have HT1 := Lib.hid hT1
      obtain ⟨cs, hg, hss, hx⟩ := hT1.blk
      obtain ⟨x, hxa, hxo⟩ := hx j hj
      have hq := cell_blk hg hxa.k
      obtain ⟨xk, hxk⟩ : ∃ k, x.k = k := ⟨_, rfl⟩
      rw [hxk] at hq
      obtain ⟨b1, o1, hA, hb1, hc1⟩ := (HSL.out.below HBR.out).at (k := i) (by simpa using hil)
      have e1 : (zs.map Value.string)[i]'(by simpa using hil) = .string zs[i] := by simp
      rw [e1] at hc1
      obtain ⟨z, hz⟩ : ∃ z, zs[i] = z := ⟨_, rfl⟩
      rw [hz] at hc1
      subst hA
      clear e1 hz hxo hxa hx hg hss hxk hT1
      by_cases hk : xk = 1
      · subst hk
        have HE := Lib.hid (entry_any _ _ j z _ HT1.out hj HM.out)
        go_wp2_with fail
        refine HE.out.mono ?_
        rintro e W2 ⟨⟨r, rfl, hr0, hr1⟩, hb2⟩
        have HB2 := Lib.hid hb2
        clear hb2
        by_cases hr : r < 0
        · go_wp2_with fail
          go_ret2
          exact ⟨H0.out 21 (by omega) (by omega), HB.out.trans ((HBR.out.trans (HB2.out.mono HBR.out.size)).mono HB.out.size)⟩
        · obtain ⟨j2, rfl⟩ : ∃ j2 : Nat, r = (j2 : Int) := ⟨r.toNat, by omega⟩
          have hj2 : j2 < 64 := by omega
          clear hr hr0
          go_wp2_with fail
          go_roundw
          case rel => exact ⟨j2, i + 1, hj2, by omega, by first | rfl | trivial, by go_num, Lib.hid (HBR.out.trans (HB2.out.mono HBR.out.size))⟩
          case measure => simp [intOf]; omega
      · go_wp2_with fail
        go_ret2
        exact ⟨H0.out 23 (by omega) (by omega), HB.out.trans (HBR.out.mono HB.out.size)⟩
    · obtain rfl : i = n := by omega
      have hend : ¬ ((i : Int) < (i : Int)) := by omega
      go_wp2_with fail
      go_ret2
      exact ⟨H1.out j hj, HB.out.trans (HBR.out.mono HB.out.size)⟩

def UpR (e : Ending) : Prop := ∃ (a n : ByteArray) (k : Int), e = .returned (.tuple #[.string a, .string n, .int .i64 k]) ∧ a.size ≤ 400 ∧ n.size ≤ 300 ∧ 0 ≤ k ∧ k ≤ 30
set_option maxRecDepth 100000 in
set_option maxHeartbeats 4000000 in
theorem up_any (s : ByteArray) (W : World) (hs : s.size ≤ 400) :
    Calls Tryd.prog 66 #[.string s] W fun e w' => UpR e ∧ Below W.heap.size W w' := by
  have HS := Lib.hid (split_names s W hs)
  have H0 : Hid (UpR (.returned (.tuple #[.string ⟨#[]⟩, .string ⟨#[]⟩, .int .i64 20]))) := Lib.hid ⟨_, _, _, rfl, by decide, by decide, by omega, by omega⟩
  have H1 : Hid (∀ a z : ByteArray, a.size ≤ 400 → z.size ≤ 300 → UpR (.returned (.tuple #[.string a, .string z, .int .i64 0]))) := Lib.hid fun a z h1 h2 => ⟨_, _, _, rfl, h1, h2, by omega, by omega⟩
  obtain ⟨RR, hRR⟩ : ∃ R : Ending → Prop, UpR = R := ⟨_, rfl⟩
  rw [hRR] at H0 H1 ⊢
  clear hs hRR
  go_enter Tryd.func66, Tryd.ntmps66
  go_wp2_with fail
  refine HS.out.mono ?_
  rintro e W1 ⟨hn, hb⟩
  have HB := Lib.hid hb
  clear hb
  rcases hn with ⟨A, c, rfl⟩ | ⟨A, c, zs, rfl, h8, h16, hsl, hc⟩
  · go_wp2_with fail
    go_ret3
    exact ⟨H0.out, HB.out⟩
  have HSL := Lib.hid hsl
  have H16 := Lib.hid h16
  have H8 := Lib.hid h8
  obtain ⟨n, hn⟩ : ∃ n, zs.length = n := ⟨_, rfl⟩
  have HN := Lib.hid hn
  rw [hn] at h8 hc ⊢
  clear hsl h16 hn
  cases n with
  | zero =>
    go_wp2_with fail
    go_ret3
    exact ⟨H0.out, HB.out⟩
  | succ k =>
    have hkl : k < zs.length := by rw [HN.out]; omega
    obtain ⟨b1, o1, rfl, hb1, hc1⟩ := HSL.out.at (k := k) (by simpa using hkl)
    have e1 : (zs.map Value.string)[k]'(by simpa using hkl) = .string zs[k] := by simp
    rw [e1] at hc1
    have HZ : Hid (zs[k].size ≤ 300) := Lib.hid (by have := H16.out _ (List.getElem_mem hkl); omega)
    obtain ⟨z, hz⟩ : ∃ z, zs[k] = z := ⟨_, rfl⟩
    rw [hz] at hc1 HZ
    have HJ : Hid (∀ W, Below W1.heap.size W1 W → Calls Tryd.prog 81 #[.slice (some ⟨b1, o1, none⟩) k c] W fun e w' => (∃ t : ByteArray, e = .returned (.string t) ∧ t.size ≤ 400) ∧ w' = W) := Lib.hid fun W hb => by
      have hl : (zs.take k).length = k := by rw [List.length_take]; omega
      have h16' : ∀ z ∈ zs.take k, z.size ≤ 16 := fun z hz => H16.out z (List.mem_of_mem_take hz)
      have hsl' : Sl W W1.heap.size (some ⟨b1, o1, none⟩) ((zs.take k).map Value.string) := by
        rw [List.map_take]
        rcases (HSL.out.below hb) with h0 | ⟨b, o, e, h1, h2⟩
        · exact .inl (by rw [h0, List.take_nil])
        · exact .inr ⟨b, o, e, h1, fun i v hv => h2 i v (by rw [List.getElem?_take] at hv; split at hv; exact hv; cases hv)⟩
      have h8' : (zs.take k).length ≤ 8 := by have := H8.out; omega
      have hjs := joinL_short _ h16'
      have h := rjoin_any (some ⟨b1, o1, none⟩) c W1.heap.size (zs.take k) W hsl' (by omega) (by omega)
      rw [hl] at h
      exact h.mono fun e w' ⟨⟨t, he, ht⟩, hw⟩ => ⟨⟨t, he, joinP_short h8' h16' ht⟩, hw⟩
    have hk8 : k < 8 := by omega
    have hkc : k ≤ c := by omega
    have hk1 : ((k : Int) + 1 - 1) = (k : Int) := by omega
    have hk2 : (k : Int) < (k : Int) + 1 := by omega
    clear hz e1 hkl
    go_upto_region 5 with fail
    have hD : Below W1.heap.size W1 W1.drew := (Below.refl _ _).drew
    go_region_law
      (go_simp; go_at_call 81
       with_reducible refine (HJ.out _ hD).mono ?_
       rintro e1 WA ⟨⟨t, rfl, ht⟩, rfl⟩)
    all_goals
      go_wp2_with fail
      go_ret3
      exact ⟨H1.out _ _ ht HZ.out, HB.out.drew⟩
end Go.Proofs.YtjkilpjdgjijiaaDoor
namespace Go.Proofs.YtjkilpjdgjijiaaDoor
open Go.RowKit
set_option linter.unusedVariables false
attribute [local go_sem] Oper.semAt_some

def PlaceR (e : Ending) : Prop := ∃ (j : Nat) (n : ByteArray) (k : Int), e = .returned (.tuple #[.int .i64 (j : Int), .string n, .int .i64 k]) ∧ j < 64 ∧ n.size ≤ 300 ∧ 0 ≤ k ∧ k ≤ 30
set_option maxRecDepth 100000 in
set_option maxHeartbeats 4000000 in
theorem place_ref (g m : Nat) (s : ByteArray) (W : World) (h : Tr W g m) (hs : s.size ≤ 400) (hm : m ≤ 64) :
    Calls Tryd.prog 64 #[.pointer (some ⟨g, 0, none⟩), .string s] W fun e w' => PlaceR e ∧ Below W.heap.size W w' := by
  have HU := Lib.hid (up_any s W hs)
  have HT := Lib.hid h
  have HM := Lib.hid hm
  have H0 : Hid (∀ k : Int, 0 ≤ k → k ≤ 30 → PlaceR (.returned (.tuple #[.int .i64 0, .string ⟨#[]⟩, .int .i64 k]))) := Lib.hid fun k h0 h1 => ⟨0, _, k, rfl, by omega, by decide, h0, h1⟩
  have H1 : Hid (∀ (j : Nat) (z : ByteArray), j < 64 → z.size ≤ 300 → PlaceR (.returned (.tuple #[.int .i64 (j : Int), .string z, .int .i64 0]))) := Lib.hid fun j z hj hz => ⟨j, z, 0, rfl, hj, hz, by omega, by omega⟩
  obtain ⟨RR, hRR⟩ : ∃ R : Ending → Prop, PlaceR = R := ⟨_, rfl⟩
  rw [hRR] at H0 H1 ⊢
  clear hs h hm hRR
  go_enter Tryd.func64, Tryd.ntmps64
  go_wp2_with fail
  refine HU.out.mono ?_
  rintro e W1 ⟨⟨a, nm, k, rfl, ha, hn, hk0, hk1⟩, hb⟩
  have HB := Lib.hid hb
  have HA := Lib.hid ha
  have HN := Lib.hid hn
  clear hb ha hn
  by_cases hk : k = 0
  · subst hk
    have HT1 := Lib.hid (HT.out.below HB.out)
    have HF := Lib.hid (find_any _ _ a _ HT1.out HA.out HM.out)
    clear hk0 hk1
    go_wp2_with fail
    refine HF.out.mono ?_
    rintro e W2 ⟨⟨j, k, rfl, hj, hk0, hk1⟩, hb⟩
    have HB2 := Lib.hid hb
    clear hb
    by_cases hk : k = 0
    · subst hk
      clear hk0 hk1
      have hT2 := HT1.out.below HB2.out
      have HT2 := Lib.hid hT2
      obtain ⟨cs, hg, hss, hx⟩ := hT2.blk
      obtain ⟨x, hxa, hxo⟩ := hx j hj
      have hq := cell_blk hg hxa.k
      obtain ⟨xk, hxk⟩ : ∃ k, x.k = k := ⟨_, rfl⟩
      rw [hxk] at hq
      clear hxo hxa hx hg hss hxk hT2
      by_cases hk : xk = 1
      · subst hk
        have HE := Lib.hid (entry_any _ _ j nm _ HT2.out hj HM.out)
        go_wp2_with fail
        refine HE.out.mono ?_
        rintro e W3 ⟨⟨r, rfl, hr0, hr1⟩, hb⟩
        have HB3 := Lib.hid hb
        clear hb
        by_cases hr : 0 ≤ r
        · go_wp2_with fail
          go_ret3
          exact ⟨H0.out 22 (by omega) (by omega), HB.out.trans ((HB2.out.trans (HB3.out.mono HB2.out.size)).mono HB.out.size)⟩
        · go_wp2_with fail
          go_ret3
          exact ⟨H1.out j nm hj HN.out, HB.out.trans ((HB2.out.trans (HB3.out.mono HB2.out.size)).mono HB.out.size)⟩
      · go_wp2_with fail
        go_ret3
        exact ⟨H0.out 23 (by omega) (by omega), HB.out.trans (HB2.out.mono HB.out.size)⟩
    · go_wp2_with fail
      go_ret3
      exact ⟨H0.out k hk0 hk1, HB.out.trans (HB2.out.mono HB.out.size)⟩
  · go_wp2_with fail
    go_ret3
    exact ⟨H0.out k hk0 hk1, HB.out⟩
end Go.Proofs.YtjkilpjdgjijiaaDoor
namespace Go.Proofs.YtjkilpjdgjijiaaDoor
open Go.RowKit
set_option linter.unusedVariables false
attribute [local go_sem] Oper.semAt_some

theorem town_low {w : World} {b b' : Nat} {e : TypeId} {size n : Nat} {v : Value} {xs : List Value} (h : w.ownsRow b e size v n xs) (hb : b' ≤ b) : w.ownsRow b' e size v n xs := by
  refine ⟨h.1, ?_⟩
  rcases h.2 with hn | ⟨g, cap, cur, e1, hb', rest⟩
  · exact .inl hn
  · exact .inr ⟨g, cap, cur, e1, Nat.le_trans hb hb', rest⟩
theorem town_keep {w w' : World} {base : Nat} {e : TypeId} {size n : Nat} {v : Value} {xs : List Value} (h : w.ownsRow base e size v n xs) (hb : Below w.heap.size w w') : w'.ownsRow base e size v n xs :=
  (Fr.of_below (M := fun _ => False) hb).owns h (fun _ _ h => h)
theorem town_ge {w : World} {base : Nat} {e : TypeId} {size n : Nat} {v : Value} {xs : List Value} (h : w.ownsRow base e size v n xs) {g : Nat} (hg : v.ownBlock = some g) : base ≤ g := by
  rcases h.2 with ⟨e1, _⟩ | ⟨g', cap, cur, e1, hb, _⟩
  · subst e1; simp [Value.ownBlock] at hg
  · subst e1; simp [Value.ownBlock] at hg; omega
theorem info_ent : (Tryd.prog.info? 119).map (fun i => (i.zero, i.size, i.bytes)) = some (some (.agg #[.string ⟨#[]⟩, .int .i64 0]), 2, 24) := by kernel_rfl
abbrev EntOk (e : ByteArray × Int) : Prop := e.1.size ≤ 300 ∧ 0 ≤ e.2 ∧ e.2 < 64
theorem ecells_one (a : ByteArray) (b : Int) : ecells [(a, b)] = [.string a, .int .i64 b] := rfl
theorem set_get {cs : Array Value} {i k : Nat} {v : Value} (hi : i < cs.size) : (cs.setIfInBounds i v)[k]? = if k = i then some v else cs[k]? := by
  rw [Array.getElem?_setIfInBounds]
  by_cases h : i = k
  · subst h; simp [hi]
  · rw [if_neg h, if_neg (fun e => h e.symm)]
/-- A node's entries laid anew. -/
theorem Tr.setE {W : World} {g m j c : Nat} {B : Option Addr} {es : List (ByteArray × Int)} (h : Tr W g m) (hj : j < 64) (hes : ∀ e ∈ es, EntOk e) (hm : es.length ≤ m)
    (ho : W.ownsRow 0 119 2 (.slice B es.length c) es.length (ecells es)) : Tr (W.setCell ⟨g, j * 5 + 4, none⟩ (.slice B es.length c)) g m := by
  obtain ⟨cs, hg, hs, hx⟩ := h.blk
  have hf := fr_set W g (j * 5 + 4) (.slice B es.length c)
  refine ⟨_, blk_set hg _, by simpa using hs, fun i hi => ?_⟩
  obtain ⟨x, h1, h2⟩ := hx i hi
  by_cases hij : i = j
  · subst hij
    refine ⟨⟨x.n, x.k, x.l, x.d, x.A, x.c, es, B, c⟩, ⟨?_, ?_, ?_, ?_, ?_⟩, ⟨h2.n, h2.k, h2.l, h2.d, hf.owns h2.od (info_apart h2.od hg (by decide)), hm, hes, hf.owns ho (info_apart ho hg (by decide))⟩⟩
    · rw [set_get (by omega), if_neg (by omega)]; exact h1.n
    · rw [set_get (by omega), if_neg (by omega)]; exact h1.k
    · rw [set_get (by omega), if_neg (by omega)]; exact h1.l
    · rw [set_get (by omega), if_neg (by omega)]; exact h1.d
    · rw [set_get (by omega), if_pos rfl]
  · refine ⟨x, ⟨?_, ?_, ?_, ?_, ?_⟩, h2.fr hf hg⟩
    · rw [set_get (by omega), if_neg (by omega)]; exact h1.n
    · rw [set_get (by omega), if_neg (by omega)]; exact h1.k
    · rw [set_get (by omega), if_neg (by omega)]; exact h1.l
    · rw [set_get (by omega), if_neg (by omega)]; exact h1.d
    · rw [set_get (by omega), if_neg (by omega)]; exact h1.e
theorem Tr.more {W : World} {g m m' : Nat} (h : Tr W g m) (hm : m ≤ m') : Tr W g m' := by
  obtain ⟨cs, hg, hs, hx⟩ := h.blk
  refine ⟨cs, hg, hs, fun i hi => ?_⟩
  obtain ⟨x, h1, h2⟩ := hx i hi
  exact ⟨x, h1, h2.n, h2.k, h2.l, h2.d, h2.od, Nat.le_trans h2.m hm, h2.es, h2.oe⟩
/-- Entries in the making. -/
def OutE (b i : Nat) (v : Value) (w : World) : Prop := ∃ (A : Option Addr) (c : Nat) (L : List (ByteArray × Int)), v = .slice A L.length c ∧ (L.length ≤ i ∧ ∀ e ∈ L, EntOk e) ∧ w.ownsRow b 119 2 (.slice A L.length c) L.length (ecells L)
theorem OutE.nil (w : World) (i : Nat) : OutE w.heap.size i (.slice (some ⟨w.heap.size, 0, none⟩) 0 0) (w.alloc (.cells #[] 119)) := ⟨_, 0, [], rfl, ⟨Nat.zero_le _, by simp⟩, World.ownsRow_made w #[] 0 (Nat.le_refl _) (Nat.zero_le _) rfl⟩
theorem OutE.more {b i i' : Nat} {v : Value} {w : World} (h : OutE b i v w) (hi : i ≤ i') : OutE b i' v w := by
  obtain ⟨A, c, L, h1, h2, h3⟩ := h
  exact ⟨A, c, L, h1, ⟨Nat.le_trans h2.1 hi, h2.2⟩, h3⟩
/-- What a call leaves of the tree. -/
def TrTo (g m : Nat) (W w' : World) : Prop := Tr w' g m ∧ Fr (fun k => k = g) W w'

set_option maxRecDepth 100000 in
set_option maxHeartbeats 8000000 in
theorem drop_any (g m j : Nat) (nm : ByteArray) (W : World) (h : Tr W g m) (hj : j < 64) (hm : m ≤ 64) :
    Calls Tryd.prog 68 #[.pointer (some ⟨g, 0, none⟩), .int .i64 (j : Int), .string nm] W fun e w' => (∃ v, e = .returned v) ∧ TrTo g m W w' := by
  have HT := Lib.hid h
  have HM := Lib.hid hm
  obtain ⟨cs, hg, hs, hx⟩ := h.blk
  obtain ⟨x, hxa, hxo⟩ := hx j hj
  have hq := cell_blk hg hxa.e
  have HOE := Lib.hid hxo.oe
  have HES := Lib.hid hxo.es
  have HXM := Lib.hid hxo.m
  have hlg := h.lt
  obtain ⟨n, hn⟩ : ∃ n, x.es.length = n := ⟨_, rfl⟩
  have HN := Lib.hid hn
  rw [hn] at hq HXM
  have t70 : ¬ ((70 : Int) < (n : Int)) := by have := HXM.out; omega
  clear hxo hxa hx hg hs h hn hm
  go_enter Tryd.func68, Tryd.ntmps68
  go_upto_region 3 with fail
  go_loopw [7, 8] (fun s7 s8 wr => ∃ (i : Nat), i ≤ n ∧ s8 = .int .i64 (i : Int) ∧ OutE W.heap.size i s7 wr ∧ Hid (Below W.heap.size W wr)) (fun _ s _ => n - (intOf s).toNat)
  case atStart => exact ⟨0, Nat.zero_le _, rfl, OutE.nil W 0, Lib.hid ((Below.refl _ _).alloc (Nat.le_refl _) _)⟩
  case round =>
    obtain ⟨i, hi, rfl, ⟨A, c, L, rfl, hL, ho⟩, HBW⟩ := hrel
    have HL := Lib.hid hL
    have HO := Lib.hid ho
    clear hL ho
    by_cases hlt : i < n
    · have hi1 : (i : Int) < (n : Int) := by omega
      have hil : i < x.es.length := by rw [HN.out]; exact hlt
      obtain ⟨b, hb, q1, q2⟩ := own_ent (town_keep HOE.out HBW.out) hil
      have hz := HES.out _ (List.getElem_mem hil)
      obtain ⟨z, hze⟩ : ∃ z, x.es[i] = z := ⟨_, rfl⟩
      rw [hze] at q1 q2 hz
      obtain ⟨z1, z2⟩ := z
      have HZ := Lib.hid hz
      clear hz hze
      by_cases heq : z1.toList = nm.toList
      · have hd : (z1.toList == nm.toList) = true := by rw [heq]; simp
        go_wp2_with fail
        go_roundw
        case rel => exact ⟨i + 1, by omega, by go_num, ⟨A, c, L, rfl, ⟨by have := HL.out.1; omega, HL.out.2⟩, HO.out⟩, HBW⟩
        case measure => simp [intOf]; omega
      · have hd : (z1.toList == nm.toList) = false := by simpa using heq
        obtain ⟨l, hl⟩ : ∃ l, L.length = l := ⟨_, rfl⟩
        have HLL := Lib.hid hl
        rw [hl] at HL HO ⊢
        have H63 : Hid (l + 1 ≤ maxLen) := by have := HL.out.1; show _ ≤ _; unfold maxLen; omega
        have HBY : Hid ((l + 1) * 24 ≤ 140737488355328) := by have := HL.out.1; show _ ≤ _; omega
        have HSZ : Hid (W.heap.size ≤ (wr.alloc (.cells #[.string z1, .int .i64 z2] 119)).heap.size) := by have := HBW.out.size; show _ ≤ _; simp; omega
        clear hl
        go_wp2_with (at_builtin; obtain ⟨i0, hi0, hy0, hy1, hy2⟩ := info_parts info_ent; refine wpList_append_own_at _ rfl _ _ 91 rfl W.heap.size 119 i0 _ 2 24 Tryd.underlying91 hi0 hy0 hy1 hy2 rfl (by decide) (.slice A l c) l (ecells L) rfl (HO.out.alloc _) ⟨wr.heap.size, 0, none⟩ 1 1 [.string z1, .int .i64 z2] rfl rfl (World.news_of_block (t := 119) (fr := (0, 0)) (heap_alloc_new wr _)) (by simp [Value.oneCell']) H63.out HBY.out HSZ.out ?_; intro v' w2 hown5 hgrow5 hnil5 hat5; obtain ⟨A6, c6, rfl⟩ := own_form hown5; have HG5 := Lib.hid hgrow5; have HO5 := Lib.hid hown5; clear hi0 hy0 hy1 hy2 i0 hgrow5 hown5 hnil5 hat5)
        have hbb := HBW.out
        have hb2 : Below W.heap.size W w2 := hbb.trans (((Below.refl _ wr).alloc hbb.size _).grown HG5.out (by have := hbb.size; simp; omega) (fun q hq => town_ge HO.out hq))
        have e6 : (L ++ [(z1, z2)]).length = l + 1 := by rw [List.length_append, HLL.out]; rfl
        go_roundw
        case rel =>
          refine ⟨i + 1, by omega, by go_num, ⟨A6, c6, L ++ [(z1, z2)], by rw [e6], ⟨by have := HL.out.1; omega, fun e he => ?_⟩, by rw [e6, ecells_app, ecells_one]; exact HO5.out⟩, Lib.hid hb2⟩
          rcases List.mem_append.1 he with he | he
          · exact HL.out.2 e he
          · rw [List.mem_singleton.1 he]; exact HZ.out
        case measure => simp [intOf]; omega
    · obtain rfl : i = n := by omega
      have hend : ¬ ((i : Int) < (i : Int)) := by omega
      have hT2 := HT.out.below HBW.out
      obtain ⟨cs, hg, hs, hx⟩ := hT2.blk
      obtain ⟨y, hya, hyo⟩ := hx j hj
      have hq2 := cell_blk hg hya.e
      have hf2 := (Blk.of_heap hg).free (j * 5 + 4)
      have hlg2 := hT2.lt
      clear hyo hya hx hs hg hT2
      go_wp2_with fail
      go_end0
      have hfr := fr_set wr g (j * 5 + 4) (.slice A L.length c)
      refine ⟨⟨_, rfl⟩, (HT.out.below HBW.out).setE hj HL.out.2 (by have := HL.out.1; have := HXM.out; omega) (town_low HO.out (Nat.zero_le _)), (Fr.of_below HBW.out).trans hfr (fun _ _ h => h)⟩

/-- Bytes in the making. -/
def OutB (b n : Nat) (v : Value) (w : World) : Prop := ∃ (A : Option Addr) (c : Nat) (L : List UInt8), v = .slice A n c ∧ L.length = n ∧ w.ownsRow b 5 1 (.slice A n c) n (bv L)
theorem OutB.nil (w : World) : OutB w.heap.size 0 (.slice (some ⟨w.heap.size, 0, none⟩) 0 0) (w.alloc (.cells #[] 5)) := ⟨_, 0, [], rfl, rfl, World.ownsRow_made w #[] 0 (Nat.le_refl _) (Nat.zero_le _) rfl⟩
set_option maxRecDepth 100000 in
set_option maxHeartbeats 8000000 in
theorem size_any (A : Option Addr) (c B n : Nat) (d : List UInt8) (W : World) (h : Sl W B A (bv d)) (hB : B ≤ W.heap.size) (hd : d.length ≤ 512) (hn : n ≤ 512) :
    Calls Tryd.prog 70 #[.slice A d.length c, .int .i64 (n : Int)] W fun e w' => (∃ v, e = .returned v ∧ OutB W.heap.size n v w') ∧ Below W.heap.size W w' := by
  have HS := Lib.hid h
  have HB := Lib.hid hB
  obtain ⟨q, hq⟩ : ∃ q, d.length = q := ⟨_, rfl⟩
  have HQ := Lib.hid hq
  rw [hq] at hd ⊢
  have t1 : ¬ ((512 : Int) < (n : Int)) := by omega
  have t2 : ¬ ((512 : Int) < (q : Int)) := by omega
  have HN : Hid (n ≤ 512) := Lib.hid hn
  clear h hB hq hd hn
  go_enter Tryd.func70, Tryd.ntmps70
  go_wp2_with fail
  go_loopw [5, 6] (fun s5 s6 wr => ∃ (i : Nat), i ≤ n ∧ s6 = .int .i64 (i : Int) ∧ OutB W.heap.size i s5 wr ∧ Hid (Below W.heap.size W wr)) (fun _ s _ => n - (intOf s).toNat)
  case atStart => exact ⟨0, Nat.zero_le _, rfl, OutB.nil W, Lib.hid ((Below.refl _ _).alloc (Nat.le_refl _) _)⟩
  case round =>
    obtain ⟨i, hi, rfl, ⟨A5, c5, L, rfl, hL, ho⟩, HBW⟩ := hrel
    have HL := Lib.hid hL
    have HO := Lib.hid ho
    clear hL ho
    by_cases hlt : i < n
    · have hi1 : (i : Int) < (n : Int) := by omega
      have H63 : Hid (i + 1 ≤ maxLen) := by have := HN.out; show _ ≤ _; unfold maxLen; omega
      have HBY : Hid ((i + 1) * 1 ≤ 140737488355328) := by have := HN.out; show _ ≤ _; omega
      have HSZ : ∀ o, Hid (W.heap.size ≤ (wr.alloc o).heap.size) := fun o => by have := HBW.out.size; show _ ≤ _; simp; omega
      by_cases hiq : i < q
      · have hiq1 : (i : Int) < (q : Int) := by omega
        have hiqd : i < d.length := by rw [HQ.out]; exact hiq
        obtain ⟨b1, o1, rfl, hb1, hc1⟩ := (HS.out.below (HBW.out.mono HB.out)).byte hiqd
        obtain ⟨z, hz⟩ : ∃ z, d[i] = z := ⟨_, rfl⟩
        rw [hz] at hc1
        clear hz
        go_wp2_with (at_builtin; obtain ⟨i0, hi0, hy0, hy1, hy2⟩ := info_parts Tryd.info_u8; refine wpList_append_own_at _ rfl _ _ 22 rfl W.heap.size 5 i0 _ 1 1 Tryd.underlying22 hi0 hy0 hy1 hy2 rfl (by decide) (.slice A5 i c5) i (bv L) rfl (HO.out.alloc _) ⟨wr.heap.size, 0, none⟩ 1 1 (bv [z]) rfl rfl (World.news_of_block (t := 5) (fr := (0, 0)) (heap_alloc_new wr _)) (bv_one _) H63.out HBY.out (HSZ _).out ?_; intro v' w2 hown5 hgrow5 hnil5 hat5; obtain ⟨A6, c6, rfl⟩ := own_form hown5; have HG5 := Lib.hid hgrow5; have HO5 := Lib.hid hown5; clear hi0 hy0 hy1 hy2 i0 hgrow5 hown5 hnil5 hat5)
        have hbb := HBW.out
        have hb2 : Below W.heap.size W w2 := hbb.trans (((Below.refl _ wr).alloc hbb.size _).grown HG5.out (by have := hbb.size; simp; omega) (fun q hq => town_ge HO.out hq))
        go_roundw
        case rel => exact ⟨i + 1, by omega, by go_num, ⟨A6, c6, L ++ [z], rfl, by simp [HL.out], by rw [bv_app]; exact HO5.out⟩, Lib.hid hb2⟩
        case measure => simp [intOf]; omega
      · have hiq1 : ¬ ((i : Int) < (q : Int)) := by omega
        go_wp2_with (at_builtin; obtain ⟨i0, hi0, hy0, hy1, hy2⟩ := info_parts Tryd.info_u8; refine wpList_append_own_at _ rfl _ _ 22 rfl W.heap.size 5 i0 _ 1 1 Tryd.underlying22 hi0 hy0 hy1 hy2 rfl (by decide) (.slice A5 i c5) i (bv L) rfl (HO.out.alloc _) ⟨wr.heap.size, 0, none⟩ 1 1 (bv [0]) rfl rfl (World.news_of_block (t := 5) (fr := (0, 0)) (heap_alloc_new wr _)) (bv_one _) H63.out HBY.out (HSZ _).out ?_; intro v' w2 hown5 hgrow5 hnil5 hat5; obtain ⟨A6, c6, rfl⟩ := own_form hown5; have HG5 := Lib.hid hgrow5; have HO5 := Lib.hid hown5; clear hi0 hy0 hy1 hy2 i0 hgrow5 hown5 hnil5 hat5)
        have hbb := HBW.out
        have hb2 : Below W.heap.size W w2 := hbb.trans (((Below.refl _ wr).alloc hbb.size _).grown HG5.out (by have := hbb.size; simp; omega) (fun q hq => town_ge HO.out hq))
        go_roundw
        case rel => exact ⟨i + 1, by omega, by go_num, ⟨A6, c6, L ++ [0], rfl, by simp [HL.out], by rw [bv_app]; exact HO5.out⟩, Lib.hid hb2⟩
        case measure => simp [intOf]; omega
    · obtain rfl : i = n := by omega
      have hend : ¬ ((i : Int) < (i : Int)) := by omega
      go_wp2_with fail
      go_ret
      exact ⟨⟨_, rfl, A5, c5, L, rfl, HL.out, HO.out⟩, HBW.out⟩

theorem ecells_cell (es : List (ByteArray × Int)) : ∀ u ∈ ecells es, u.oneCell' = true := by
  intro u hu
  unfold ecells at hu
  obtain ⟨e, -, he⟩ := List.mem_flatMap.1 hu
  rcases List.mem_cons.1 he with h | h
  · subst h; rfl
  · rw [List.mem_singleton.1 h]; rfl
theorem own_len {w : World} {base : Nat} {e : TypeId} {size n c : Nat} {A : Option Addr} {xs : List Value} (h : w.ownsRow base e size (.slice A n c) n xs) : ∃ (A' : Option Addr) (c' : Nat), (Value.slice A n c = .slice A' n c') ∧ n ≤ c := by
  rcases h.2 with ⟨e1, h0⟩ | ⟨g, cap, cur, e1, hb, hh, hn, _⟩
  · exact ⟨_, _, rfl, by omega⟩
  · injection e1 with e1 e2 e3
    exact ⟨_, _, rfl, by omega⟩

theorem ecells_drop : ∀ (es : List (ByteArray × Int)) (i : Nat), (ecells es).drop (i * 2) = ecells (es.drop i)
  | es, 0 => by simp
  | [], i + 1 => by simp [ecells]
  | a :: l, i + 1 => by
    have e1 : ecells (a :: l) = [.string a.1, .int .i64 a.2] ++ ecells l := rfl
    rw [e1, show (i + 1) * 2 = i * 2 + 2 from by omega, List.drop_succ_cons]
    exact ecells_drop l i
theorem own_drop {W : World} {base size n c b i : Nat} {e : TypeId} {A : Option Addr} {xs l : List Value} (h : W.ownsRow base e size (.slice A n c) n xs) (hA : A = some ⟨b, 0, none⟩) (hl : xs.drop i = l) :
    ∀ (j : Nat) (u : Value), l[j]? = some u → W.cell? ((⟨b, i, none⟩ : Addr).add j) = some u := by
  intro j u hu
  rw [← hl, List.getElem?_drop] at hu
  obtain ⟨b', e1, h1⟩ := own_at h hu
  rw [hA] at e1
  injection e1 with e1
  injection e1 with e1
  subst e1
  have hadd : (⟨b, i, none⟩ : Addr).add j = ⟨b, i + j, none⟩ := by unfold Addr.add; split <;> simp_all
  rw [hadd]
  exact h1
theorem tr_cell {W : World} {g m j : Nat} (h : Tr W g m) (hj : j < 64) : ∃ v, W.cell? ⟨g, j * 5 + 4, none⟩ = some v ∧ W.frozen? ⟨g, j * 5 + 4, none⟩ = false ∧ g < W.heap.size := by
  have hl := h.lt
  obtain ⟨cs, hg, hs, hx⟩ := h.blk
  obtain ⟨y, hya, hyo⟩ := hx j hj
  exact ⟨_, cell_blk hg hya.e, (Blk.of_heap hg).free _, hl⟩
theorem tr_grown {W w2 : World} {g m j size n c : Nat} {e : TypeId} {A : Option Addr} {xs : List Value} (h : Tr W g m) (hj : j < 64) (hb : Below W.heap.size W w2) (ho : w2.ownsRow W.heap.size e size (.slice A n c) n xs) :
    ∀ (w3 : World), w2.grownBy w3 (Value.slice A n c).ownBlock → Below W.heap.size W w3 ∧ ∃ v, w3.cell? ⟨g, j * 5 + 4, none⟩ = some v ∧ w3.frozen? ⟨g, j * 5 + 4, none⟩ = false ∧ g < w3.heap.size := by
  intro w3 hg
  have h3 := hb.grown hg hb.size (fun k hk => town_ge ho hk)
  exact ⟨h3, tr_cell (h.below h3) hj⟩
theorem tr_put {W w3 : World} {g m j l q c : Nat} {B : Option Addr} {L es : List (ByteArray × Int)} {nm : ByteArray} {nd : Int} {xs : List Value} {i : Nat} (h : Tr W g m) (hj : j < 64) (hm : m + 1 ≤ 64) (hb : Below W.heap.size W w3)
    (hL : l ≤ i ∧ ∀ e ∈ L, EntOk e) (hl : L.length = l) (hnn : EntOk (nm, nd)) (hes : ∀ e ∈ es, EntOk e) (hq : es.length = q) (hle : l + q ≤ m)
    (ho : w3.ownsRow W.heap.size 119 2 (.slice B (l + 1 + q) c) (l + 1 + q) xs) (hxs : xs = ecells L ++ [.string nm, .int .i64 nd] ++ ecells es) :
    TrTo g (m + 1) W (w3.setCell ⟨g, j * 5 + 4, none⟩ (.slice B (l + 1 + q) c)) := by
  subst hq
  have hlen : (L ++ [(nm, nd)] ++ es).length = l + 1 + es.length := by simp [hl]; omega
  have hcl : ecells (L ++ [(nm, nd)] ++ es) = xs := by rw [ecells_app, ecells_app, ecells_one, hxs]
  have h1 : Tr w3 g (m + 1) := (h.below hb).more (Nat.le_succ m)
  refine ⟨?_, (Fr.of_below hb).trans (fr_set w3 g (j * 5 + 4) _) (fun _ _ h => h)⟩
  rw [← hlen] at ho ⊢
  rw [← hcl] at ho
  refine h1.setE hj ?_ (by rw [hlen]; omega) (town_low ho (Nat.zero_le _))
  intro e he
  rcases List.mem_append.1 he with he | he
  · rcases List.mem_append.1 he with he | he
    · exact hL.2 e he
    · rw [List.mem_singleton.1 he]; exact hnn
  · exact hes e he

set_option maxRecDepth 100000 in
set_option maxHeartbeats 8000000 in
theorem put_any (g m j : Nat) (nm : ByteArray) (nd : Int) (W : World) (h : Tr W g m) (hj : j < 64) (hm : m + 1 ≤ 64) (hn : nm.size ≤ 300) (h0 : 0 ≤ nd) (h1 : nd < 64) :
    Calls Tryd.prog 65 #[.pointer (some ⟨g, 0, none⟩), .int .i64 (j : Int), .string nm, .int .i64 nd] W fun e w' => (∃ v, e = .returned v) ∧ TrTo g (m + 1) W w' := by
  have HT := Lib.hid h
  have HM := Lib.hid hm
  have hm1 : m + 1 ≤ 64 := hm
  have HNN := Lib.hid (show EntOk (nm, nd) from ⟨hn, h0, h1⟩)
  obtain ⟨cs, hg, hs, hx⟩ := h.blk
  obtain ⟨x, hxa, hxo⟩ := hx j hj
  have hq := cell_blk hg hxa.e
  have HOE := Lib.hid hxo.oe
  have HES := Lib.hid hxo.es
  have HXM := Lib.hid hxo.m
  have hlg := h.lt
  obtain ⟨n, hn⟩ : ∃ n, x.es.length = n := ⟨_, rfl⟩
  have HN := Lib.hid hn
  rw [hn] at hq HXM
  have t70 : ¬ ((70 : Int) < (n : Int)) := by have := HXM.out; omega
  clear hxo hxa hx hg hs h hn hm h0 h1
  go_enter Tryd.func65, Tryd.ntmps65
  go_upto_region 3 with fail
  go_loopw [9, 10] (fun s7 s8 wr => ∃ (i : Nat), i ≤ n ∧ s8 = .int .i64 (i : Int) ∧ OutE W.heap.size i s7 wr ∧ Hid (Below W.heap.size W wr)) (fun _ s _ => n - (intOf s).toNat)
  case atStart => exact ⟨0, Nat.zero_le _, rfl, OutE.nil W 0, Lib.hid ((Below.refl _ _).alloc (Nat.le_refl _) _)⟩
  case round =>
    obtain ⟨i, hi, rfl, ⟨A, c, L, rfl, hL, ho⟩, HBW⟩ := hrel
    have HL := Lib.hid hL
    have HO := Lib.hid ho
    clear hL ho
    by_cases hlt : i < n
    · have hi1 : (i : Int) < (n : Int) := by omega
      have hil : i < x.es.length := by rw [HN.out]; exact hlt
      obtain ⟨b, hb, q1, q2⟩ := own_ent (town_keep HOE.out HBW.out) hil
      have hz := HES.out _ (List.getElem_mem hil)
      obtain ⟨z, hze⟩ : ∃ z, x.es[i] = z := ⟨_, rfl⟩
      rw [hze] at q1 q2 hz
      obtain ⟨z1, z2⟩ := z
      have HZ := Lib.hid hz
      clear hz hze
      obtain ⟨tb, htb⟩ : ∃ t, Op.bytesLess z1.toList nm.toList = t := ⟨_, rfl⟩
      obtain ⟨l, hl⟩ : ∃ l, L.length = l := ⟨_, rfl⟩
      have HLL := Lib.hid hl
      rw [hl] at HL HO ⊢
      have H63 : Hid (l + 1 ≤ maxLen) := by have := HL.out.1; show _ ≤ _; unfold maxLen; omega
      have HBY : Hid ((l + 1) * 24 ≤ 140737488355328) := by have := HL.out.1; show _ ≤ _; omega
      have HSZ : ∀ o, Hid (W.heap.size ≤ (wr.alloc o).heap.size) := fun o => by have := HBW.out.size; show _ ≤ _; simp; omega
      clear hl
      cases tb with
      | true =>
        go_wp2_with (at_builtin; obtain ⟨i0, hi0, hy0, hy1, hy2⟩ := info_parts info_ent; refine wpList_append_own_at _ rfl _ _ 91 rfl W.heap.size 119 i0 _ 2 24 Tryd.underlying91 hi0 hy0 hy1 hy2 rfl (by decide) (.slice A l c) l (ecells L) rfl (HO.out.alloc _) ⟨wr.heap.size, 0, none⟩ 1 1 [.string z1, .int .i64 z2] rfl rfl (World.news_of_block (t := 119) (fr := (0, 0)) (heap_alloc_new wr _)) (by simp [Value.oneCell']) H63.out HBY.out (HSZ _).out ?_; intro v' w2 hown5 hgrow5 hnil5 hat5; obtain ⟨A6, c6, rfl⟩ := own_form hown5; have HG5 := Lib.hid hgrow5; have HO5 := Lib.hid hown5; clear hi0 hy0 hy1 hy2 i0 hgrow5 hown5 hnil5 hat5)
        have hbb := HBW.out
        have hb2 : Below W.heap.size W w2 := hbb.trans (((Below.refl _ wr).alloc hbb.size _).grown HG5.out (by have := hbb.size; simp; omega) (fun q hq => town_ge HO.out hq))
        have e6 : (L ++ [(z1, z2)]).length = l + 1 := by rw [List.length_append, HLL.out]; rfl
        go_roundw
        case rel =>
          refine ⟨i + 1, by omega, by go_num, ⟨A6, c6, L ++ [(z1, z2)], by rw [e6], ⟨by have := HL.out.1; omega, fun e he => ?_⟩, by rw [e6, ecells_app, ecells_one]; exact HO5.out⟩, Lib.hid hb2⟩
          rcases List.mem_append.1 he with he | he
          · exact HL.out.2 e he
          · rw [List.mem_singleton.1 he]; exact HZ.out
        case measure => simp [intOf]; omega
      | false =>
        go_wp2_with (at_builtin; obtain ⟨i0, hi0, hy0, hy1, hy2⟩ := info_parts info_ent; refine wpList_append_own_at _ rfl _ _ 91 rfl W.heap.size 119 i0 _ 2 24 Tryd.underlying91 hi0 hy0 hy1 hy2 rfl (by decide) (.slice A l c) l (ecells L) rfl (HO.out.alloc _) ⟨wr.heap.size, 0, none⟩ 1 1 [.string nm, .int .i64 nd] rfl rfl (World.news_of_block (t := 119) (fr := (0, 0)) (heap_alloc_new wr _)) (by simp [Value.oneCell']) H63.out HBY.out (HSZ _).out ?_; intro v' w2 hown5 hgrow5 hnil5 hat5; obtain ⟨A6, c6, rfl⟩ := own_form hown5; have HG5 := Lib.hid hgrow5; have HO5 := Lib.hid hown5; clear hi0 hy0 hy1 hy2 i0 hgrow5 hown5 hnil5 hat5)
        have hbb := HBW.out
        have hb2 : Below W.heap.size W w2 := hbb.trans (((Below.refl _ wr).alloc hbb.size _).grown HG5.out (by have := hbb.size; simp; omega) (fun q hq => town_ge HO.out hq))
        have HB2 := Lib.hid hb2
        have e6 : (L ++ [(nm, nd)]).length = l + 1 := by rw [List.length_append, HLL.out]; rfl
        have HE6 := Lib.hid e6
        have hxb : x.B = some ⟨b, 0, none⟩ := by assumption
        have hnei : ¬ x.cb = i := by
          obtain ⟨A', c', e', h'⟩ := own_len HOE.out
          rw [HN.out] at h'
          omega
        have hin : (i : Int) ≤ (n : Int) := by omega
        have HNC : Hid (n ≤ x.cb) := Lib.hid (by obtain ⟨A', c', e', h'⟩ := own_len HOE.out; rw [HN.out] at h'; exact h')
        have hnc : n ≤ x.cb := HNC.out
        have hic : i ≤ x.cb := by omega
        have hnewl : Hid (((ecells x.es).drop (i * 2)).length = (n - i) * 2) := Lib.hid (by rw [List.length_drop, ecells_len, HN.out]; omega)
        obtain ⟨LS, hLS⟩ : ∃ l, ecells L ++ [.string nm, .int .i64 nd] = l := ⟨_, rfl⟩
        have HLS := Lib.hid hLS
        have HO6 : Hid (w2.drew.ownsRow W.heap.size 119 2 (.slice A6 (l + 1) c6) (l + 1) LS) := by rw [← hLS]; exact HO5
        obtain ⟨LX, hLX⟩ : ∃ l, (ecells x.es).drop (i * 2) = l := ⟨_, rfl⟩
        rw [hLX] at hnewl
        have HLX := Lib.hid hLX
        have HX1 : Hid (∀ u ∈ LX, u.oneCell' = true) := Lib.hid (by rw [← hLX]; intro u hu; exact ecells_cell _ u (List.mem_of_mem_drop hu))
        have HX2 : Hid (∀ (j : Nat) (u : Value), LX[j]? = some u → w2.drew.cell? ((⟨b, i * 2, none⟩ : Addr).add j) = some u) := Lib.hid (own_drop (town_keep HOE.out HB2.out.drew) hxb hLX)
        have H64 : Hid (l + 1 + (n - i) ≤ maxLen) := by have h1 := HL.out.1; have h2 := HXM.out; have h3 := HM.out; show _ ≤ _; unfold maxLen; omega
        have HBZ : Hid ((l + 1 + (n - i)) * 24 ≤ 140737488355328) := by have h1 := HL.out.1; have h2 := HXM.out; have h3 := HM.out; show _ ≤ _; omega
        have HSW : Hid (W.heap.size ≤ w2.drew.heap.size) := Lib.hid HB2.out.size
        have hj64 : (j : Int) < 64 := by omega
        have hk0 : Hid (0 < n - i) := Lib.hid (by omega)
        have HGW : Hid (∀ (w3 : World), w2.drew.grownBy w3 (Value.slice A6 (l + 1) c6).ownBlock → Below W.heap.size W w3 ∧ ∃ v, w3.cell? ⟨g, j * 5 + 4, none⟩ = some v ∧ w3.frozen? ⟨g, j * 5 + 4, none⟩ = false ∧ g < w3.heap.size) := Lib.hid (tr_grown HT.out hj HB2.out.drew HO6.out)
        clear hbb hb2 e6 q1 q2 htb hLS hLX HZ hil hlt hi1 HO5 HO H63 HBY HSZ HG5
        go_region_law
          (obtain ⟨i0, hi0, hz0, hz1, hz2⟩ := info_parts info_ent
           refine step_append_lies _ (by rfl) _ _ _ (by rfl) W.heap.size 119 i0 _ 2 24 Tryd.underlying91 hi0 hz0 hz1 hz2 rfl (Nat.zero_lt_succ 1) (.slice A6 (l + 1) c6) (l + 1) LS (by go_simp) HO6.out
             ⟨b, i * 2, none⟩ (n - i) (x.cb - i) LX (by go_simp) hnewl.out HX2.out HX1.out
             hk0.out H64.out HBZ.out HSW.out (w2.heap.size) (by rfl) ?_
           intro gg cap w3 hown3 hgrow3 hat3 hlt3
           obtain ⟨hb3, vv, hq3, hf3, hl3⟩ := HGW.out w3 hgrow3
           clear hi0 hz0 hz1 hz2 i0)
        all_goals
          go_wp2_with fail
          go_end0
          exact ⟨⟨_, rfl⟩, tr_put (es := x.es.drop i) HT.out hj hm1 hb3 HL.out HLL.out HNN.out (fun e he => HES.out e (List.mem_of_mem_drop he)) (by rw [List.length_drop, HN.out]) (by have h1 := HXM.out; have h3 := HL.out.1; omega) hown3 (by rw [← HLS.out, ← HLX.out, ecells_drop])⟩
    · obtain rfl : i = n := by omega
      have hend : ¬ ((i : Int) < (i : Int)) := by omega
      obtain ⟨l, hl⟩ : ∃ l, L.length = l := ⟨_, rfl⟩
      have HLL := Lib.hid hl
      rw [hl] at HL HO ⊢
      have H63 : Hid (l + 1 ≤ maxLen) := by have := HL.out.1; show _ ≤ _; unfold maxLen; omega
      have HBY : Hid ((l + 1) * 24 ≤ 140737488355328) := by have := HL.out.1; show _ ≤ _; omega
      have HSZ : ∀ o, Hid (W.heap.size ≤ (wr.alloc o).heap.size) := fun o => by have := HBW.out.size; show _ ≤ _; simp; omega
      clear hl
      go_wp2_with (at_builtin; obtain ⟨i0, hi0, hy0, hy1, hy2⟩ := info_parts info_ent; refine wpList_append_own_at _ rfl _ _ 91 rfl W.heap.size 119 i0 _ 2 24 Tryd.underlying91 hi0 hy0 hy1 hy2 rfl (by decide) (.slice A l c) l (ecells L) rfl (HO.out.alloc _) ⟨wr.heap.size, 0, none⟩ 1 1 [.string nm, .int .i64 nd] rfl rfl (World.news_of_block (t := 119) (fr := (0, 0)) (heap_alloc_new wr _)) (by simp [Value.oneCell']) H63.out HBY.out (HSZ _).out ?_; intro v' w2 hown5 hgrow5 hnil5 hat5; obtain ⟨A6, c6, rfl⟩ := own_form hown5; have HG5 := Lib.hid hgrow5; have HO5 := Lib.hid hown5; clear hi0 hy0 hy1 hy2 i0 hgrow5 hown5 hnil5 hat5)
      have hbb := HBW.out
      have hb2 : Below W.heap.size W w2 := hbb.trans (((Below.refl _ wr).alloc hbb.size _).grown HG5.out (by have := hbb.size; simp; omega) (fun q hq => town_ge HO.out hq))
      have HB2 := Lib.hid hb2
      obtain ⟨b6, rfl⟩ : ∃ b6, A6 = some ⟨b6, 0, none⟩ := by
        rcases HO5.out.2 with ⟨_, h0⟩ | ⟨gu, cap, cur, e', hb, _⟩
        · omega
        · injection e' with e1
          exact ⟨gu, e1⟩
      have hc6 : l + 1 ≤ c6 := by obtain ⟨A', c', e', h'⟩ := own_len HO5.out; exact h'
      have hnc : i ≤ x.cb := by
        obtain ⟨A', c', e', h'⟩ := own_len HOE.out
        rw [HN.out] at h'
        exact h'
      have hic : (i : Int) ≤ (x.cb : Int) := by omega
      have hj64 : (j : Int) < 64 := by omega
      have hii : ¬ ((i : Int) < 0) := by omega
      have hq3 := tr_cell (HT.out.below HB2.out) hj
      obtain ⟨vv, hq3, hf3, hl3⟩ := hq3
      clear hbb hb2 HO HG5 HBY HSZ
      have HFIN : Hid (TrTo g (m + 1) W (w2.drew.setCell ⟨g, j * 5 + 4, none⟩ (.slice (some ⟨b6, 0, none⟩) (l + 1) c6))) := Lib.hid (tr_put (es := []) (m := m) (q := 0) HT.out hj hm1 HB2.out.drew HL.out HLL.out HNN.out (by simp) rfl (by have h1 := HXM.out; have h3 := HL.out.1; omega) HO5.out (by simp [ecells]))
      clear hq
      obtain ⟨XB, hXB⟩ : ∃ z, x.B = z := ⟨_, rfl⟩
      rw [hXB]
      obtain ⟨xc, hxc⟩ : ∃ z, x.cb = z := ⟨_, rfl⟩
      rw [hxc] at hic hnc ⊢
      clear hXB hxc
      by_cases hcn : xc = i
      · subst hcn
        cases XB with
        | none =>
          go_region_law
            fail
          all_goals
            go_wp2_with fail
            go_end0
            exact ⟨⟨_, rfl⟩, HFIN.out⟩
        | some ad =>
          go_region_law
            fail
          all_goals
            go_wp2_with fail
            go_end0
            exact ⟨⟨_, rfl⟩, HFIN.out⟩
      · cases XB with
        | none =>
          go_region_law
            fail
          all_goals
            go_wp2_with fail
            go_end0
            exact ⟨⟨_, rfl⟩, HFIN.out⟩
        | some ad =>
          go_region_law
            fail
          all_goals
            go_wp2_with fail
            go_end0
            exact ⟨⟨_, rfl⟩, HFIN.out⟩
end Go.Proofs.YtjkilpjdgjijiaaDoor
namespace Go.Proofs.YtjkilpjdgjijiaaDoor
open Go.RowKit
set_option linter.unusedVariables false
attribute [local go_sem] Oper.semAt_some

abbrev zAnCs : Array Value := #[.int .i64 0, .int .i64 0, .int .i64 0, .int .i64 0, .slice none 0 0, .slice none 0 0]
/-- An answer that may be. -/
structure AnSm (y : An) : Prop where
  e : InR y.e
  k : InR y.k
  s : InR y.s
  l : InR y.l
  d : y.d.length ≤ 256
  n : y.ns.length ≤ 64
  ns : ∀ s ∈ y.ns, s.size ≤ 300
def DoR (w : World) (e : Ending) : Prop := ∃ (y : An) (A1 : Option Addr) (c1 : Nat) (A2 : Option Addr) (c2 : Nat) (k : Int), e = .returned (.tuple #[y.val A1 c1 A2 c2, .int .i64 k]) ∧ 0 ≤ k ∧ k ≤ 30 ∧ AnSm y ∧ Sl w w.heap.size A1 (bv y.d) ∧ (A1 = none → c1 = 0) ∧ Sl w w.heap.size A2 (y.ns.map Value.string)
theorem inR0 : InR 0 := by decide
theorem DoR.zero (w : World) (k : Int) (h0 : 0 ≤ k) (h1 : k ≤ 30) : DoR w (.returned (.tuple #[.agg zAnCs, .int .i64 k])) :=
  ⟨⟨0, 0, 0, 0, [], []⟩, none, 0, none, 0, k, rfl, h0, h1, ⟨inR0, inR0, inR0, inR0, by simp, by simp, by simp⟩, Sl.nil, fun _ => rfl, Sl.nil⟩
/-- Blocks of a type that no part of the tree has may turn. -/
theorem Tr.far {W W' : World} {g m b : Nat} {cs : Array Value} {t : TypeId} (h : Tr W g m) (hb : W.heap[b]? = some (.cells cs t (0, 0))) (hf : Fr (fun k => k = b) W W') (h1 : 5 ≠ t) (h2 : 119 ≠ t) (h3 : 96 ≠ t) : Tr W' g m := by
  obtain ⟨cs', hg, hs, hx⟩ := h.blk
  have hne : ¬ g = b := ne_obj hg hb (cells_ne h3)
  refine ⟨cs', (hf.block g (Array.getElem?_eq_some_iff.1 hg).1 hne).trans hg, hs, fun j hj => ?_⟩
  obtain ⟨x, hx1, hx2⟩ := hx j hj
  exact ⟨x, hx1, hx2.n, hx2.k, hx2.l, hx2.d, hf.owns hx2.od (info_apart hx2.od hb h1), hx2.m, hx2.es, hf.owns hx2.oe (info_apart hx2.oe hb h2)⟩
/-- Between the steps of do: its own three blocks, and the tree. -/
structure DoZ (W : World) (g m : Nat) (cc z6 : Array Value) (w : World) : Prop where
  tr : Tr w g m
  fr : Fr (fun k => k = g) W w
  b3 : w.heap[W.heap.size]? = some (.cells cc 26 (0, 0))
  b4 : w.heap[W.heap.size + 1]? = some (.cells zAnCs 30 (0, 0))
  b6 : w.heap[W.heap.size + 1 + 1]? = some (.cells z6 30 (0, 0))
abbrev DoS (W : World) (g m : Nat) (cc : Array Value) (w : World) : Prop := DoZ W g m cc zAnCs w
section
variable {W w w' : World} {g m m' : Nat} {cc z6 : Array Value}
theorem DoS.start (h : Tr W g m) (cc : Array Value) : DoS W g m cc (((W.alloc (.cells cc 26)).alloc (.cells zAnCs 30)).alloc (.cells zAnCs 30)) := by
  have hb : Below W.heap.size W (((W.alloc (.cells cc 26)).alloc (.cells zAnCs 30)).alloc (.cells zAnCs 30)) := (((Below.refl _ _).alloc (Nat.le_refl _) _).alloc (by simp) _).alloc (by simp; omega) _
  refine ⟨h.below hb, Fr.of_below hb, ?_, ?_, ?_⟩
  · rw [Below.heap_alloc _ _ _ (by simp; omega), Below.heap_alloc _ _ _ (by simp)]; exact heap_alloc_new W _
  · rw [Below.heap_alloc _ _ _ (by simp)]
    have := heap_alloc_new (W.alloc (.cells cc 26)) (.cells zAnCs 30)
    rw [World.size_alloc] at this; exact this
  · have := heap_alloc_new ((W.alloc (.cells cc 26)).alloc (.cells zAnCs 30)) (.cells zAnCs 30)
    rw [World.size_alloc, World.size_alloc] at this; exact this
theorem DoZ.size (h : DoZ W g m cc z6 w) : W.heap.size + 1 + 1 < w.heap.size := (Array.getElem?_eq_some_iff.1 h.b6).1
theorem DoZ.below (h : DoZ W g m cc z6 w) (hb : Below w.heap.size w w') : DoZ W g m cc z6 w' := by
  have hs := h.size
  exact ⟨h.tr.below hb, h.fr.thenBelow hb, (hb.block _ (by omega)).trans h.b3, (hb.block _ (by omega)).trans h.b4, (hb.block _ (by omega)).trans h.b6⟩
theorem DoZ.to (h : DoZ W g m cc z6 w) (ht : TrTo g m' w w') : DoZ W g m' cc z6 w' := by
  have hs := h.size
  obtain ⟨cs, hg, -, -⟩ := h.tr.blk
  have n3 : ¬ W.heap.size = g := ne_obj h.b3 hg (cells_ne (by decide))
  have n4 : ¬ W.heap.size + 1 = g := ne_obj h.b4 hg (cells_ne (by decide))
  have n6 : ¬ W.heap.size + 1 + 1 = g := ne_obj h.b6 hg (cells_ne (by decide))
  exact ⟨ht.1, h.fr.trans ht.2 (fun _ _ h => h), (ht.2.block _ (by omega) n3).trans h.b3, (ht.2.block _ (by omega) n4).trans h.b4, (ht.2.block _ (by omega) n6).trans h.b6⟩
/-- Behind the last store: into the answer's own block. -/
theorem DoZ.ended {m'' : Nat} (h : DoZ W g m cc z6 w) (hf : Fr (fun k => k = W.heap.size + 1) w w') (hm : m ≤ m'') : TrTo g m'' W w' :=
  ⟨(h.tr.far h.b4 hf (by decide) (by decide) (by decide)).more hm, h.fr.trans hf (fun i hi e => by omega)⟩
theorem DoZ.ld6 (h : DoS W g m cc w) : ldR Tryd.prog 30 (.pointer (some ⟨W.heap.size + 1 + 1, 0, none⟩)) w = .ok (.value (.agg zAnCs)) w :=
  ldR_row (P := Tryd.prog) 30 w (W.heap.size + 1 + 1) 30 zAnCs (0, 0) _ h.b6 Tryd.underlying30 rfl (by kernel_rfl)
theorem DoZ.ld6g (h : DoZ W g m cc z6 w) (hz : z6.size = 6) : ldR Tryd.prog 30 (.pointer (some ⟨W.heap.size + 1 + 1, 0, none⟩)) w = .ok (.value (.agg z6)) w :=
  ldR_row (P := Tryd.prog) 30 w (W.heap.size + 1 + 1) 30 z6 (0, 0) _ h.b6 Tryd.underlying30 rfl (by rw [hz]; kernel_rfl)
theorem DoZ.st4g (h : DoZ W g m cc z6 w) (a b c d : Int) (A1 A2 : Option Addr) (n1 c1 n2 c2 : Nat) : stR Tryd.prog 30 (.pointer (some ⟨W.heap.size + 1, 0, none⟩)) (.agg #[.int .i64 a, .int .i64 b, .int .i64 c, .int .i64 d, .slice A1 n1 c1, .slice A2 n2 c2]) w = .ok .skip (w.setRow (W.heap.size + 1) #[.int .i64 a, .int .i64 b, .int .i64 c, .int .i64 d, .slice A1 n1 c1, .slice A2 n2 c2]) :=
  stR_row (P := Tryd.prog) 30 w (W.heap.size + 1) zAnCs _ h.b4 (show (6 : Nat) = 6 from rfl) (by kernel_rfl) (one_all rfl)
theorem DoZ.st4 (h : DoS W g m cc w) : stR Tryd.prog 30 (.pointer (some ⟨W.heap.size + 1, 0, none⟩)) (.agg zAnCs) w = .ok .skip (w.setRow (W.heap.size + 1) zAnCs) :=
  stR_row (P := Tryd.prog) 30 w (W.heap.size + 1) zAnCs zAnCs h.b4 (show (6 : Nat) = 6 from rfl) (by kernel_rfl) (one_all rfl)
theorem setRow_at (w : World) (g : Nat) (xs ys : Array Value) (t : TypeId) (fr : Nat × Nat) (h : w.heap[g]? = some (.cells xs t fr)) : (w.setRow g ys).heap[g]? = some (.cells ys t fr) := by
  show (w.heap.modify g _)[g]? = _
  rw [Array.getElem?_modify, if_pos rfl, h]; rfl
theorem DoZ.row4 (h : DoZ W g m cc z6 w) (ys : Array Value) : (w.setRow (W.heap.size + 1) ys).heap[W.heap.size + 1]? = some (.cells ys 30 (0, 0)) := setRow_at _ _ _ _ _ _ h.b4
theorem fr_rowx (w : World) (g : Nat) (cs : Array Value) : Fr (fun k => k = g) w (w.setRow g cs) := ⟨rfl, rfl, rfl, by simp [World.setRow], fun k _ hk => fr_row w g cs k hk⟩
theorem DoZ.done {m'' : Nat} (h : DoZ W g m cc z6 w) (ys : Array Value) (hm : m ≤ m'') : TrTo g m'' W (w.setRow (W.heap.size + 1) ys) := h.ended (fr_rowx _ _ _) hm
/-- The walk's facts. -/
theorem DoZ.facts (h : DoZ W g m cc z6 w) : (∀ i, w.cell? ⟨W.heap.size, i, none⟩ = cc[i]?) ∧ (∀ i, w.cell? ⟨W.heap.size + 1, i, none⟩ = zAnCs[i]?) ∧ (∀ i, w.frozen? ⟨W.heap.size + 1, i, none⟩ = false) ∧ (∀ i, w.cell? ⟨W.heap.size + 1 + 1, i, none⟩ = z6[i]?) ∧ W.heap.size < w.heap.size ∧ W.heap.size + 1 < w.heap.size ∧ W.heap.size + 1 + 1 < w.heap.size := by
  have hs := h.size
  exact ⟨(Blk.of_heap h.b3).cell, (Blk.of_heap h.b4).cell, (Blk.of_heap h.b4).free, (Blk.of_heap h.b6).cell, by omega, by omega, by omega⟩
end

/-- One cell of a node turned. -/
theorem Tr.upd {W : World} {g m j f : Nat} {v : Value} (h : Tr W g m) (hj : j < 64) (hf5 : f < 5) (hn : ∀ (cs : Array Value) (x : Nd), cs.size = 320 → NdAt cs j x → NdOk W m x → ∃ x', NdAt (cs.setIfInBounds (j * 5 + f) v) j x' ∧ NdOk W m x') :
    TrTo g m W (W.setCell ⟨g, j * 5 + f, none⟩ v) := by
  obtain ⟨cs, hg, hs, hx⟩ := h.blk
  have hf := fr_set W g (j * 5 + f) v
  refine ⟨⟨_, blk_set hg _, by simpa using hs, fun i hi => ?_⟩, hf⟩
  obtain ⟨x, h1, h2⟩ := hx i hi
  by_cases hij : i = j
  · subst hij
    obtain ⟨x', h3, h4⟩ := hn cs x hs h1 h2
    exact ⟨x', h3, h4.fr hf hg⟩
  · refine ⟨x, ⟨?_, ?_, ?_, ?_, ?_⟩, h2.fr hf hg⟩
    · rw [set_get (by omega), if_neg (by omega)]; exact h1.n
    · rw [set_get (by omega), if_neg (by omega)]; exact h1.k
    · rw [set_get (by omega), if_neg (by omega)]; exact h1.l
    · rw [set_get (by omega), if_neg (by omega)]; exact h1.d
    · rw [set_get (by omega), if_neg (by omega)]; exact h1.e
theorem Tr.setK {W : World} {g m j : Nat} {k : Int} (h : Tr W g m) (hj : j < 64) (hk : InR k) : TrTo g m W (W.setCell ⟨g, j * 5 + 1, none⟩ (.int .i64 k)) :=
  h.upd hj (by omega) fun cs x hs h1 h2 => ⟨⟨x.n, k, x.l, x.d, x.A, x.c, x.es, x.B, x.cb⟩,
    ⟨by rw [set_get (by omega), if_neg (by omega)]; exact h1.n, by rw [set_get (by omega), if_pos rfl], by rw [set_get (by omega), if_neg (by omega)]; exact h1.l, by rw [set_get (by omega), if_neg (by omega)]; exact h1.d, by rw [set_get (by omega), if_neg (by omega)]; exact h1.e⟩,
    ⟨h2.n, hk, h2.l, h2.d, h2.od, h2.m, h2.es, h2.oe⟩⟩
theorem Tr.setL {W : World} {g m j : Nat} {k : Int} (h : Tr W g m) (hj : j < 64) (hk : InR k) : TrTo g m W (W.setCell ⟨g, j * 5 + 2, none⟩ (.int .i64 k)) :=
  h.upd hj (by omega) fun cs x hs h1 h2 => ⟨⟨x.n, x.k, k, x.d, x.A, x.c, x.es, x.B, x.cb⟩,
    ⟨by rw [set_get (by omega), if_neg (by omega)]; exact h1.n, by rw [set_get (by omega), if_neg (by omega)]; exact h1.k, by rw [set_get (by omega), if_pos rfl], by rw [set_get (by omega), if_neg (by omega)]; exact h1.d, by rw [set_get (by omega), if_neg (by omega)]; exact h1.e⟩,
    ⟨h2.n, h2.k, hk, h2.d, h2.od, h2.m, h2.es, h2.oe⟩⟩
theorem Tr.setD {W : World} {g m j n c b : Nat} {A : Option Addr} {L : List UInt8} (h : Tr W g m) (hj : j < 64) (hL : L.length = n) (hn : n ≤ 512) (ho : W.ownsRow b 5 1 (.slice A n c) n (bv L)) : TrTo g m W (W.setCell ⟨g, j * 5 + 3, none⟩ (.slice A n c)) := by
  subst hL
  exact h.upd hj (by omega) fun cs x hs h1 h2 => ⟨⟨x.n, x.k, x.l, L, A, c, x.es, x.B, x.cb⟩,
    ⟨by rw [set_get (by omega), if_neg (by omega)]; exact h1.n, by rw [set_get (by omega), if_neg (by omega)]; exact h1.k, by rw [set_get (by omega), if_neg (by omega)]; exact h1.l, by rw [set_get (by omega), if_pos rfl], by rw [set_get (by omega), if_neg (by omega)]; exact h1.e⟩,
    ⟨h2.n, h2.k, h2.l, hn, town_low ho (Nat.zero_le _), h2.m, h2.es, h2.oe⟩⟩
theorem put_get (l ys : List Value) (a k : Nat) (ha : a + 5 ≤ l.length) (hy : ys.length = 5) : (l.take a ++ ys ++ l.drop (a + 5))[k]? = if k < a then l[k]? else if k < a + 5 then ys[k - a]? else l[k]? := by
  have hl : (l.take a).length = a := by rw [List.length_take]; omega
  by_cases h1 : k < a
  · rw [if_pos h1, List.append_assoc, List.getElem?_append_left (by omega), List.getElem?_take, if_pos h1]
  · rw [if_neg h1]
    by_cases h2 : k < a + 5
    · rw [if_pos h2, List.getElem?_append_left (by rw [List.length_append]; omega), List.getElem?_append_right (by omega), hl]
    · rw [if_neg h2, List.getElem?_append_right (by rw [List.length_append]; omega), List.length_append, hl, hy, List.getElem?_drop]
      congr 1; omega
abbrev ndZ (n k l : Int) : List Value := [.int .i64 n, .int .i64 k, .int .i64 l, .slice none 0 0, .slice none 0 0]
/-- A node laid anew, whole. -/
theorem Tr.stN {W : World} {g m j : Nat} {n k l : Int} (h : Tr W g m) (hj : j < 64) (hn : InR n) (hk : InR k) (hl : InR l) :
    ∃ w', stR Tryd.prog 93 (.pointer (some ⟨g, j * 5, none⟩)) (.agg #[.int .i64 n, .int .i64 k, .int .i64 l, .slice none 0 0, .slice none 0 0]) W = .ok .skip w' ∧ TrTo g m W w' := by
  obtain ⟨cs, hg, hs, hx⟩ := h.blk
  have hst := run_storeCells_at Tryd.prog g (j * 5) 96 (ndZ n k l) 0 cs W hg (by simp [hs]; omega) (by simp [Value.oneCell'])
  have e2 : (sizeOf 93).run Tryd.prog W = .ok 5 W := by kernel_rfl
  obtain ⟨cs2, hc2⟩ : ∃ a, (cs.toList.take (j * 5 + 0) ++ (ndZ n k l) ++ cs.toList.drop (j * 5 + 0 + (ndZ n k l).length)).toArray = a := ⟨_, rfl⟩
  rw [hc2] at hst
  have hsz2 : cs2.size = 320 := by rw [← hc2]; simp; omega
  refine ⟨W.setRow g cs2, ?_, ⟨⟨cs2, setRow_at _ _ _ _ _ _ hg, hsz2, fun i hi => ?_⟩, fr_rowx _ _ _⟩⟩
  · simp only [stR, Instr.storeAt, Instr.sureAddr, storeVar, Sem.run_bind, Sem.run_pure, Result.andThen_ok, e2, Value.cells, ne_eq, List.size_toArray, List.length_cons, List.length_nil, not_true_eq_false, if_false]
    rw [hst]; rfl
  · have hlen : cs.toList.length = 320 := by simpa using hs
    have hget : ∀ q, cs2[q]? = if q < j * 5 then cs[q]? else if q < j * 5 + 5 then (ndZ n k l)[q - j * 5]? else cs[q]? := by
      intro q
      have := put_get cs.toList (ndZ n k l) (j * 5) q (by omega) rfl
      rw [← hc2, List.getElem?_toArray, Nat.add_zero]
      simpa using this
    obtain ⟨x, h1, h2⟩ := hx i hi
    by_cases hij : i = j
    · subst hij
      refine ⟨⟨n, k, l, [], none, 0, [], none, 0⟩, ⟨?_, ?_, ?_, ?_, ?_⟩, ⟨hn, hk, hl, by simp, World.ownsRow_nil _ _ _ _, by simp, by simp, World.ownsRow_nil _ _ _ _⟩⟩
      · rw [hget, if_neg (by omega), if_pos (by omega), show i * 5 - i * 5 = 0 from by omega]; rfl
      · rw [hget, if_neg (by omega), if_pos (by omega), show i * 5 + 1 - i * 5 = 1 from by omega]; rfl
      · rw [hget, if_neg (by omega), if_pos (by omega), show i * 5 + 2 - i * 5 = 2 from by omega]; rfl
      · rw [hget, if_neg (by omega), if_pos (by omega), show i * 5 + 3 - i * 5 = 3 from by omega]; rfl
      · rw [hget, if_neg (by omega), if_pos (by omega), show i * 5 + 4 - i * 5 = 4 from by omega]; rfl
    · have ho : ∀ q, (q < j * 5 ∨ j * 5 + 5 ≤ q) → cs2[q]? = cs[q]? := by
        intro q hq
        rw [hget]
        by_cases hq1 : q < j * 5
        · rw [if_pos hq1]
        · rw [if_neg hq1, if_neg (by omega)]
      refine ⟨x, ⟨?_, ?_, ?_, ?_, ?_⟩, h2.fr (fr_rowx _ _ _) hg⟩
      · rw [ho _ (by omega)]; exact h1.n
      · rw [ho _ (by omega)]; exact h1.k
      · rw [ho _ (by omega)]; exact h1.l
      · rw [ho _ (by omega)]; exact h1.d
      · rw [ho _ (by omega)]; exact h1.e
theorem exec_store_nd (ev : Operand → Value) (d : Option Tmp) (t : TypeId) (x y : Operand) (p : String) (af : Array Edge) (g : Option (Nat × Bool)) (w : World) :
    (execOp ev ⟨d, .store 93 x y, t, p, af, g⟩).run Tryd.prog w = stR Tryd.prog 93 (ev x) (ev y) w := exec_store ev d _ t x y p af g w
/-- What the walk asks of a node. -/
theorem Tr.nd {W : World} {g m j : Nat} (h : Tr W g m) (hj : j < 64) : ∃ x : Nd, NdOk W m x ∧ W.cell? ⟨g, j * 5, none⟩ = some (.int .i64 x.n) ∧ W.cell? ⟨g, j * 5 + 1, none⟩ = some (.int .i64 x.k) ∧ W.cell? ⟨g, j * 5 + 2, none⟩ = some (.int .i64 x.l) ∧ W.cell? ⟨g, j * 5 + 3, none⟩ = some (.slice x.A x.d.length x.c) ∧ W.cell? ⟨g, j * 5 + 4, none⟩ = some (.slice x.B x.es.length x.cb) ∧ (∀ i, W.frozen? ⟨g, i, none⟩ = false) ∧ g < W.heap.size := by
  have hl := h.lt
  obtain ⟨cs, hg, hs, hx⟩ := h.blk
  obtain ⟨x, hxa, hxo⟩ := hx j hj
  exact ⟨x, hxo, cell_blk hg hxa.n, cell_blk hg hxa.k, cell_blk hg hxa.l, cell_blk hg hxa.d, cell_blk hg hxa.e, (Blk.of_heap hg).free, hl⟩

theorem inR_wrap (z : Int) : InR (wrap64 z) := by unfold InR wrap64; omega
theorem inR_iwrap (z : Int) : InR (IntKind.i64.wrap z) := by rw [IntKind.wrap_i64]; unfold InR; omega
theorem exec_load_an4 (ev : Operand → Value) (d : Option Tmp) (t : TypeId) (x : Operand) (p : String) (af : Array Edge) (g : Option (Nat × Bool)) (w : World) :
    (execOp ev ⟨d, .load 30 x, t, p, af, g⟩).run Tryd.prog w = ldR Tryd.prog 30 (ev x) w := exec_load ev d _ t x p af g w
theorem exec_store_an4 (ev : Operand → Value) (d : Option Tmp) (t : TypeId) (x y : Operand) (p : String) (af : Array Edge) (g : Option (Nat × Bool)) (w : World) :
    (execOp ev ⟨d, .store 30 x y, t, p, af, g⟩).run Tryd.prog w = stR Tryd.prog 30 (ev x) (ev y) w := exec_store ev d _ t x y p af g w

theorem st_start (W : World) (o : Obj) (p : Obj) : stR Tryd.prog 30 (.pointer (some ⟨W.heap.size + 1 + 1, 0, none⟩)) (.agg zAnCs) (((W.alloc o).alloc p).alloc (.cells zAnCs 30)) = .ok .skip (((W.alloc o).alloc p).alloc (.cells zAnCs 30)) := by
  have hg := heap_alloc_new ((W.alloc o).alloc p) (.cells zAnCs 30)
  rw [World.size_alloc, World.size_alloc] at hg
  have h := stR_row (P := Tryd.prog) 30 _ (W.heap.size + 1 + 1) zAnCs zAnCs hg (show (6 : Nat) = 6 from rfl) (by kernel_rfl) (one_all rfl)
  rw [setRow_self _ _ _ _ _ hg] at h
  exact h
end Go.Proofs.YtjkilpjdgjijiaaDoor
namespace Go.Proofs.YtjkilpjdgjijiaaDoor
open Go.RowKit
set_option linter.unusedVariables false
attribute [local go_sem] Oper.semAt_some

/-- All that lay there is as it was; the three blocks. -/
structure DoL (W : World) (cc z6 : Array Value) (w : World) : Prop where
  bel : Below W.heap.size W w
  b3 : w.heap[W.heap.size]? = some (.cells cc 26 (0, 0))
  b4 : w.heap[W.heap.size + 1]? = some (.cells zAnCs 30 (0, 0))
  b6 : w.heap[W.heap.size + 1 + 1]? = some (.cells z6 30 (0, 0))
section
variable {W w w' : World} {g m : Nat} {cc z6 : Array Value}
theorem DoZ.toL (h : DoZ W g m cc z6 w) (hb : Below W.heap.size W w) : DoL W cc z6 w := ⟨hb, h.b3, h.b4, h.b6⟩
theorem DoL.toZ (h : DoL W cc z6 w) (ht : Tr W g m) : DoZ W g m cc z6 w := ⟨ht.below h.bel, Fr.of_below h.bel, h.b3, h.b4, h.b6⟩
theorem DoL.size (h : DoL W cc z6 w) : W.heap.size + 1 + 1 < w.heap.size := (Array.getElem?_eq_some_iff.1 h.b6).1
theorem DoL.below (h : DoL W cc z6 w) (hb : Below w.heap.size w w') : DoL W cc z6 w' := by
  have hs := h.size
  exact ⟨h.bel.trans (hb.mono h.bel.size), (hb.block _ (by omega)).trans h.b3, (hb.block _ (by omega)).trans h.b4, (hb.block _ (by omega)).trans h.b6⟩
/-- A row of one's own grows. -/
theorem DoL.grown {t : TypeId} {size n : Nat} {v : Value} {xs : List Value} (h : DoL W cc z6 w) (hr : w.ownsRow W.heap.size t size v n xs) (h1 : t ≠ 26) (h2 : t ≠ 30) (hg : w.grownBy w' v.ownBlock) : DoL W cc z6 w' := by
  have hf : Fr (fun k => v.ownBlock = some k) w w' := (Fr.refl _ _).grown hg (fun k hk _ => hk)
  exact ⟨h.bel.grown hg h.bel.size (fun k hk => by
      rcases hr.2 with ⟨e1, _⟩ | ⟨g', cap, cur, e1, hb, _⟩
      · subst e1; simp [Value.ownBlock] at hk
      · subst e1; simp [Value.ownBlock] at hk; omega),
    hf.cells h.b3 (owns_ne hr h.b3 h1), hf.cells h.b4 (owns_ne hr h.b4 h2), hf.cells h.b6 (owns_ne hr h.b6 h2)⟩
theorem DoL.set6 (h : DoL W cc z6 w) (f : Nat) (u : Value) : DoL W cc (z6.setIfInBounds f u) (w.setCell ⟨W.heap.size + 1 + 1, f, none⟩ u) := by
  have hf := fr_set w (W.heap.size + 1 + 1) f u
  exact ⟨h.bel.trans (hf.below h.bel.size (fun k hk => by omega)), hf.cells h.b3 (by omega), hf.cells h.b4 (by omega), blk_set h.b6 u⟩
theorem DoL.own6 {t : TypeId} {base size n : Nat} {v : Value} {xs : List Value} (h : DoL W cc z6 w) (hr : w.ownsRow base t size v n xs) (h2 : t ≠ 30) (f : Nat) (u : Value) : (w.setCell ⟨W.heap.size + 1 + 1, f, none⟩ u).ownsRow base t size v n xs :=
  (fr_set w (W.heap.size + 1 + 1) f u).owns hr (info_apart hr h.b6 h2)
end
theorem DoL.own4 {W w : World} {cc z6 : Array Value} {t : TypeId} {base size n : Nat} {v : Value} {xs : List Value} (h : DoL W cc z6 w) (hr : w.ownsRow base t size v n xs) (h2 : t ≠ 30) (ys : Array Value) : (w.setRow (W.heap.size + 1) ys).ownsRow base t size v n xs :=
  (fr_rowx w (W.heap.size + 1) ys).owns hr (info_apart hr h.b4 h2)
theorem own_none {w : World} {base size n c : Nat} {e : TypeId} {A : Option Addr} {xs : List Value} (h : w.ownsRow base e size (.slice A n c) n xs) : A = none → c = 0 := by
  intro hA
  subst hA
  rcases h.2 with ⟨e1, _⟩ | ⟨g, cap, cur, e1, _⟩
  · injection e1
  · injection e1 with e1; cases e1
/-- Bytes of an answer in the making. -/
def ReadI (W : World) (cc : Array Value) (i : Nat) (w : World) : Prop := ∃ (v : Value) (L : List UInt8), DoL W cc #[.int .i64 0, .int .i64 0, .int .i64 0, .int .i64 0, v, .slice none 0 0] w ∧ L.length = i ∧ w.ownsRow W.heap.size 5 1 v i (bv L)
theorem own_two {w : World} {base size n c : Nat} {e : TypeId} {A : Option Addr} {xs : List Value} (h : w.ownsRow base e size (.slice A n c) n xs) : (A = none ∧ n = 0) ∨ ∃ b, A = some ⟨b, 0, none⟩ := by
  rcases h.2 with ⟨e1, h0⟩ | ⟨g, cap, cur, e1, _⟩
  · injection e1 with e1
    exact .inl ⟨e1, h0⟩
  · injection e1 with e1
    exact .inr ⟨g, e1⟩
/-- A file's bytes in the making: all that lay below b is as it was. -/
def WriteI (b gb M c : Nat) (W3 w : World) : Prop := Below b W3 w ∧ ∃ L : List UInt8, L.length = M ∧ w.ownsRow b 5 1 (.slice (some ⟨gb, 0, none⟩) M c) M (bv L)
theorem WriteI.set {gb M c : Nat} {W3 w : World} (h : WriteI W3.heap.size gb M c W3 w) (q : Nat) (z : UInt8) : WriteI W3.heap.size gb M c W3 (w.setCell ⟨gb, q, none⟩ (.int .u8 (z.toNat : Int))).drew := by
  obtain ⟨hb, L, hL, ho⟩ := h
  have hge : W3.heap.size ≤ gb := by
    rcases ho.2 with ⟨e1, _⟩ | ⟨g', cap, cur, e1, hg, _⟩
    · injection e1 with e1; cases e1
    · injection e1 with e1; injection e1 with e1; injection e1 with e1; omega
  refine ⟨(hb.trans ((fr_set w gb q _).below hb.size (fun k hk => by omega))).drew, L.set q z, by rw [List.length_set]; exact hL, ?_⟩
  have h := owns_setx (i := q) ho (.int .u8 (z.toNat : Int))
  have e : (bv L).set q (.int .u8 (z.toNat : Int)) = bv (L.set q z) := by unfold bv; rw [List.map_set]
  rw [e] at h
  exact h
def enames (es : List (ByteArray × Int)) : List Value := es.map fun e => Value.string e.1
theorem enames_app (a b : List (ByteArray × Int)) : enames (a ++ b) = enames a ++ enames b := by simp [enames]
theorem enames_one (a : ByteArray) (b : Int) : enames [(a, b)] = [.string a] := rfl
theorem sown_keep {W w : World} {base : Nat} {e : TypeId} {size n : Nat} {v : Value} {xs : List Value} (h : W.ownsRow base e size v n xs) (hb : Below W.heap.size W w) : w.ownsRow base e size v n xs := town_keep h hb
theorem info_strD : (Tryd.prog.info? 9).map (fun i => (i.zero, i.size, i.bytes)) = some (some (.string ⟨#[]⟩), 1, 16) := by kernel_rfl
end Go.Proofs.YtjkilpjdgjijiaaDoor
