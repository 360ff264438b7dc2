/- CallCodes: the walk. -/
import Derived.Test.YtjkilpjdgjijiaaDoorCqK
import Derived.Test.YtjkilpjdgjijiaaDoorCqI
import Derived.Test.YtjkilpjdgjijiaaDoorCqEr
import Derived.Test.YtjkilpjdgjijiaaDoorAnEr
import Derived.Test.YtjkilpjdgjijiaaDoorAnD
import Derived.Deep.CutRange
import Derived.Deep.RegionLaw
namespace Go.Proofs.YtjkilpjdgjijiaaDoor
open Go.RowKit
set_option linter.unusedVariables false
attribute [local go_sem] Oper.semAt_some

theorem flat400 : ∀ (ns : List ByteArray), (∀ s ∈ ns, s.size ≤ 400) → ((ns.map putS).flatten).length ≤ ns.length * 404
  | [], _ => by simp
  | a :: l, h => by
    have h1 := flat400 l (fun s hs => h s (List.mem_cons_of_mem _ hs))
    have h2 := h a List.mem_cons_self
    rw [List.map_cons, List.flatten_cons, List.length_append, putS_len, List.length_cons]
    omega
theorem encAn_len (y : An) (h : ∀ s ∈ y.ns, s.size ≤ 400) : (encAn y).length ≤ 40 + y.d.length + y.ns.length * 404 := by
  unfold encAn
  have h1 := flat400 y.ns h
  simp only [List.length_append, List.length_nil, lenBytes_len, be_len]
  omega
/-- Bytes that are newly made, out of a world behind W2. -/
def NewFrom (W2 : World) (L : List UInt8) (W : World) (e : Ending) (w' : World) : Prop := (∃ A c, e = .returned (.slice A L.length c) ∧ Own w' W2.heap.size (.slice A L.length c) L) ∧ Below W2.heap.size W2 w' ∧ Below W.heap.size W w'
theorem NewFrom.of {W2 W w' : World} {L : List UInt8} {e : Ending} (hb : Below W2.heap.size W2 W) (h : NewBytes W.heap.size L e w' ∧ Below W.heap.size W w') : NewFrom W2 L W e w' := by
  obtain ⟨⟨A, c, he, ho⟩, hb'⟩ := h
  exact ⟨⟨A, c, he, own_low ho hb.size⟩, hb.trans (hb'.mono hb.size), hb'⟩

theorem le_maxLen {n : Nat} (h : n ≤ 5000) : n ≤ maxLen := Nat.le_trans h (by unfold maxLen; omega)
theorem sameq_self (x : Cq) (A1 A2 : Option Addr) (c1 c2 : Nat) {n : Nat} (X W : World) (hb : Below X.heap.size X W) (h1 : Sl X X.heap.size A1 (bv x.d)) (h2 : Sl X n A2 (bv x.d)) (hn : n ≤ X.heap.size) (hl : x.d.length ≤ 4096) :
    Calls Tryd.prog 12 #[x.val A1 c1, x.val A2 c2] W fun e w' => e = .returned (.bool true) ∧ Below X.heap.size X w' := by
  have hm : x.d.length ≤ maxLen := le_maxLen (by omega)
  have h := sameq_any x x A1 A2 c1 c2 W.heap.size W ((h1.below hb).more hb.size) (((h2.more hn).below hb).more hb.size) hm hm (Nat.le_refl _)
  rw [(Cq.eqb_iff _ _).2 rfl] at h
  exact h.mono fun e w' ⟨he, h⟩ => ⟨he, hb.trans (h.mono hb.size)⟩
theorem samean_self (x : An) (A1 A2 A3 A4 : Option Addr) (c1 c2 c3 c4 : Nat) {n : Nat} (X W : World) (hb : Below X.heap.size X W) (h1 : Sl X X.heap.size A1 (bv x.d)) (h3 : Sl X X.heap.size A3 (x.ns.map Value.string)) (h2 : Sl X n A2 (bv x.d)) (h4 : Sl X n A4 (x.ns.map Value.string)) (hn : n ≤ X.heap.size) (hl : x.d.length ≤ 4096) (hk : x.ns.length ≤ 64) :
    Calls Tryd.prog 13 #[x.val A1 c1 A3 c3, x.val A2 c2 A4 c4] W fun e w' => e = .returned (.bool true) ∧ Below X.heap.size X w' := by
  have hm : x.d.length ≤ maxLen := le_maxLen (by omega)
  have hm2 : x.ns.length ≤ maxLen := le_maxLen (by omega)
  have h := samean_any x x A1 A2 A3 A4 c1 c2 c3 c4 W.heap.size W ((h1.below hb).more hb.size) (((h2.more hn).below hb).more hb.size) ((h3.below hb).more hb.size) (((h4.more hn).below hb).more hb.size) hm hm hm2 hm2 (Nat.le_refl _)
  rw [(An.eqb_iff _ _).2 rfl] at h
  exact h.mono fun e w' ⟨he, h⟩ => ⟨he, hb.trans (h.mono hb.size)⟩

set_option maxRecDepth 100000 in
set_option maxHeartbeats 8000000 in
theorem ccod_walk (x : Cq) (y : An) (A1 A2 A3 : Option Addr) (c1 c2 c3 : Nat) (m : Int) (w : World) (hT : Tab w) (hm : w.cell? ⟨1, 0, none⟩ = some (.int .i64 m))
    (h1 : Sl w w.heap.size A1 (bv x.d)) (n1 : A1 = none → c1 = 0) (h2 : Sl w w.heap.size A2 (bv y.d)) (n2 : A2 = none → c2 = 0) (h3 : Sl w w.heap.size A3 (y.ns.map Value.string))
    (xf : -9223372036854775808 ≤ x.f ∧ x.f ≤ 9223372036854775807) (xn : -9223372036854775808 ≤ x.n ∧ x.n ≤ 9223372036854775807)
    (ye : -9223372036854775808 ≤ y.e ∧ y.e ≤ 9223372036854775807) (yk : -9223372036854775808 ≤ y.k ∧ y.k ≤ 9223372036854775807) (ys : -9223372036854775808 ≤ y.s ∧ y.s ≤ 9223372036854775807) (yl : -9223372036854775808 ≤ y.l ∧ y.l ≤ 9223372036854775807) :
    Calls Tryd.prog 4 #[x.val A1 c1, y.val A2 c2 A3 c3] w fun en w' => en = .returned (.bool true) ∧ Below w.heap.size w w' := by
  have hmx := fun (W : World) (b : Below w.heap.size w W) => (b.cell (p := ⟨1, 0, none⟩) (World.block_lt_of_cell? w _ hm)).trans hm
  have hgx := World.block_lt_of_cell? w _ hm
  have HSPK := Lib.hid (fun (W : World) (b : Below w.heap.size w W) => speaks05 m W (hT.below hT.1 b) (hmx W b))
  have HGA := Lib.hid (fun (W : World) (b : Below w.heap.size w W) => great_call x y [] A1 A2 A3 none c1 c2 c3 0 w.heap.size W (h3.below b) b.size)
  have HEA := Lib.hid (fun (s : Small x y []) (W : World) (b : Below w.heap.size w W) => cqenc_ok x A1 c1 w.heap.size W (hT.below hT.1 b) (h1.below b) n1 b.size (Nat.le_trans s.p (by omega)) (Nat.le_trans s.o (by omega)) (Nat.le_trans s.d (by omega)))
  have HRA := Lib.hid (fun (s : Small x y []) (W : World) (b : Below w.heap.size w W) => rcqenc_ok x A1 c1 w.heap.size W (h1.below b) n1 b.size (Nat.le_trans s.p (by omega)) (Nat.le_trans s.o (by omega)) (Nat.le_trans s.d (by omega)))
  have HEB := Lib.hid (fun (s : Small x y []) (W : World) (b : Below w.heap.size w W) => anenc_ok y A2 c2 A3 c3 w.heap.size W (hT.below hT.1 b) (h2.below b) n2 (h3.below b) b.size (Nat.le_trans s.a (by omega)) (Nat.le_trans s.n (by omega)) (fun z hz => Nat.le_trans (s.ns z hz) (by omega)))
  have HRB := Lib.hid (fun (s : Small x y []) (W : World) (b : Below w.heap.size w W) => ranenc_ok y A2 c2 A3 c3 w.heap.size W (h2.below b) n2 (h3.below b) b.size (Nat.le_trans s.a (by omega)) (Nat.le_trans s.n (by omega)) (fun z hz => Nat.le_trans (s.ns z hz) (by omega)))
  have HS1 := Lib.hid (fun (s : Small x y []) (W : World) (b : Below w.heap.size w W) => stream_any x A1 c1 m W (hT.below hT.1 b) (Nat.le_trans s.p (by omega)) (Nat.le_trans s.o (by omega)) (hmx W b) (Nat.lt_of_lt_of_le hgx b.size))
  have HS2 := Lib.hid (fun (s : Small x y []) (W : World) => rstream_any x A1 c1 W (Nat.le_trans s.p (by omega)) (Nat.le_trans s.o (by omega)))
  have HLX : Hid (∀ s : Small x y [], (wrapped (encCq x)).length ≤ 10000) := Lib.hid (fun s => by
    have h1 := s.p; have h2 := s.o; have h3 := s.d
    rw [wrapped_len, encCq_len]; omega)
  have HLY : Hid (∀ s : Small x y [], (wrapped (encAn y)).length ≤ 40000) := Lib.hid (fun s => by
    have h1 := s.a; have h2 := s.n; have h3 := encAn_len y s.ns
    rw [wrapped_len]; omega)
  have HN70 : Hid (∀ s : Small x y [], y.ns.length ≤ 70) := Lib.hid (fun s => s.n)
  have HT := Lib.hid hT
  have hfx : ∀ (k : 0 ≤ x.k ∧ x.k ≤ 255) (p : x.p.size ≤ 300) (o : x.o.size ≤ 300) (d : x.d.length ≤ 4096), (unw (wrapped (encCq x))).bind decCq = some x := fun k p o d => by
    rw [unw_wrapped, Option.bind_some]
    exact decCq_enc x ⟨k, p, o, xf, xn, d⟩
  have hfy : ∀ (d : y.d.length ≤ 4096) (n : y.ns.length ≤ 64) (ns : ∀ s ∈ y.ns, s.size ≤ 300), (unw (wrapped (encAn y))).bind decAn = some y := fun d n ns => by
    rw [unw_wrapped, Option.bind_some]
    exact decAn_enc y ⟨ye, yk, ys, yl, d, n, ns⟩
  have HFX := Lib.hid hfx
  have HFY := Lib.hid hfy
  clear hfx hfy
  obtain ⟨LA, hLA⟩ : ∃ L, wrapped (encCq x) = L := ⟨_, rfl⟩
  obtain ⟨LB, hLB⟩ : ∃ L, wrapped (encAn y) = L := ⟨_, rfl⟩
  obtain ⟨st, hst⟩ : ∃ z, streamP x = z := ⟨_, rfl⟩
  rw [hLA] at HEA HRA HLX HFX
  rw [hLB] at HEB HRB HLY HFY
  rw [hst] at HS1 HS2
  obtain ⟨X, hX⟩ : ∃ X, x = X := ⟨_, rfl⟩
  obtain ⟨Y, hY⟩ : ∃ Y, y = Y := ⟨_, rfl⟩
  have HX := Lib.hid hX
  have HY := Lib.hid hY
  obtain ⟨SX, hSX⟩ : ∃ p : Prop, Small x y [] = p := ⟨_, rfl⟩
  have HSX := Lib.hid hSX
  rw [hSX] at HEA HRA HEB HRB HS1 HS2 HLX HLY HN70
  have HGA : Hid (∀ W : World, Below w.heap.size w W → Calls Tryd.prog 7 #[x.val A1 c1, y.val A2 c2 A3 c3, .slice none 0 0] W fun e w' => (∃ r, e = .returned (.bool r) ∧ (r = false → SX)) ∧ Below W.heap.size W w') := Lib.hid (fun W hb => by subst hSX; exact HGA.out W hb)
  have HH1 := Lib.hid h1
  have HH2 := Lib.hid h2
  have HH3 := Lib.hid h3
  clear hX hY hT hm hmx h1 n1 h2 n2 h3 hLA hLB hst hSX
  obtain ⟨a1, a2, a3, a4, a5, a6⟩ := x
  obtain ⟨b1, b2, b3, b4, b5, b6⟩ := y
  obtain ⟨na, hna⟩ : ∃ n, a6.length = n := ⟨_, rfl⟩
  obtain ⟨nb, hnb⟩ : ∃ n, b5.length = n := ⟨_, rfl⟩
  obtain ⟨nn, hnn⟩ : ∃ n, b6.length = n := ⟨_, rfl⟩
  have HNA := Lib.hid hna
  have HNB := Lib.hid hnb
  have HNN := Lib.hid hnn
  rw [show (Cq.val ⟨a1, a2, a3, a4, a5, a6⟩ A1 c1) = .agg #[.int .i64 a1, .string a2, .string a3, .int .i64 a4, .int .i64 a5, .slice A1 na c1] from by rw [← hna]] at HGA HEA HRA HS1 HS2 ⊢
  rw [show (An.val ⟨b1, b2, b3, b4, b5, b6⟩ A2 c2 A3 c3) = .agg #[.int .i64 b1, .int .i64 b2, .int .i64 b3, .int .i64 b4, .slice A2 nb c2, .slice A3 nn c3] from by rw [← hnb, ← hnn]] at HGA HEB HRB ⊢
  clear hna hnb hnn
  go_enter Tryd.func4, Tryd.ntmps4
  go_wp2_with fail
  have hba := (Blk.new w #[.int .i64 a1, .string a2, .string a3, .int .i64 a4, .int .i64 a5, .slice A1 na c1] 26).alloc (.cells #[.int .i64 b1, .int .i64 b2, .int .i64 b3, .int .i64 b4, .slice A2 nb c2, .slice A3 nn c3] 30)
  have hbb := Blk.new (w.alloc (.cells #[.int .i64 a1, .string a2, .string a3, .int .i64 a4, .int .i64 a5, .slice A1 na c1] 26)) #[.int .i64 b1, .int .i64 b2, .int .i64 b3, .int .i64 b4, .slice A2 nb c2, .slice A3 nn c3] 30
  refine (HSPK.out _ (((Below.refl _ _).alloc (Nat.le_refl _) _).alloc (by simp) _)).mono ?_
  rintro e W0 ⟨rfl, B0⟩
  rw [World.size_alloc] at hbb
  have hba0 := hba.belowAll B0
  have hbb0 := hbb.belowAll B0
  have hqa0 := hba0.cell
  have hqb0 := hbb0.cell
  have B0 : Below w.heap.size w W0 := (((Below.refl _ _).alloc (Nat.le_refl _) _).alloc (by simp) _).trans (B0.mono (by simp; omega))
  clear hba hbb
  go_wp2_with fail
  refine (HGA.out W0 B0).mono ?_
  rintro e W2 ⟨⟨ga, rfl, hga⟩, hb2⟩
  have B2 := B0.trans (hb2.mono B0.size)
  have HXS0 := Lib.hid hga
  clear hga
  cases ga with
  | true =>
    go_wp2_with fail
    go_ret
    exact ⟨rfl, B2⟩
  | false =>
    have HXS := Lib.hid (HXS0.out rfl)
    clear HXS0
    have hba2 := hba0.belowAll hb2
    have hbb2 := hbb0.belowAll hb2
    have hqa2 := hba2.cell
    have hqb2 := hbb2.cell
    clear hqa0 hqb0 hba0 hbb0 hb2
    have HLA := Lib.hid (HLX.out HXS.out)
    have HLB := Lib.hid (HLY.out HXS.out)
    have HCA : Hid (∀ W, Below W2.heap.size W2 W → Calls Tryd.prog 14 #[.agg #[.int .i64 a1, .string a2, .string a3, .int .i64 a4, .int .i64 a5, .slice A1 na c1]] W (NewFrom W2 LA W)) := Lib.hid (fun W hb => (HEA.out HXS.out W (B2.trans (hb.mono B2.size))).mono fun e w' h => NewFrom.of hb h)
    have HCB : Hid (∀ W, Below W2.heap.size W2 W → Calls Tryd.prog 15 #[.agg #[.int .i64 b1, .int .i64 b2, .int .i64 b3, .int .i64 b4, .slice A2 nb c2, .slice A3 nn c3]] W (NewFrom W2 LB W)) := Lib.hid (fun W hb => (HEB.out HXS.out W (B2.trans (hb.mono B2.size))).mono fun e w' h => NewFrom.of hb h)
    have HKA := Lib.hid (hba2)
    have HKB := Lib.hid (hbb2)
    have HGE := Lib.hid (B2.size)
    have HB2 := Lib.hid B2
    clear HLX HLY HEA HEB HGA HSPK B0 B2 hba2 hbb2
    go_upto_region 5 with fail
    go_cut [5, 6] from 19 to 22 (fun s5 s6 wx => ∃ A5 c5 A6 c6, s5 = .slice A5 LA.length c5 ∧ s6 = .slice A6 LB.length c6 ∧ Hid (Own wx W2.heap.size (.slice A5 LA.length c5) LA) ∧ Hid (Own wx W2.heap.size (.slice A6 LB.length c6) LB) ∧ Hid (Below W2.heap.size W2 wx))
    case first =>
      have hD : Below W2.heap.size W2 W2.drew := (Below.refl _ _).drew
      go_region_law
        (first
          | (go_simp; go_at_call 14
             with_reducible refine (HCA.out _ (by first | exact bB | exact hD)).mono ?_
             rintro e1 WA ⟨⟨A5, c5, rfl, hoA⟩, bA, hbA⟩
             have hqbA := (HKB.out.below bA HKB.out.lt).cell)
          | (go_simp; go_at_call 15
             with_reducible refine (HCB.out _ (by first | exact bA | exact hD)).mono ?_
             rintro e1 WB ⟨⟨A6, c6, rfl, hoB⟩, bB, hbB⟩
             have hqaB := (HKA.out.below bB HKA.out.lt).cell))
      all_goals
        go_wp2_with fail
        go_meet
        first
          | exact ⟨A5, c5, A6, c6, rfl, rfl, Lib.hid (Own.below hoA hbB), Lib.hid hoB, Lib.hid bB⟩
          | exact ⟨A5, c5, A6, c6, rfl, rfl, Lib.hid hoA, Lib.hid (Own.below hoB hbA), Lib.hid bA⟩
    case rest =>
      obtain ⟨W4, rfl⟩ : ∃ W, W = wc := ⟨_, rfl⟩
      obtain ⟨A5, c5, A6, c6, rfl, rfl, HO5, HO6, HBC⟩ := hcut
      clear HCA HCB hqa2 hqb2
      have hba4 := HKA.out.below HBC.out HKA.out.lt
      have hbb4 := HKB.out.below HBC.out HKB.out.lt
      have hqa4 := hba4.cell
      have hqb4 := hbb4.cell
      have B4 := HB2.out.trans (HBC.out.mono HGE.out)
      have HKA4 := Lib.hid hba4
      have HKB4 := Lib.hid hbb4
      have HB4 := Lib.hid B4
      have HRA4 : Hid (∀ W, Below W4.heap.size W4 W → Calls Tryd.prog 17 #[.agg #[.int .i64 a1, .string a2, .string a3, .int .i64 a4, .int .i64 a5, .slice A1 na c1]] W (NewFrom W4 LA W)) := Lib.hid (fun W hb => (HRA.out HXS.out W (B4.trans (hb.mono B4.size))).mono fun e w' h => NewFrom.of hb h)
      have HRB4 : Hid (∀ W, Below W4.heap.size W4 W → Calls Tryd.prog 18 #[.agg #[.int .i64 b1, .int .i64 b2, .int .i64 b3, .int .i64 b4, .slice A2 nb c2, .slice A3 nn c3]] W (NewFrom W4 LB W)) := Lib.hid (fun W hb => (HRB.out HXS.out W (B4.trans (hb.mono B4.size))).mono fun e w' h => NewFrom.of hb h)
      clear hba4 hbb4 B4
      go_upto_region 6 with fail
      have HMA : Hid (∀ (W : World) (A : Option Addr) (c : Nat), Below W4.heap.size W4 W → Own W W4.heap.size (.slice A LA.length c) LA → Calls Tryd.prog 16 #[.slice A5 LA.length c5, .slice A LA.length c] W fun e w' => e = .returned (.bool true) ∧ Below W4.heap.size W4 w') := Lib.hid (fun W A c hb ho => by
        have h := same_any A5 A c5 c W.heap.size LA LA W (Sl.of_own (Own.below HO5.out hb)) (Sl.of_own ho) (Nat.le_trans HLA.out (by unfold maxLen; omega)) (Nat.le_trans HLA.out (by unfold maxLen; omega))
        exact h.mono fun e w' ⟨he, n, hn⟩ => ⟨by rw [he, decide_eq_true rfl], by rw [hn]; exact bdrewN hb n⟩)
      have HMB : Hid (∀ (W : World) (A : Option Addr) (c : Nat), Below W4.heap.size W4 W → Own W W4.heap.size (.slice A LB.length c) LB → Calls Tryd.prog 16 #[.slice A6 LB.length c6, .slice A LB.length c] W fun e w' => e = .returned (.bool true) ∧ Below W4.heap.size W4 w') := Lib.hid (fun W A c hb ho => by
        have h := same_any A6 A c6 c W.heap.size LB LB W (Sl.of_own (Own.below HO6.out hb)) (Sl.of_own ho) (Nat.le_trans HLB.out (by unfold maxLen; omega)) (Nat.le_trans HLB.out (by unfold maxLen; omega))
        exact h.mono fun e w' ⟨he, n, hn⟩ => ⟨by rw [he, decide_eq_true rfl], by rw [hn]; exact bdrewN hb n⟩)
      have HT1 : Hid (∀ W, Below W4.heap.size W4 W → Calls Tryd.prog 19 #[.agg #[.int .i64 a1, .string a2, .string a3, .int .i64 a4, .int .i64 a5, .slice A1 na c1]] W fun e w' => e = .returned (.int .i64 st) ∧ Below W4.heap.size W4 w') := Lib.hid (fun W hb => (HS1.out HXS.out W (HB4.out.trans (hb.mono HB4.out.size))).mono fun e w' ⟨he, h⟩ => ⟨he, hb.trans (h.mono hb.size)⟩)
      have HT2 : Hid (∀ W, Below W4.heap.size W4 W → Calls Tryd.prog 20 #[.agg #[.int .i64 a1, .string a2, .string a3, .int .i64 a4, .int .i64 a5, .slice A1 na c1]] W fun e w' => e = .returned (.int .i64 st) ∧ Below W4.heap.size W4 w') := Lib.hid (fun W hb => (HS2.out HXS.out W).mono fun e w' ⟨he, h⟩ => ⟨he, hb.trans (h.mono hb.size)⟩)
      clear HRA HRB HS1 HS2
      go_cut [41] from 23 to 40 (fun s41 wx => s41 = .bool false ∧ Hid (Below W4.heap.size W4 wx))
      case first =>
        have hD : Below W4.heap.size W4 W4.drew := (Below.refl _ _).drew
        go_region_law
          (first
            | (go_simp; go_at_call 17
               with_reducible refine (HRA4.out _ (by first | exact hD | assumption)).mono ?_
               rintro e1 W7 ⟨⟨A7, c7, rfl, ho7⟩, b7, hb7⟩
               have hq7a := (HKA4.out.below b7 HKA4.out.lt).cell
               have hq7b := (HKB4.out.below b7 HKB4.out.lt).cell)
            | (go_simp; go_at_call 18
               with_reducible refine (HRB4.out _ (by first | exact hD | assumption)).mono ?_
               rintro e1 W8 ⟨⟨A8, c8, rfl, ho8⟩, b8, hb8⟩
               have hq8a := (HKA4.out.below b8 HKA4.out.lt).cell
               have hq8b := (HKB4.out.below b8 HKB4.out.lt).cell)
            | (go_simp; go_at_call 16
               first
                 | with_reducible refine (HMA.out _ _ _ (by first | exact hD | assumption) (by assumption)).mono ?_
                 | with_reducible refine (HMB.out _ _ _ (by first | exact hD | assumption) (by assumption)).mono ?_
               rintro e1 W9 ⟨rfl, b9⟩
               have hq9a := (HKA4.out.below b9 HKA4.out.lt).cell
               have hq9b := (HKB4.out.below b9 HKB4.out.lt).cell)
            | (go_simp; go_at_call 19
               with_reducible refine (HT1.out _ (by first | exact hD | assumption)).mono ?_
               rintro e1 WC ⟨rfl, bC⟩
               have hqCa := (HKA4.out.below bC HKA4.out.lt).cell
               have hqCb := (HKB4.out.below bC HKB4.out.lt).cell)
            | (go_simp; go_at_call 20
               with_reducible refine (HT2.out _ (by first | exact hD | assumption)).mono ?_
               rintro e1 WD ⟨rfl, bD⟩
               have hqDa := (HKA4.out.below bD HKA4.out.lt).cell
               have hqDb := (HKB4.out.below bD HKB4.out.lt).cell))
        all_goals
          go_wp2_with fail
          go_meet
          exact ⟨rfl, Lib.hid (by assumption)⟩
      case rest =>
        obtain ⟨rfl, HBE⟩ := hcut
        obtain ⟨W5, rfl⟩ : ∃ W, W = wc := ⟨_, rfl⟩
        have HB5 := Lib.hid (HB4.out.trans (HBE.out.mono HB4.out.size))
        have HO65 := Lib.hid (Own.below HO6.out HBE.out)
        have HO55 := Lib.hid (Own.below HO5.out HBE.out)
        have HKA5 := Lib.hid (HKA4.out.below HBE.out HKA4.out.lt)
        have HKB5 := Lib.hid (HKB4.out.below HBE.out HKB4.out.lt)
        clear hqa4 hqb4 HRA4 HRB4 HMA HMB HT1 HT2 HO5 HO6 HKA4 HKB4 HKA HKB HBC
        obtain ⟨o, ho⟩ : ∃ o, (unw LA).bind decCq = o := ⟨_, rfl⟩
        have HOC := Lib.hid ho
        have hdq : Calls Tryd.prog 8 #[.slice A5 LA.length c5] W5 (DecC o W5) := by
          rw [← ho]
          exact cqdec_any A5 c5 W5.heap.size LA W5 (HT.out.below HT.out.1 HB5.out) (Sl.of_own HO55.out) (own_capC HO55.out) (Nat.le_trans HLA.out (by omega)) (Nat.le_refl _)
        have HDQ := Lib.hid hdq
        have HFX : Hid (0 ≤ a1 ∧ a1 ≤ 255 → a2.size ≤ 300 → a3.size ≤ 300 → a6.length ≤ 4096 → o = some ⟨a1, a2, a3, a4, a5, a6⟩) := Lib.hid (by rw [← ho]; exact HFX.out)
        clear ho hdq
        go_wp2_with fail
        refine HDQ.out.mono ?_
        rintro e W6 ⟨A7, c7, he, hb6, ho7⟩
        obtain ⟨D, hD⟩ : ∃ D, o.getD zCq = D := ⟨_, rfl⟩
        obtain ⟨ke, hke⟩ : ∃ kk : Int, (if o.isSome then 0 else 3) = kk := ⟨_, rfl⟩
        rw [hD, hke] at he
        rw [hD] at ho7
        have HFD : Hid (0 ≤ a1 ∧ a1 ≤ 255 → a2.size ≤ 300 → a3.size ≤ 300 → a6.length ≤ 4096 → ke = 0 ∧ D = ⟨a1, a2, a3, a4, a5, a6⟩) := Lib.hid (fun k1 k2 k3 k4 => by
          have h := HFX.out k1 k2 k3 k4
          rw [h] at hD hke
          exact ⟨hke.symm, hD.symm⟩)
        clear hD hke HFX
        obtain ⟨d1, d2, d3, d4, d5, d6⟩ := D
        obtain ⟨nd, hnd⟩ : ∃ n, d6.length = n := ⟨_, rfl⟩
        have he : e = .returned (.tuple #[.agg #[.int .i64 d1, .string d2, .string d3, .int .i64 d4, .int .i64 d5, .slice A7 d6.length c7], .int .i64 ke]) := he
        rw [hnd] at he
        subst he
        have HND := Lib.hid hnd
        have HSD := Lib.hid (Sl.of_own ho7)
        have HB6 := Lib.hid (HB5.out.trans (hb6.mono HB5.out.size))
        have HBC6 := Lib.hid hb6
        clear hnd ho7 hb6
        have hbd : Blk (W6.alloc (.cells #[.int .i64 d1, .string d2, .string d3, .int .i64 d4, .int .i64 d5, .slice A7 nd c7] 26)) W6.heap.size #[.int .i64 d1, .string d2, .string d3, .int .i64 d4, .int .i64 d5, .slice A7 nd c7] := Blk.new W6 _ _
        have hbx : Below W5.heap.size W5 (W6.alloc (.cells #[.int .i64 d1, .string d2, .string d3, .int .i64 d4, .int .i64 d5, .slice A7 nd c7] 26)) := HBC6.out.alloc HBC6.out.size _
        go_upto_region 9 with fail
        obtain ⟨X6, hX6⟩ : ∃ X, W6.alloc (.cells #[.int .i64 d1, .string d2, .string d3, .int .i64 d4, .int .i64 d5, .slice A7 nd c7] 26) = X := ⟨_, rfl⟩
        obtain ⟨bd, hbdn⟩ : ∃ b, W6.heap.size = b := ⟨_, rfl⟩
        rw [hX6] at hbd hbx ⊢
        rw [hbdn] at hbd ⊢
        have HSD6 : Hid (Sl X6 X6.heap.size A7 (bv d6)) := Lib.hid (by
          rw [← hX6]
          exact (HSD.out.alloc (Nat.le_refl _) _).more (by simp))
        have HX6 := Lib.hid (HB5.out.trans (hbx.mono HB5.out.size))
        have HO66 := Lib.hid (Own.below HO65.out hbx)
        have HKD6 := Lib.hid hbd
        have HKA6 := Lib.hid (HKA5.out.below hbx HKA5.out.lt)
        have HKB6 := Lib.hid (HKB5.out.below hbx HKB5.out.lt)
        have hqd6 := hbd.cell
        have hqa6 := HKA6.out.cell
        have hld6 := hbd.lt
        have hla6 := HKA6.out.lt
        clear hX6 hbdn hbd hbx HKA5 HKB5 HO55 HO65 HSD HBC6
        go_cut [82] from 47 to 81 (fun s82 wx => s82 = .bool false ∧ Hid (Below X6.heap.size X6 wx))
        case first =>
          by_cases k1 : 0 ≤ a1
          · by_cases k2 : a1 < 256
            · by_cases k3 : (a2.size : Int) ≤ 300
              · by_cases k4 : (a3.size : Int) ≤ 300
                · by_cases k5 : (na : Int) ≤ 4096
                  · obtain ⟨hke, hD⟩ := HFD.out ⟨k1, by omega⟩ (by omega) (by omega) (by rw [HNA.out]; omega)
                    obtain ⟨rfl, rfl, rfl, rfl, rfl, rfl⟩ := Cq.mk.inj hD
                    subst hke
                    have HSM : Hid (∀ W : World, Below X6.heap.size X6 W → Calls Tryd.prog 12 #[.agg #[.int .i64 d1, .string d2, .string d3, .int .i64 d4, .int .i64 d5, .slice A7 nd c7], .agg #[.int .i64 d1, .string d2, .string d3, .int .i64 d4, .int .i64 d5, .slice A1 na c1]] W fun e w' => e = .returned (.bool true) ∧ Below X6.heap.size X6 w') := Lib.hid (fun W hb => by
                      have hnd := HND.out
                      have hna := HNA.out
                      subst hnd
                      have hl : d6.length ≤ 4096 := by omega
                      have h := sameq_self ⟨d1, d2, d3, d4, d5, d6⟩ A7 A1 c7 c1 X6 W hb HSD6.out (HH1.out.below HX6.out) HX6.out.size hl
                      rw [← hna]
                      exact h)
                    clear hD
                    go_wp2_with fail
                    refine (HSM.out _ (Below.refl _ _)).mono ?_
                    rintro e X7 ⟨rfl, HBX7⟩
                    have HBX7 := Lib.hid HBX7
                    go_wp2_with fail
                    go_meet
                    exact ⟨rfl, HBX7⟩
                  · go_wp2_with fail
                    go_meet
                    exact ⟨rfl, Lib.hid (Below.refl _ _)⟩
                · go_wp2_with fail
                  go_meet
                  exact ⟨rfl, Lib.hid (Below.refl _ _)⟩
              · go_wp2_with fail
                go_meet
                exact ⟨rfl, Lib.hid (Below.refl _ _)⟩
            · go_wp2_with fail
              go_meet
              exact ⟨rfl, Lib.hid (Below.refl _ _)⟩
          · go_wp2_with fail
            go_meet
            exact ⟨rfl, Lib.hid (Below.refl _ _)⟩
        case rest =>
          obtain ⟨rfl, HBF⟩ := hcut
          obtain ⟨W8, rfl⟩ : ∃ W, W = wc := ⟨_, rfl⟩
          have HB8 := Lib.hid (HX6.out.trans (HBF.out.mono HX6.out.size))
          have HO68 := Lib.hid (Own.below HO66.out HBF.out)
          have HKB8 := Lib.hid (HKB6.out.below HBF.out HKB6.out.lt)
          clear HSD6 HX6 HO66 HKD6 HKA6 HKB6 hqd6 hqa6 hld6 hla6 HFD HBF HND
          obtain ⟨o, ho⟩ : ∃ o, (unw LB).bind decAn = o := ⟨_, rfl⟩
          have hdq : Calls Tryd.prog 10 #[.slice A6 LB.length c6] W8 (DecA o W8) := by
            rw [← ho]
            exact andec_any A6 c6 W8.heap.size LB W8 (HT.out.below HT.out.1 HB8.out) (Sl.of_own HO68.out) (own_capC HO68.out) (Nat.le_trans HLB.out (by omega)) (Nat.le_refl _)
          have HDA := Lib.hid hdq
          have HFY : Hid (b5.length ≤ 4096 → b6.length ≤ 64 → (∀ s ∈ b6, s.size ≤ 300) → o = some ⟨b1, b2, b3, b4, b5, b6⟩) := Lib.hid (by rw [← ho]; exact HFY.out)
          clear ho hdq
          go_wp2_with fail
          refine HDA.out.mono ?_
          rintro e W9 ⟨A8, c8, A9, c9, he, hb9, ho8, ho9⟩
          obtain ⟨E, hE⟩ : ∃ D, o.getD zAn = D := ⟨_, rfl⟩
          obtain ⟨kf, hkf⟩ : ∃ kk : Int, (if o.isSome then 0 else 3) = kk := ⟨_, rfl⟩
          rw [hE, hkf] at he
          rw [hE] at ho8 ho9
          have HFE : Hid (b5.length ≤ 4096 → b6.length ≤ 64 → (∀ s ∈ b6, s.size ≤ 300) → kf = 0 ∧ E = ⟨b1, b2, b3, b4, b5, b6⟩) := Lib.hid (fun k1 k2 k3 => by
            have h := HFY.out k1 k2 k3
            rw [h] at hE hkf
            exact ⟨hkf.symm, hE.symm⟩)
          clear hE hkf HFY
          obtain ⟨e1, e2, e3, e4, e5, e6⟩ := E
          obtain ⟨ne, hne⟩ : ∃ n, e5.length = n := ⟨_, rfl⟩
          obtain ⟨nf, hnf⟩ : ∃ n, e6.length = n := ⟨_, rfl⟩
          have he : e = .returned (.tuple #[.agg #[.int .i64 e1, .int .i64 e2, .int .i64 e3, .int .i64 e4, .slice A8 e5.length c8, .slice A9 e6.length c9], .int .i64 kf]) := he
          rw [hne, hnf] at he
          subst he
          have HNE := Lib.hid hne
          have HNF := Lib.hid hnf
          have HSE := Lib.hid (Sl.of_own ho8)
          have HSF := Lib.hid (Sl.of_own ho9)
          have HB9 := Lib.hid (HB8.out.trans (hb9.mono HB8.out.size))
          have HBC9 := Lib.hid hb9
          clear hne hnf ho8 ho9 hb9
          have hbe : Blk (W9.alloc (.cells #[.int .i64 e1, .int .i64 e2, .int .i64 e3, .int .i64 e4, .slice A8 ne c8, .slice A9 nf c9] 30)) W9.heap.size #[.int .i64 e1, .int .i64 e2, .int .i64 e3, .int .i64 e4, .slice A8 ne c8, .slice A9 nf c9] := Blk.new W9 _ _
          have hbx : Below W8.heap.size W8 (W9.alloc (.cells #[.int .i64 e1, .int .i64 e2, .int .i64 e3, .int .i64 e4, .slice A8 ne c8, .slice A9 nf c9] 30)) := HBC9.out.alloc HBC9.out.size _
          have hqb9 := (HKB8.out.below hbx HKB8.out.lt).cell
          go_upto_region 12 with fail
          obtain ⟨X9, hX9⟩ : ∃ X, W9.alloc (.cells #[.int .i64 e1, .int .i64 e2, .int .i64 e3, .int .i64 e4, .slice A8 ne c8, .slice A9 nf c9] 30) = X := ⟨_, rfl⟩
          obtain ⟨be, hben⟩ : ∃ b, W9.heap.size = b := ⟨_, rfl⟩
          rw [hX9] at hbe hbx hqb9 ⊢
          rw [hben] at hbe ⊢
          have HSE9 : Hid (Sl X9 X9.heap.size A8 (bv e5)) := Lib.hid (by
            rw [← hX9]
            exact (HSE.out.alloc (Nat.le_refl _) _).more (by simp))
          have HSF9 : Hid (Sl X9 X9.heap.size A9 (e6.map Value.string)) := Lib.hid (by
            rw [← hX9]
            exact (HSF.out.alloc (Nat.le_refl _) _).more (by simp))
          have HX9 := Lib.hid (HB8.out.trans (hbx.mono HB8.out.size))
          have HN9 : Hid (Sl X9 X9.heap.size A3 (b6.map Value.string)) := Lib.hid ((HH3.out.below HX9.out).more HX9.out.size)
          have HKE := Lib.hid hbe
          have hqe9 := hbe.cell
          clear hX9 hben hbx HBC9 HO68 HKB8 hbe HSE HSF
          go_cut [11] from 88 to 97 (fun s11 wx => wx = X9 ∧ ∃ t : Bool, s11 = .bool t ∧ Hid (t = true → nb ≤ 4096 ∧ nn ≤ 64))
          case first =>
            by_cases k1 : (nb : Int) ≤ 4096
            · by_cases k2 : (nn : Int) ≤ 64
              · go_wp2_with fail
                go_meet
                exact ⟨rfl, true, rfl, Lib.hid (fun _ => ⟨by omega, by omega⟩)⟩
              · go_wp2_with fail
                go_meet
                exact ⟨rfl, false, rfl, Lib.hid (fun h => by cases h)⟩
            · go_wp2_with fail
              go_meet
              exact ⟨rfl, false, rfl, Lib.hid (fun h => by cases h)⟩
          case rest =>
            obtain ⟨rfl, t0, rfl, HT0⟩ := hcut
            obtain ⟨X9, rfl⟩ : ∃ X, X = wc := ⟨_, rfl⟩
            have t70 : ¬ ((70 : Int) < (nn : Int)) := by
              have h := HN70.out HXS.out
              have h2 := HNN.out
              have h3 : nn ≤ 70 := by rw [← h2]; exact h
              omega
            go_wp2_with fail
            go_loopw [11, 101] (fun s11 s wr => ∃ (i : Nat) (t : Bool), i ≤ nn ∧ s = .int .i64 (i : Int) ∧ s11 = .bool t ∧ wr = X9 ∧ Hid (t = true → nb ≤ 4096 ∧ nn ≤ 64 ∧ ∀ s ∈ b6.take i, s.size ≤ 300)) (fun _ s _ => nn - (intOf s).toNat)
            case atStart => exact ⟨0, t0, Nat.zero_le _, rfl, rfl, rfl, Lib.hid (fun h => ⟨(HT0.out h).1, (HT0.out h).2, by simp⟩)⟩
            case round =>
              obtain ⟨i, t, hi, rfl, rfl, rfl, HS⟩ := hrel
              by_cases hlt : i < nn
              · have hi1 : (i : Int) < (nn : Int) := by omega
                have hil : i < b6.length := by rw [HNN.out]; exact hlt
                obtain ⟨b1', o1, rfl, hb1, hc1⟩ := HN9.out.at (k := i) (by simpa using hil)
                have e1' : (b6.map Value.string)[i]'(by simpa using hil) = .string b6[i] := by simp
                rw [e1'] at hc1
                have HTK : Hid (b6.take (i + 1) = b6.take i ++ [b6[i]]) := List.take_succ_eq_append_getElem hil
                obtain ⟨z, hz⟩ : ∃ z, b6[i] = z := ⟨_, rfl⟩
                rw [hz] at hc1 HTK
                clear e1' hz
                cases t with
                | false =>
                  go_wp2_with fail
                  go_roundw
                  case rel => exact ⟨i + 1, false, by omega, by go_num, by trivial, by trivial, Lib.hid (fun h => by cases h)⟩
                  case measure => simp [intOf]; omega
                | true =>
                  by_cases h12 : (z.size : Int) ≤ 300
                  · have HZ : Hid (z.size ≤ 300) := by show _ ≤ _; omega
                    go_wp2_with fail
                    go_roundw
                    case rel =>
                      refine ⟨i + 1, true, by omega, by go_num, by trivial, by trivial, Lib.hid (fun h => ⟨(HS.out h).1, (HS.out h).2.1, ?_⟩)⟩
                      intro r hr
                      rw [HTK.out] at hr
                      rcases List.mem_append.1 hr with hr | hr
                      · exact (HS.out h).2.2 r hr
                      · rw [List.mem_singleton.1 hr]
                        exact HZ.out
                    case measure => simp [intOf]; omega
                  · go_wp2_with fail
                    go_roundw
                    case rel => exact ⟨i + 1, false, by omega, by go_num, by trivial, by trivial, Lib.hid (fun h => by cases h)⟩
                    case measure => simp [intOf]; omega
              · obtain rfl : i = nn := by omega
                have hend : ¬ ((i : Int) < (i : Int)) := by omega
                cases t with
                | false =>
                  go_wp2_with fail
                  go_ret
                  exact ⟨rfl, HX9.out⟩
                | true =>
                  obtain ⟨k1, k2, k3⟩ := HS.out rfl
                  rw [List.take_of_length_le (Nat.le_of_eq HNN.out)] at k3
                  obtain ⟨hkf, hE⟩ := HFE.out (by rw [HNB.out]; exact k1) (by rw [HNN.out]; exact k2) k3
                  obtain ⟨rfl, rfl, rfl, rfl, rfl, rfl⟩ := An.mk.inj hE
                  subst hkf
                  have HSM : Hid (∀ W : World, Below wr.heap.size wr W → Calls Tryd.prog 13 #[.agg #[.int .i64 e1, .int .i64 e2, .int .i64 e3, .int .i64 e4, .slice A8 ne c8, .slice A9 nf c9], .agg #[.int .i64 e1, .int .i64 e2, .int .i64 e3, .int .i64 e4, .slice A2 nb c2, .slice A3 i c3]] W fun e w' => e = .returned (.bool true) ∧ Below wr.heap.size wr w') := Lib.hid (fun W hb => by
                    have hne := HNE.out
                    have hnf := HNF.out
                    have hnb := HNB.out
                    have hnn := HNN.out
                    have hl : e5.length ≤ 4096 := by omega
                    have hk : e6.length ≤ 64 := by omega
                    have h := samean_self ⟨e1, e2, e3, e4, e5, e6⟩ A8 A2 A9 A3 c8 c2 c9 c3 wr W hb HSE9.out HSF9.out ((HH2.out.below HX9.out).more HX9.out.size) HN9.out (Nat.le_refl _) hl hk
                    have hv1 : (An.val ⟨e1, e2, e3, e4, e5, e6⟩ A8 c8 A9 c9) = .agg #[.int .i64 e1, .int .i64 e2, .int .i64 e3, .int .i64 e4, .slice A8 ne c8, .slice A9 nf c9] := by rw [← hne, ← hnf]
                    have hv2 : (An.val ⟨e1, e2, e3, e4, e5, e6⟩ A2 c2 A3 c3) = .agg #[.int .i64 e1, .int .i64 e2, .int .i64 e3, .int .i64 e4, .slice A2 nb c2, .slice A3 i c3] := by rw [← hnb, ← hnn]
                    rw [hv1, hv2] at h
                    exact h)
                  clear hE k1 k2 k3 HS
                  go_wp2_with fail
                  refine (HSM.out _ (Below.refl _ _)).mono ?_
                  rintro e W10 ⟨rfl, HBX⟩
                  have HBX := Lib.hid HBX
                  go_wp2_with fail
                  go_ret
                  exact ⟨rfl, HX9.out.trans (HBX.out.mono HX9.out.size)⟩
end Go.Proofs.YtjkilpjdgjijiaaDoor
