/- tidelinelaw02.CheckParts: the walk. -/
import Derived.Test.YtocifijoogeafaaDoorCsum
import Derived.Test.YtocifijoogeafaaDoorFrame
import Derived.Test.YtocifijoogeafaaDoorClone
import Derived.StillTailTactics
import Derived.Laws.OwnMore
import Derived.Deep.OwnRows
namespace Go.Proofs.YtocifijoogeafaaDoor
open Go.RowKit
set_option linter.unusedVariables false

theorem owns_ge {w : World} {v : Value} {base e size n : Nat} {xs : List Value} (h : w.ownsRow base e size v n xs) : ∀ k, v.ownBlock = some k → base ≤ k := by
  intro k hk
  rcases h.2 with ⟨rfl, _⟩ | ⟨g', cap, cur, rfl, hb, _⟩
  · simp [Value.ownBlock] at hk
  · simp [Value.ownBlock] at hk; omega

/-- append(v, x...) of bytes that came in, nil or not, onto bytes that the call has made. -/
theorem wpList_append_bytes {ops : Array Oper} {rest : List Oper} {o : Oper} {a : Act} {w : World} {Q : Exit → Act → World → Prop} (hg : o.guard = none) (s x : Operand)
    (hop : o.op = .call { callee := .builtin .append, args := #[s, x], argTypes := #[22, 22] })
    (base : Nat) (v : Value) (n : Nat) (xs : List UInt8) (hs : a.eval s = v) (hown : w.ownsRow base 5 1 v n (bv xs))
    (A : Option Addr) (c B : Nat) (l : List UInt8) (hx : a.eval x = .slice A l.length c) (hn : A = none → c = 0) (hsl : Sl w B A (bv l)) (hl : n + l.length ≤ 70368744177664) (hbase : base ≤ w.heap.size)
    (hK : ∀ v' w', w'.ownsRow base 5 1 v' (n + l.length) (bv (xs ++ l)) → Below base w w' → wpList Tryd.prog ops Q rest (a.put o.dst v') w') : wpList Tryd.prog ops Q (o :: rest) a w := by
  obtain ⟨i0, hi, hz0, hz1, hz2⟩ := info_parts Tryd.info_u8
  cases A with
  | some ad =>
    refine wpList_append_own w hg s x 22 hop base 5 i0 (.int .u8 0) 1 1 Tryd.underlying22 hi hz0 hz1 hz2 rfl (by decide) v n (bv xs) hs hown ad l.length c (bv l) hx (by rw [bv_len, Nat.mul_one]) hsl.news (bv_one l) (by unfold maxLen; omega) (by omega) hbase ?_
    intro v' w' h1 h2 _
    refine hK v' w' (by rw [bv_app]; exact h1) ?_
    exact (Below.refl _ _).grown h2 hbase (fun k hk => owns_ge hown k hk)
  | none =>
    obtain rfl := hn rfl
    have hl0 : l = [] := by
      rcases hsl with h | ⟨b, o, e, _⟩
      · simpa [bv] using h
      · cases e
    subst hl0
    refine wpList_plain hg fun K hK' => ?_
    have hr := run_append_owned_none (P := Tryd.prog) w base 22 o.type 5 i0 1 Tryd.underlying22 hi v n (bv xs) hown
    unfold Oper.wp execOp
    have hx' : a.eval x = .slice none 0 0 := hx
    simp only [hop, resolve, invoke, builtin, Sem.run_bind, Sem.run_pure, Result.andThen_ok, List.map_toArray, List.map_cons, List.map_nil, hs, hx', hr]
    exact hK' _ _ (hK v w (by simpa using hown) (Below.refl _ _))

/-- k of the sums are laid. -/
def xk (z : List UInt8) (n k : Nat) : List UInt8 := z.take k ++ List.replicate (n - k) 0
theorem xk_zero (z : List UInt8) (n : Nat) : xk z n 0 = List.replicate n 0 := by simp [xk]
theorem xk_full (z : List UInt8) (n : Nat) (h : z.length = n) : xk z n n = z := by simp [xk, ← h]
theorem xk_len (z : List UInt8) (n k : Nat) (h : z.length = n) (hk : k ≤ n) : (xk z n k).length = n := by simp [xk, h]; omega
theorem xk_set (z : List UInt8) (n k : Nat) (h : z.length = n) (hk : k < n) : (bv (xk z n k)).toArray.setIfInBounds k (.int .u8 ((z[k]'(by omega)).toNat : Int)) = (bv (xk z n (k + 1))).toArray := by
  have hl : (z.take k).length = k := by simp; omega
  have hr : List.replicate (n - k) (0 : UInt8) = 0 :: List.replicate (n - (k + 1)) 0 := by
    rw [show n - k = (n - (k + 1)) + 1 by omega, List.replicate_succ]
  have hs : (xk z n k).set k (z[k]'(by omega)) = xk z n (k + 1) := by
    unfold xk
    rw [List.set_append_right _ _ (by omega), hl, Nat.sub_self, hr, List.set_cons_zero, List.take_succ_eq_append_getElem (by omega), List.append_assoc]
    rfl
  rw [← hs]
  simp [bv, List.map_set]
theorem made_zeros (n : Nat) : madeCells #[.int .u8 0] n = (bv (List.replicate n (0 : UInt8))).toArray := by
  apply Array.ext
  · simp [madeCells, bv]
  · intro i h1 h2
    simp [madeCells, bv, Nat.mod_one]
theorem bv_take (l : List UInt8) (k : Nat) : bv (l.take k) = (bv l).take k := by simp [bv]
theorem Sl.takeB {w : World} {B : Nat} {A : Option Addr} {l : List UInt8} (h : Sl w B A (bv l)) (m : Nat) : Sl w B A (bv (l.take m)) := by
  rw [bv_take]
  rcases h with h | ⟨b, o, e, hb, hr⟩
  · exact .inl (by rw [h, List.take_nil])
  · refine .inr ⟨b, o, e, hb, fun k v hv => hr k v ?_⟩
    rw [List.getElem?_take] at hv
    split at hv
    · exact hv
    · cases hv
theorem Sl.nilB {w : World} {B : Nat} {l : List UInt8} (h : Sl w B none (bv l)) : l.length = 0 := by
  rcases h with h | ⟨b, o, e, _⟩
  · rw [← bv_len, h]; rfl
  · cases e
/-- The two new rows. -/
structure Two (w wr : World) (gx gz n k : Nat) (z : List UInt8) : Prop where
  x : wr.heap[gx]? = some (.cells (bv (xk z n k)).toArray 5 (0, 0))
  z : wr.heap[gz]? = some (.cells (bv (List.replicate n (0 : UInt8))).toArray 5 (0, 0))
  ne : gx ≠ gz
  ge : w.heap.size ≤ gx
  below : Below w.heap.size w wr
theorem heap_set {w : World} {g i : Nat} {cs : Array Value} {t : TypeId} (h : w.heap[g]? = some (.cells cs t (0, 0))) (u : Value) :
    (w.setCell ⟨g, i, none⟩ u).heap[g]? = some (.cells (cs.setIfInBounds i u) t (0, 0)) := by
  simp [World.setCell, Array.getElem?_modify, h]
theorem Two.step {w wr : World} {gx gz n k : Nat} {z : List UInt8} (h : Two w wr gx gz n k z) (hz : z.length = n) (hk : k < n) (nq : Nat) :
    Two w ((wr.drewN nq).setCell ⟨gx, k, none⟩ (.int .u8 ((z[k]'(by omega)).toNat : Int))) gx gz n (k + 1) z := by
  have hx : (wr.drewN nq).heap[gx]? = _ := h.x
  refine ⟨?_, ?_, h.ne, h.ge, (bdrewN h.below nq).setCell (p := ⟨gx, k, none⟩) h.ge _⟩
  · rw [heap_set hx, xk_set z n k hz hk]
  · rw [Below.heap_setCell _ _ _ gz (fun e => h.ne e.symm)]
    exact h.z

set_option maxRecDepth 100000 in
set_option maxHeartbeats 4000000 in
theorem parts_walk (A1 A2 A3 : Option Addr) (c1 c2 c3 : Nat) (a b c : List UInt8) (w : World) (hT : Tab w) (h1 : Sl w w.heap.size A1 (bv a)) (h2 : Sl w w.heap.size A2 (bv b)) (h3 : Sl w w.heap.size A3 (bv c))
    (n1 : A1 = none → c1 = 0) (n2 : A2 = none → c2 = 0) (n3 : A3 = none → c3 = 0) (k1 : a.length ≤ c1) (k2 : b.length ≤ c2) :
    Calls Tryd.prog 3 #[.slice A1 a.length c1, .slice A2 b.length c2, .slice A3 c.length c3] w fun e w' => e = .returned (.bool true) ∧ Below w.heap.size w w' := by
  have N1 := Lib.hid n1
  have N2 := Lib.hid n2
  have N3 := Lib.hid n3
  clear n1 n2 n3
  go_enter Tryd.func3, Tryd.ntmps3
  go_wp2_with fail
  refine (cspeak_any w hT).mono ?_
  rintro e W0 ⟨rfl, B0⟩
  by_cases t1 : (1000 : Int) < (a.length : Int)
  · go_wp2_with fail
    go_ret
    exact ⟨rfl, B0⟩
  · by_cases t2 : (1000 : Int) < (b.length : Int)
    · go_wp2_with fail
      go_ret
      exact ⟨rfl, B0⟩
    · by_cases t3 : (1000 : Int) < (c.length : Int)
      · go_wp2_with fail
        go_ret
        exact ⟨rfl, B0⟩
      · have L1 : Hid (a.length ≤ 1000) := by show _ ≤ _; omega
        have L2 : Hid (b.length ≤ 1000) := by show _ ≤ _; omega
        have L3 : Hid (c.length ≤ 1000) := by show _ ≤ _; omega
        have L12 : Hid (0 + a.length + b.length ≤ 70368744177664) := by show _ ≤ _; omega
        have L13 : Hid (0 + a.length + b.length + c.length ≤ 70368744177664) := by show _ ≤ _; omega
        have L11 : Hid (0 + a.length ≤ 70368744177664) := by show _ ≤ _; omega
        have HT := Lib.hid (hT.below hT.1 B0)
        go_wp2_with
          (first
            | (at_builtin; refine wpList_append_bytes rfl _ _ rfl w.heap.size v2 _ (a ++ b) rfl ho2 A3 c3 w.heap.size c rfl N3.out (h3.below B3) L13.out B3.size ?_; intro v3 W3 ho3 hb3; have B4 := B3.trans hb3)
            | (at_builtin; refine wpList_append_bytes rfl _ _ rfl w.heap.size v1 _ a rfl ho1 A2 c2 w.heap.size b rfl N2.out (h2.below B2) L12.out B2.size ?_; intro v2 W2 ho2 hb2; have B3 := B2.trans hb2)
            | (at_builtin; refine wpList_append_bytes rfl _ _ rfl w.heap.size _ 0 [] rfl (World.ownsRow_made W0 #[] 0 (B0.size) (Nat.zero_le _) rfl) A1 c1 w.heap.size a rfl N1.out (h1.below (B0.alloc B0.size _)) L11.out (B0.alloc B0.size _).size ?_; intro v1 W1 ho1 hb1; have B2 := (B0.alloc B0.size _).trans hb1))
        have hl : 0 + a.length + b.length + c.length = (a ++ b ++ c).length := by simp; omega
        rw [hl] at ho3
        obtain ⟨X, cx, rfl⟩ := own_form ho3
        have HT4 := Lib.hid (hT.below hT.1 B4)
        have hXs := Lib.hid (Sl.of_own ho3)
        have HS := Lib.hid B4
        have S1 := Lib.hid (h1.below B4)
        have S2 := Lib.hid (h2.below B4)
        have S3 := Lib.hid (h3.below B4)
        have M1 : Hid (a.length ≤ maxLen) := by show _ ≤ _; unfold maxLen; omega
        have M2 : Hid (b.length ≤ maxLen) := by show _ ≤ _; unfold maxLen; omega
        have M3 : Hid (c.length ≤ maxLen) := by show _ ≤ _; unfold maxLen; omega
        have M4 : Hid ((a ++ b ++ c).length ≤ maxLen) := by show _ ≤ _; rw [← hl]; unfold maxLen; omega
        have K1 := Lib.hid k1
        have K2 := Lib.hid k2
        have H1 := Lib.hid h1
        have H2 := Lib.hid h2
        have HTw := Lib.hid hT
        clear hb1 hb2 hb3 ho1 ho2 ho3 hl B2 B3 hT h1 h2 h3 B0 k1 k2
        refine (sum_any A1 c1 _ a W3 HT4.out S1.out M1.out).mono ?_
        rintro e w' ⟨rfl, rfl⟩
        go_wp2_with fail
        refine (more_any _ (more_lt _ _) A2 c2 _ b _ HT4.out S2.out M2.out).mono ?_
        rintro e w' ⟨he, rfl⟩
        rw [more_app] at he
        subst he
        go_wp2_with fail
        refine (more_any _ (more_lt _ _) A3 c3 _ c _ HT4.out S3.out M3.out).mono ?_
        rintro e w' ⟨he, rfl⟩
        rw [more_app] at he
        subst he
        go_wp2_with fail
        have hcs := sum_any X cx _ (a ++ b ++ c) _ HT4.out hXs.out M4.out
        rw [show (a ++ b ++ c).length = a.length + (b.length + c.length) by simp] at hcs
        refine hcs.mono ?_
        clear hcs
        rintro e w' ⟨rfl, rfl⟩
        go_wp2_with fail
        refine (sum_any A1 c1 _ a _ HT4.out S1.out M1.out).mono ?_
        rintro e w' ⟨rfl, rfl⟩
        go_wp2_with fail
        refine (more_any _ (more_lt _ _) none 0 _ [] _ HT4.out (Sl.nil (B := 0)) (Nat.zero_le _)).mono ?_
        rintro e w' ⟨he, rfl⟩
        rw [more_nil (more_lt _ _)] at he
        subst he
        go_wp2_with fail
        refine (sum_any A1 c1 _ a _ HT4.out S1.out M1.out).mono ?_
        rintro e w' ⟨rfl, rfl⟩
        clear hXs M4
        rcases Nat.lt_or_ge b.length a.length with hab | hab
        · have hab' : ((b.length : Nat) : Int) < ((a.length : Nat) : Int) := by omega
          obtain ⟨z, hz⟩ : ∃ z, List.zipWith (· ^^^ ·) (a.take b.length) (b.take b.length) = z := ⟨_, rfl⟩
          have hzl : z.length = b.length := by rw [← hz]; simp; omega
          have hmk := run_make_row' (P := Tryd.prog) 22 5 (.int .u8 0) 1 Tryd.underlying22 Tryd.info_u8 rfl .i64 .i64 b.length (by have := L1.out; have := L2.out; omega) (by have := L1.out; have := L2.out; omega)
          rw [made_zeros] at hmk
          have HZ := Lib.hid hz
          have HZL := Lib.hid hzl
          have na : Hid (b.length ≤ a.length) := by show _ ≤ _; omega
          have nb : Hid (b.length ≤ b.length) := by show _ ≤ _; omega
          clear hz hzl hab
          go_wp2_with fail
          go_region
          · have T0 : Hid (Two w ((w'.drew.alloc (.cells (bv (List.replicate b.length (0 : UInt8))).toArray 5)).alloc (.cells (bv (List.replicate b.length (0 : UInt8))).toArray 5)) w'.heap.size (w'.heap.size + 1) b.length 0 z) := by
              refine ⟨?_, ?_, by omega, by have := B4.size; omega, ((bdrewN B4 1).alloc (by have := B4.size; simp; omega) _).alloc (by have := B4.size; simp; omega) _⟩
              · rw [xk_zero]; exact (Below.heap_alloc _ _ _ (by simp)).trans (heap_alloc_new w'.drew _)
              · exact by have := heap_alloc_new (w'.drew.alloc (.cells (bv (List.replicate b.length (0 : UInt8))).toArray 5)) (.cells (bv (List.replicate b.length (0 : UInt8))).toArray 5); simpa using this
            go_wp2_with fail
            go_loopw [62] (fun s wr => ∃ k : Nat, k ≤ b.length ∧ s = .int .i64 (k : Int) ∧ Hid (Two w wr w'.heap.size (w'.heap.size + 1) b.length k z)) (fun s _ => b.length - (intOf s).toNat)
            case atStart => exact ⟨0, Nat.zero_le _, rfl, T0⟩
            case round =>
              obtain ⟨k, hk, rfl, ht⟩ := hrel
              clear T0
              by_cases hlt : k < b.length
              · have hka : k < a.length := Nat.lt_of_lt_of_le hlt na.out
                have hkb : k < b.length := Nat.lt_of_lt_of_le hlt nb.out
                obtain ⟨b1, o1, rfl, hb1, hc1⟩ := (H1.out.below ht.out.below).byte hka
                obtain ⟨b2, o2, rfl, hb2, hc2⟩ := (H2.out.below ht.out.below).byte hkb
                have hi1 : (k : Int) < ((a.length : Nat) : Int) := by omega
                have hi2 : (k : Int) < ((b.length : Nat) : Int) := by omega
                have hxl : (xk z b.length k).length = b.length := xk_len _ _ _ HZL.out (by omega)
                obtain ⟨u, hcx⟩ : ∃ u, wr.cell? ⟨w'.heap.size, k, none⟩ = some u := ⟨_, ((Blk.of_heap ht.out.x).cell k).trans (Array.getElem?_eq_getElem (by rw [List.size_toArray, bv_len, hxl]; exact hlt))⟩
                have hfx : wr.frozen? ⟨w'.heap.size, k, none⟩ = false := (Blk.of_heap ht.out.x).free k
                have hzk : Hid (k < z.length) := by show _ < _; rw [HZL.out]; exact hlt
                have hxr : bits BinOp.xor IntKind.u8 ((a[k].toNat : Nat) : Int) ((b[k].toNat : Nat) : Int) = ((z[k]'hzk.out).toNat : Int) := by
                  rw [u8_xor_nat _ _ (a[k].toNat_lt) (b[k].toNat_lt), ← UInt8.toNat_xor]
                  congr 2
                  simp [← HZ.out]
                clear hxl
                go_wp2_with fail
                go_still_tail 12, (by kernel_rfl)
                go_wp2_with fail
                go_roundw
                case rel => exact ⟨k + 1, by omega, by simp, ht.out.step HZL.out hlt _⟩
                case measure => simp [intOf]; omega
              · have hkk : k = b.length := by omega
                subst hkk
                have hx := ht.out.x
                have hzz := ht.out.z
                have hbl := ht.out.below
                rw [xk_full z _ HZL.out] at hx
                have gx1 : w'.heap.size < wr.heap.size := (Array.getElem?_eq_some_iff.1 hx).1
                have gz1 : (w'.heap.size + 1) < wr.heap.size := (Array.getElem?_eq_some_iff.1 hzz).1
                have hq : (bits BinOp.xor IntKind.u32 (more 0 z : Int) (more 0 (List.replicate b.length (0 : UInt8)) : Int) == bits BinOp.xor IntKind.u32 (more 0 (a.take b.length) : Int) (more 0 (b.take b.length) : Int)) = true := by
                  rw [u32_xor_nat _ _ (more_lt _ _) (more_lt _ _), u32_xor_nat _ _ (more_lt _ _) (more_lt _ _)]
                  have hml := more_linear (a.take b.length) (b.take b.length) (by rw [List.length_take, List.length_take, Nat.min_eq_left na.out, Nat.min_eq_left nb.out]) 0
                  rw [HZ.out, List.length_take, Nat.min_eq_left na.out] at hml
                  rw [hml]
                  simp
                have hTu : ∀ u, Tab (over wr u) := fun u => HTw.out.below HTw.out.1 (hbl.trans ((over_below wr u).mono hbl.size))
                have hs1 : ∀ u, Calls Tryd.prog 8 #[.slice (some ⟨w'.heap.size, 0, none⟩) b.length b.length] (over wr u) fun e w' => e = .returned (.int .u32 (more 0 z : Int)) ∧ ∃ n, w' = (over wr u).drewN n := fun u => by
                  have hc := sum_any (some ⟨w'.heap.size, 0, none⟩) b.length _ z (over wr u) (hTu u) (Sl.of_block ((over_heap wr u _ gx1).trans hx)) (by rw [HZL.out]; unfold maxLen; omega)
                  rw [HZL.out] at hc
                  exact hc.mono fun e w' ⟨he, hw⟩ => ⟨he, 0, hw⟩
                have hs2 : ∀ u, Calls Tryd.prog 8 #[.slice (some ⟨(w'.heap.size + 1), 0, none⟩) b.length b.length] (over wr u) fun e w' => e = .returned (.int .u32 (more 0 (List.replicate b.length (0 : UInt8)) : Int)) ∧ ∃ n, w' = (over wr u).drewN n := fun u => by
                  have hc := sum_any (some ⟨(w'.heap.size + 1), 0, none⟩) b.length _ (List.replicate b.length (0 : UInt8)) (over wr u) (hTu u) (Sl.of_block ((over_heap wr u _ gz1).trans hzz)) (by simp; unfold maxLen; omega)
                  rw [List.length_replicate] at hc
                  exact hc.mono fun e w' ⟨he, hw⟩ => ⟨he, 0, hw⟩
                have hs3 : ∀ u, Calls Tryd.prog 8 #[.slice A1 b.length c1] (over wr u) fun e w' => e = .returned (.int .u32 (more 0 (a.take b.length) : Int)) ∧ ∃ n, w' = (over wr u).drewN n := fun u => by
                  have hc := sum_any A1 c1 w.heap.size (a.take b.length) (over wr u) (hTu u) ((H1.out.below (hbl.trans ((over_below wr u).mono hbl.size))).takeB _) (by rw [List.length_take]; unfold maxLen; omega)
                  rw [List.length_take, Nat.min_eq_left na.out] at hc
                  exact hc.mono fun e w' ⟨he, hw⟩ => ⟨he, 0, hw⟩
                have hs4 : ∀ u, Calls Tryd.prog 8 #[.slice A2 b.length c2] (over wr u) fun e w' => e = .returned (.int .u32 (more 0 (b.take b.length) : Int)) ∧ ∃ n, w' = (over wr u).drewN n := fun u => by
                  have hc := sum_any A2 c2 w.heap.size (b.take b.length) (over wr u) (hTu u) ((H2.out.below (hbl.trans ((over_below wr u).mono hbl.size))).takeB _) (by rw [List.length_take]; unfold maxLen; omega)
                  rw [List.length_take, Nat.min_eq_left nb.out] at hc
                  exact hc.mono fun e w' ⟨he, hw⟩ => ⟨he, 0, hw⟩
                generalize more 0 z = u1 at hq hs1
                generalize more 0 (List.replicate b.length (0 : UInt8)) = u2 at hq hs2
                have hnn : a.length = 0 → b.length = 0 → more 0 (a.take b.length) = more 0 (b.take b.length) := fun e1 e2 => by
                  rw [List.eq_nil_of_length_eq_zero e1, List.eq_nil_of_length_eq_zero e2]
                generalize more 0 (a.take b.length) = u3 at hq hs3 hnn
                generalize more 0 (b.take b.length) = u4 at hq hs4 hnn
                have r1 : ((b.length : Nat) : Int) ≤ ((c1 : Nat) : Int) := by have := K1.out; have := na.out; omega
                have r2 : ((b.length : Nat) : Int) ≤ ((c2 : Nat) : Int) := by have := K2.out; have := nb.out; omega
                have HBL := Lib.hid hbl
                clear hx hzz ht hTu hbl
                cases A1 with
                | none =>
                  have hz1 := H1.out.nilB
                  omega
                | some ad1 =>
                  cases A2 with
                  | none =>
                    obtain rfl : c2 = 0 := N2.out rfl
                    have hz2 := H2.out.nilB
                    simp only [hz2] at hs1 hs2 hs3 hs4
                    try clear hnn
                    have HS1 := Lib.hid hs1
                    have HS2 := Lib.hid hs2
                    have HS3 := Lib.hid hs3
                    have HS4 := Lib.hid hs4
                    clear hs1 hs2 hs3 hs4
                    go_wp2_with fail
                    refine wp_region_over (by kernel_rfl) (by kernel_rfl) ?_
                    repeat (go_big_quiet_step ((first
                      | (go_at_call 8; with_reducible exact over_call_drew (HS1.out _))
                      | (go_at_call 8; with_reducible exact over_call_drew (HS2.out _))
                      | (go_at_call 8; with_reducible exact over_call_drew (HS3.out _))
                      | (go_at_call 8; with_reducible exact over_call_drew (HS4.out _)))))
                    refine wpQuiet_nil ?_
                    rintro _ ⟨u, rfl⟩
                    go_wp2
                    go_ret
                    exact ⟨rfl, HBL.out.trans ((over_below wr u).mono HBL.out.size)⟩
                  | some ad2 =>
                    try clear hnn
                    have HS1 := Lib.hid hs1
                    have HS2 := Lib.hid hs2
                    have HS3 := Lib.hid hs3
                    have HS4 := Lib.hid hs4
                    clear hs1 hs2 hs3 hs4
                    go_wp2_with fail
                    refine wp_region_over (by kernel_rfl) (by kernel_rfl) ?_
                    repeat (go_big_quiet_step ((first
                      | (go_at_call 8; with_reducible exact over_call_drew (HS1.out _))
                      | (go_at_call 8; with_reducible exact over_call_drew (HS2.out _))
                      | (go_at_call 8; with_reducible exact over_call_drew (HS3.out _))
                      | (go_at_call 8; with_reducible exact over_call_drew (HS4.out _)))))
                    refine wpQuiet_nil ?_
                    rintro _ ⟨u, rfl⟩
                    go_wp2
                    go_ret
                    exact ⟨rfl, HBL.out.trans ((over_below wr u).mono HBL.out.size)⟩
          · have T0 : Hid (Two w ((w'.drew.alloc (.cells (bv (List.replicate b.length (0 : UInt8))).toArray 5)).alloc (.cells (bv (List.replicate b.length (0 : UInt8))).toArray 5)) (w'.heap.size + 1) w'.heap.size b.length 0 z) := by
              refine ⟨?_, ?_, by omega, by have := B4.size; omega, ((bdrewN B4 1).alloc (by have := B4.size; simp; omega) _).alloc (by have := B4.size; simp; omega) _⟩
              · rw [xk_zero]; exact by have := heap_alloc_new (w'.drew.alloc (.cells (bv (List.replicate b.length (0 : UInt8))).toArray 5)) (.cells (bv (List.replicate b.length (0 : UInt8))).toArray 5); simpa using this
              · exact (Below.heap_alloc _ _ _ (by simp)).trans (heap_alloc_new w'.drew _)
            go_wp2_with fail
            go_loopw [62] (fun s wr => ∃ k : Nat, k ≤ b.length ∧ s = .int .i64 (k : Int) ∧ Hid (Two w wr (w'.heap.size + 1) w'.heap.size b.length k z)) (fun s _ => b.length - (intOf s).toNat)
            case atStart => exact ⟨0, Nat.zero_le _, rfl, T0⟩
            case round =>
              obtain ⟨k, hk, rfl, ht⟩ := hrel
              clear T0
              by_cases hlt : k < b.length
              · have hka : k < a.length := Nat.lt_of_lt_of_le hlt na.out
                have hkb : k < b.length := Nat.lt_of_lt_of_le hlt nb.out
                obtain ⟨b1, o1, rfl, hb1, hc1⟩ := (H1.out.below ht.out.below).byte hka
                obtain ⟨b2, o2, rfl, hb2, hc2⟩ := (H2.out.below ht.out.below).byte hkb
                have hi1 : (k : Int) < ((a.length : Nat) : Int) := by omega
                have hi2 : (k : Int) < ((b.length : Nat) : Int) := by omega
                have hxl : (xk z b.length k).length = b.length := xk_len _ _ _ HZL.out (by omega)
                obtain ⟨u, hcx⟩ : ∃ u, wr.cell? ⟨(w'.heap.size + 1), k, none⟩ = some u := ⟨_, ((Blk.of_heap ht.out.x).cell k).trans (Array.getElem?_eq_getElem (by rw [List.size_toArray, bv_len, hxl]; exact hlt))⟩
                have hfx : wr.frozen? ⟨(w'.heap.size + 1), k, none⟩ = false := (Blk.of_heap ht.out.x).free k
                have hzk : Hid (k < z.length) := by show _ < _; rw [HZL.out]; exact hlt
                have hxr : bits BinOp.xor IntKind.u8 ((a[k].toNat : Nat) : Int) ((b[k].toNat : Nat) : Int) = ((z[k]'hzk.out).toNat : Int) := by
                  rw [u8_xor_nat _ _ (a[k].toNat_lt) (b[k].toNat_lt), ← UInt8.toNat_xor]
                  congr 2
                  simp [← HZ.out]
                clear hxl
                go_wp2_with fail
                go_still_tail 12, (by kernel_rfl)
                go_wp2_with fail
                go_roundw
                case rel => exact ⟨k + 1, by omega, by simp, ht.out.step HZL.out hlt _⟩
                case measure => simp [intOf]; omega
              · have hkk : k = b.length := by omega
                subst hkk
                have hx := ht.out.x
                have hzz := ht.out.z
                have hbl := ht.out.below
                rw [xk_full z _ HZL.out] at hx
                have gx1 : (w'.heap.size + 1) < wr.heap.size := (Array.getElem?_eq_some_iff.1 hx).1
                have gz1 : w'.heap.size < wr.heap.size := (Array.getElem?_eq_some_iff.1 hzz).1
                have hq : (bits BinOp.xor IntKind.u32 (more 0 z : Int) (more 0 (List.replicate b.length (0 : UInt8)) : Int) == bits BinOp.xor IntKind.u32 (more 0 (a.take b.length) : Int) (more 0 (b.take b.length) : Int)) = true := by
                  rw [u32_xor_nat _ _ (more_lt _ _) (more_lt _ _), u32_xor_nat _ _ (more_lt _ _) (more_lt _ _)]
                  have hml := more_linear (a.take b.length) (b.take b.length) (by rw [List.length_take, List.length_take, Nat.min_eq_left na.out, Nat.min_eq_left nb.out]) 0
                  rw [HZ.out, List.length_take, Nat.min_eq_left na.out] at hml
                  rw [hml]
                  simp
                have hTu : ∀ u, Tab (over wr u) := fun u => HTw.out.below HTw.out.1 (hbl.trans ((over_below wr u).mono hbl.size))
                have hs1 : ∀ u, Calls Tryd.prog 8 #[.slice (some ⟨(w'.heap.size + 1), 0, none⟩) b.length b.length] (over wr u) fun e w' => e = .returned (.int .u32 (more 0 z : Int)) ∧ ∃ n, w' = (over wr u).drewN n := fun u => by
                  have hc := sum_any (some ⟨(w'.heap.size + 1), 0, none⟩) b.length _ z (over wr u) (hTu u) (Sl.of_block ((over_heap wr u _ gx1).trans hx)) (by rw [HZL.out]; unfold maxLen; omega)
                  rw [HZL.out] at hc
                  exact hc.mono fun e w' ⟨he, hw⟩ => ⟨he, 0, hw⟩
                have hs2 : ∀ u, Calls Tryd.prog 8 #[.slice (some ⟨w'.heap.size, 0, none⟩) b.length b.length] (over wr u) fun e w' => e = .returned (.int .u32 (more 0 (List.replicate b.length (0 : UInt8)) : Int)) ∧ ∃ n, w' = (over wr u).drewN n := fun u => by
                  have hc := sum_any (some ⟨w'.heap.size, 0, none⟩) b.length _ (List.replicate b.length (0 : UInt8)) (over wr u) (hTu u) (Sl.of_block ((over_heap wr u _ gz1).trans hzz)) (by simp; unfold maxLen; omega)
                  rw [List.length_replicate] at hc
                  exact hc.mono fun e w' ⟨he, hw⟩ => ⟨he, 0, hw⟩
                have hs3 : ∀ u, Calls Tryd.prog 8 #[.slice A1 b.length c1] (over wr u) fun e w' => e = .returned (.int .u32 (more 0 (a.take b.length) : Int)) ∧ ∃ n, w' = (over wr u).drewN n := fun u => by
                  have hc := sum_any A1 c1 w.heap.size (a.take b.length) (over wr u) (hTu u) ((H1.out.below (hbl.trans ((over_below wr u).mono hbl.size))).takeB _) (by rw [List.length_take]; unfold maxLen; omega)
                  rw [List.length_take, Nat.min_eq_left na.out] at hc
                  exact hc.mono fun e w' ⟨he, hw⟩ => ⟨he, 0, hw⟩
                have hs4 : ∀ u, Calls Tryd.prog 8 #[.slice A2 b.length c2] (over wr u) fun e w' => e = .returned (.int .u32 (more 0 (b.take b.length) : Int)) ∧ ∃ n, w' = (over wr u).drewN n := fun u => by
                  have hc := sum_any A2 c2 w.heap.size (b.take b.length) (over wr u) (hTu u) ((H2.out.below (hbl.trans ((over_below wr u).mono hbl.size))).takeB _) (by rw [List.length_take]; unfold maxLen; omega)
                  rw [List.length_take, Nat.min_eq_left nb.out] at hc
                  exact hc.mono fun e w' ⟨he, hw⟩ => ⟨he, 0, hw⟩
                generalize more 0 z = u1 at hq hs1
                generalize more 0 (List.replicate b.length (0 : UInt8)) = u2 at hq hs2
                have hnn : a.length = 0 → b.length = 0 → more 0 (a.take b.length) = more 0 (b.take b.length) := fun e1 e2 => by
                  rw [List.eq_nil_of_length_eq_zero e1, List.eq_nil_of_length_eq_zero e2]
                generalize more 0 (a.take b.length) = u3 at hq hs3 hnn
                generalize more 0 (b.take b.length) = u4 at hq hs4 hnn
                have r1 : ((b.length : Nat) : Int) ≤ ((c1 : Nat) : Int) := by have := K1.out; have := na.out; omega
                have r2 : ((b.length : Nat) : Int) ≤ ((c2 : Nat) : Int) := by have := K2.out; have := nb.out; omega
                have HBL := Lib.hid hbl
                clear hx hzz ht hTu hbl
                cases A1 with
                | none =>
                  have hz1 := H1.out.nilB
                  omega
                | some ad1 =>
                  cases A2 with
                  | none =>
                    obtain rfl : c2 = 0 := N2.out rfl
                    have hz2 := H2.out.nilB
                    simp only [hz2] at hs1 hs2 hs3 hs4
                    try clear hnn
                    have HS1 := Lib.hid hs1
                    have HS2 := Lib.hid hs2
                    have HS3 := Lib.hid hs3
                    have HS4 := Lib.hid hs4
                    clear hs1 hs2 hs3 hs4
                    go_wp2_with fail
                    refine wp_region_over (by kernel_rfl) (by kernel_rfl) ?_
                    repeat (go_big_quiet_step ((first
                      | (go_at_call 8; with_reducible exact over_call_drew (HS1.out _))
                      | (go_at_call 8; with_reducible exact over_call_drew (HS2.out _))
                      | (go_at_call 8; with_reducible exact over_call_drew (HS3.out _))
                      | (go_at_call 8; with_reducible exact over_call_drew (HS4.out _)))))
                    refine wpQuiet_nil ?_
                    rintro _ ⟨u, rfl⟩
                    go_wp2
                    go_ret
                    exact ⟨rfl, HBL.out.trans ((over_below wr u).mono HBL.out.size)⟩
                  | some ad2 =>
                    try clear hnn
                    have HS1 := Lib.hid hs1
                    have HS2 := Lib.hid hs2
                    have HS3 := Lib.hid hs3
                    have HS4 := Lib.hid hs4
                    clear hs1 hs2 hs3 hs4
                    go_wp2_with fail
                    refine wp_region_over (by kernel_rfl) (by kernel_rfl) ?_
                    repeat (go_big_quiet_step ((first
                      | (go_at_call 8; with_reducible exact over_call_drew (HS1.out _))
                      | (go_at_call 8; with_reducible exact over_call_drew (HS2.out _))
                      | (go_at_call 8; with_reducible exact over_call_drew (HS3.out _))
                      | (go_at_call 8; with_reducible exact over_call_drew (HS4.out _)))))
                    refine wpQuiet_nil ?_
                    rintro _ ⟨u, rfl⟩
                    go_wp2
                    go_ret
                    exact ⟨rfl, HBL.out.trans ((over_below wr u).mono HBL.out.size)⟩
        · have hab' : ((a.length : Nat) : Int) ≤ ((b.length : Nat) : Int) := by omega
          obtain ⟨z, hz⟩ : ∃ z, List.zipWith (· ^^^ ·) (a.take a.length) (b.take a.length) = z := ⟨_, rfl⟩
          have hzl : z.length = a.length := by rw [← hz]; simp; omega
          have hmk := run_make_row' (P := Tryd.prog) 22 5 (.int .u8 0) 1 Tryd.underlying22 Tryd.info_u8 rfl .i64 .i64 a.length (by have := L1.out; have := L2.out; omega) (by have := L1.out; have := L2.out; omega)
          rw [made_zeros] at hmk
          have HZ := Lib.hid hz
          have HZL := Lib.hid hzl
          have na : Hid (a.length ≤ a.length) := by show _ ≤ _; omega
          have nb : Hid (a.length ≤ b.length) := by show _ ≤ _; omega
          clear hz hzl hab
          go_wp2_with fail
          go_region
          · have T0 : Hid (Two w ((w'.drew.alloc (.cells (bv (List.replicate a.length (0 : UInt8))).toArray 5)).alloc (.cells (bv (List.replicate a.length (0 : UInt8))).toArray 5)) w'.heap.size (w'.heap.size + 1) a.length 0 z) := by
              refine ⟨?_, ?_, by omega, by have := B4.size; omega, ((bdrewN B4 1).alloc (by have := B4.size; simp; omega) _).alloc (by have := B4.size; simp; omega) _⟩
              · rw [xk_zero]; exact (Below.heap_alloc _ _ _ (by simp)).trans (heap_alloc_new w'.drew _)
              · exact by have := heap_alloc_new (w'.drew.alloc (.cells (bv (List.replicate a.length (0 : UInt8))).toArray 5)) (.cells (bv (List.replicate a.length (0 : UInt8))).toArray 5); simpa using this
            go_wp2_with fail
            go_loopw [62] (fun s wr => ∃ k : Nat, k ≤ a.length ∧ s = .int .i64 (k : Int) ∧ Hid (Two w wr w'.heap.size (w'.heap.size + 1) a.length k z)) (fun s _ => a.length - (intOf s).toNat)
            case atStart => exact ⟨0, Nat.zero_le _, rfl, T0⟩
            case round =>
              obtain ⟨k, hk, rfl, ht⟩ := hrel
              clear T0
              by_cases hlt : k < a.length
              · have hka : k < a.length := Nat.lt_of_lt_of_le hlt na.out
                have hkb : k < b.length := Nat.lt_of_lt_of_le hlt nb.out
                obtain ⟨b1, o1, rfl, hb1, hc1⟩ := (H1.out.below ht.out.below).byte hka
                obtain ⟨b2, o2, rfl, hb2, hc2⟩ := (H2.out.below ht.out.below).byte hkb
                have hi1 : (k : Int) < ((a.length : Nat) : Int) := by omega
                have hi2 : (k : Int) < ((b.length : Nat) : Int) := by omega
                have hxl : (xk z a.length k).length = a.length := xk_len _ _ _ HZL.out (by omega)
                obtain ⟨u, hcx⟩ : ∃ u, wr.cell? ⟨w'.heap.size, k, none⟩ = some u := ⟨_, ((Blk.of_heap ht.out.x).cell k).trans (Array.getElem?_eq_getElem (by rw [List.size_toArray, bv_len, hxl]; exact hlt))⟩
                have hfx : wr.frozen? ⟨w'.heap.size, k, none⟩ = false := (Blk.of_heap ht.out.x).free k
                have hzk : Hid (k < z.length) := by show _ < _; rw [HZL.out]; exact hlt
                have hxr : bits BinOp.xor IntKind.u8 ((a[k].toNat : Nat) : Int) ((b[k].toNat : Nat) : Int) = ((z[k]'hzk.out).toNat : Int) := by
                  rw [u8_xor_nat _ _ (a[k].toNat_lt) (b[k].toNat_lt), ← UInt8.toNat_xor]
                  congr 2
                  simp [← HZ.out]
                clear hxl
                go_wp2_with fail
                go_still_tail 12, (by kernel_rfl)
                go_wp2_with fail
                go_roundw
                case rel => exact ⟨k + 1, by omega, by simp, ht.out.step HZL.out hlt _⟩
                case measure => simp [intOf]; omega
              · have hkk : k = a.length := by omega
                subst hkk
                have hx := ht.out.x
                have hzz := ht.out.z
                have hbl := ht.out.below
                rw [xk_full z _ HZL.out] at hx
                have gx1 : w'.heap.size < wr.heap.size := (Array.getElem?_eq_some_iff.1 hx).1
                have gz1 : (w'.heap.size + 1) < wr.heap.size := (Array.getElem?_eq_some_iff.1 hzz).1
                have hq : (bits BinOp.xor IntKind.u32 (more 0 z : Int) (more 0 (List.replicate a.length (0 : UInt8)) : Int) == bits BinOp.xor IntKind.u32 (more 0 (a.take a.length) : Int) (more 0 (b.take a.length) : Int)) = true := by
                  rw [u32_xor_nat _ _ (more_lt _ _) (more_lt _ _), u32_xor_nat _ _ (more_lt _ _) (more_lt _ _)]
                  have hml := more_linear (a.take a.length) (b.take a.length) (by rw [List.length_take, List.length_take, Nat.min_eq_left na.out, Nat.min_eq_left nb.out]) 0
                  rw [HZ.out, List.length_take, Nat.min_eq_left na.out] at hml
                  rw [hml]
                  simp
                have hTu : ∀ u, Tab (over wr u) := fun u => HTw.out.below HTw.out.1 (hbl.trans ((over_below wr u).mono hbl.size))
                have hs1 : ∀ u, Calls Tryd.prog 8 #[.slice (some ⟨w'.heap.size, 0, none⟩) a.length a.length] (over wr u) fun e w' => e = .returned (.int .u32 (more 0 z : Int)) ∧ ∃ n, w' = (over wr u).drewN n := fun u => by
                  have hc := sum_any (some ⟨w'.heap.size, 0, none⟩) a.length _ z (over wr u) (hTu u) (Sl.of_block ((over_heap wr u _ gx1).trans hx)) (by rw [HZL.out]; unfold maxLen; omega)
                  rw [HZL.out] at hc
                  exact hc.mono fun e w' ⟨he, hw⟩ => ⟨he, 0, hw⟩
                have hs2 : ∀ u, Calls Tryd.prog 8 #[.slice (some ⟨(w'.heap.size + 1), 0, none⟩) a.length a.length] (over wr u) fun e w' => e = .returned (.int .u32 (more 0 (List.replicate a.length (0 : UInt8)) : Int)) ∧ ∃ n, w' = (over wr u).drewN n := fun u => by
                  have hc := sum_any (some ⟨(w'.heap.size + 1), 0, none⟩) a.length _ (List.replicate a.length (0 : UInt8)) (over wr u) (hTu u) (Sl.of_block ((over_heap wr u _ gz1).trans hzz)) (by simp; unfold maxLen; omega)
                  rw [List.length_replicate] at hc
                  exact hc.mono fun e w' ⟨he, hw⟩ => ⟨he, 0, hw⟩
                have hs3 : ∀ u, Calls Tryd.prog 8 #[.slice A1 a.length c1] (over wr u) fun e w' => e = .returned (.int .u32 (more 0 (a.take a.length) : Int)) ∧ ∃ n, w' = (over wr u).drewN n := fun u => by
                  have hc := sum_any A1 c1 w.heap.size (a.take a.length) (over wr u) (hTu u) ((H1.out.below (hbl.trans ((over_below wr u).mono hbl.size))).takeB _) (by rw [List.length_take]; unfold maxLen; omega)
                  rw [List.length_take, Nat.min_eq_left na.out] at hc
                  exact hc.mono fun e w' ⟨he, hw⟩ => ⟨he, 0, hw⟩
                have hs4 : ∀ u, Calls Tryd.prog 8 #[.slice A2 a.length c2] (over wr u) fun e w' => e = .returned (.int .u32 (more 0 (b.take a.length) : Int)) ∧ ∃ n, w' = (over wr u).drewN n := fun u => by
                  have hc := sum_any A2 c2 w.heap.size (b.take a.length) (over wr u) (hTu u) ((H2.out.below (hbl.trans ((over_below wr u).mono hbl.size))).takeB _) (by rw [List.length_take]; unfold maxLen; omega)
                  rw [List.length_take, Nat.min_eq_left nb.out] at hc
                  exact hc.mono fun e w' ⟨he, hw⟩ => ⟨he, 0, hw⟩
                generalize more 0 z = u1 at hq hs1
                generalize more 0 (List.replicate a.length (0 : UInt8)) = u2 at hq hs2
                have hnn : a.length = 0 → b.length = 0 → more 0 (a.take a.length) = more 0 (b.take a.length) := fun e1 e2 => by
                  rw [List.eq_nil_of_length_eq_zero e1, List.eq_nil_of_length_eq_zero e2]
                generalize more 0 (a.take a.length) = u3 at hq hs3 hnn
                generalize more 0 (b.take a.length) = u4 at hq hs4 hnn
                have r1 : ((a.length : Nat) : Int) ≤ ((c1 : Nat) : Int) := by have := K1.out; have := na.out; omega
                have r2 : ((a.length : Nat) : Int) ≤ ((c2 : Nat) : Int) := by have := K2.out; have := nb.out; omega
                have HBL := Lib.hid hbl
                clear hx hzz ht hTu hbl
                cases A1 with
                | none =>
                  have hz1 := H1.out.nilB
                  obtain rfl : c1 = 0 := N1.out rfl
                  simp only [hz1] at hs1 hs2 hs3 hs4
                  cases A2 with
                  | none =>
                    obtain rfl : c2 = 0 := N2.out rfl
                    have hz2 := H2.out.nilB
                    obtain rfl : u3 = u4 := hnn hz1 hz2
                    clear hnn
                    try clear hnn
                    have HS1 := Lib.hid hs1
                    have HS2 := Lib.hid hs2
                    have HS3 := Lib.hid hs3
                    have HS4 := Lib.hid hs4
                    clear hs1 hs2 hs3 hs4
                    go_wp2_with fail
                    refine wp_region_over (by kernel_rfl) (by kernel_rfl) ?_
                    repeat (go_big_quiet_step ((first
                      | (go_at_call 8; with_reducible exact over_call_drew (HS1.out _))
                      | (go_at_call 8; with_reducible exact over_call_drew (HS2.out _))
                      | (go_at_call 8; with_reducible exact over_call_drew (HS3.out _))
                      | (go_at_call 8; with_reducible exact over_call_drew (HS4.out _)))))
                    refine wpQuiet_nil ?_
                    rintro _ ⟨u, rfl⟩
                    go_wp2
                    go_ret
                    exact ⟨rfl, HBL.out.trans ((over_below wr u).mono HBL.out.size)⟩
                  | some ad2 =>
                    try clear hnn
                    have HS1 := Lib.hid hs1
                    have HS2 := Lib.hid hs2
                    have HS3 := Lib.hid hs3
                    have HS4 := Lib.hid hs4
                    clear hs1 hs2 hs3 hs4
                    go_wp2_with fail
                    refine wp_region_over (by kernel_rfl) (by kernel_rfl) ?_
                    repeat (go_big_quiet_step ((first
                      | (go_at_call 8; with_reducible exact over_call_drew (HS1.out _))
                      | (go_at_call 8; with_reducible exact over_call_drew (HS2.out _))
                      | (go_at_call 8; with_reducible exact over_call_drew (HS3.out _))
                      | (go_at_call 8; with_reducible exact over_call_drew (HS4.out _)))))
                    refine wpQuiet_nil ?_
                    rintro _ ⟨u, rfl⟩
                    go_wp2
                    go_ret
                    exact ⟨rfl, HBL.out.trans ((over_below wr u).mono HBL.out.size)⟩
                | some ad1 =>
                  cases A2 with
                  | none =>
                    obtain rfl : c2 = 0 := N2.out rfl
                    have hz2 := H2.out.nilB
                    have hz1 : a.length = 0 := by omega
                    simp only [hz1] at hs1 hs2 hs3 hs4
                    try clear hnn
                    have HS1 := Lib.hid hs1
                    have HS2 := Lib.hid hs2
                    have HS3 := Lib.hid hs3
                    have HS4 := Lib.hid hs4
                    clear hs1 hs2 hs3 hs4
                    go_wp2_with fail
                    refine wp_region_over (by kernel_rfl) (by kernel_rfl) ?_
                    repeat (go_big_quiet_step ((first
                      | (go_at_call 8; with_reducible exact over_call_drew (HS1.out _))
                      | (go_at_call 8; with_reducible exact over_call_drew (HS2.out _))
                      | (go_at_call 8; with_reducible exact over_call_drew (HS3.out _))
                      | (go_at_call 8; with_reducible exact over_call_drew (HS4.out _)))))
                    refine wpQuiet_nil ?_
                    rintro _ ⟨u, rfl⟩
                    go_wp2
                    go_ret
                    exact ⟨rfl, HBL.out.trans ((over_below wr u).mono HBL.out.size)⟩
                  | some ad2 =>
                    try clear hnn
                    have HS1 := Lib.hid hs1
                    have HS2 := Lib.hid hs2
                    have HS3 := Lib.hid hs3
                    have HS4 := Lib.hid hs4
                    clear hs1 hs2 hs3 hs4
                    go_wp2_with fail
                    refine wp_region_over (by kernel_rfl) (by kernel_rfl) ?_
                    repeat (go_big_quiet_step ((first
                      | (go_at_call 8; with_reducible exact over_call_drew (HS1.out _))
                      | (go_at_call 8; with_reducible exact over_call_drew (HS2.out _))
                      | (go_at_call 8; with_reducible exact over_call_drew (HS3.out _))
                      | (go_at_call 8; with_reducible exact over_call_drew (HS4.out _)))))
                    refine wpQuiet_nil ?_
                    rintro _ ⟨u, rfl⟩
                    go_wp2
                    go_ret
                    exact ⟨rfl, HBL.out.trans ((over_below wr u).mono HBL.out.size)⟩
          · have T0 : Hid (Two w ((w'.drew.alloc (.cells (bv (List.replicate a.length (0 : UInt8))).toArray 5)).alloc (.cells (bv (List.replicate a.length (0 : UInt8))).toArray 5)) (w'.heap.size + 1) w'.heap.size a.length 0 z) := by
              refine ⟨?_, ?_, by omega, by have := B4.size; omega, ((bdrewN B4 1).alloc (by have := B4.size; simp; omega) _).alloc (by have := B4.size; simp; omega) _⟩
              · rw [xk_zero]; exact by have := heap_alloc_new (w'.drew.alloc (.cells (bv (List.replicate a.length (0 : UInt8))).toArray 5)) (.cells (bv (List.replicate a.length (0 : UInt8))).toArray 5); simpa using this
              · exact (Below.heap_alloc _ _ _ (by simp)).trans (heap_alloc_new w'.drew _)
            go_wp2_with fail
            go_loopw [62] (fun s wr => ∃ k : Nat, k ≤ a.length ∧ s = .int .i64 (k : Int) ∧ Hid (Two w wr (w'.heap.size + 1) w'.heap.size a.length k z)) (fun s _ => a.length - (intOf s).toNat)
            case atStart => exact ⟨0, Nat.zero_le _, rfl, T0⟩
            case round =>
              obtain ⟨k, hk, rfl, ht⟩ := hrel
              clear T0
              by_cases hlt : k < a.length
              · have hka : k < a.length := Nat.lt_of_lt_of_le hlt na.out
                have hkb : k < b.length := Nat.lt_of_lt_of_le hlt nb.out
                obtain ⟨b1, o1, rfl, hb1, hc1⟩ := (H1.out.below ht.out.below).byte hka
                obtain ⟨b2, o2, rfl, hb2, hc2⟩ := (H2.out.below ht.out.below).byte hkb
                have hi1 : (k : Int) < ((a.length : Nat) : Int) := by omega
                have hi2 : (k : Int) < ((b.length : Nat) : Int) := by omega
                have hxl : (xk z a.length k).length = a.length := xk_len _ _ _ HZL.out (by omega)
                obtain ⟨u, hcx⟩ : ∃ u, wr.cell? ⟨(w'.heap.size + 1), k, none⟩ = some u := ⟨_, ((Blk.of_heap ht.out.x).cell k).trans (Array.getElem?_eq_getElem (by rw [List.size_toArray, bv_len, hxl]; exact hlt))⟩
                have hfx : wr.frozen? ⟨(w'.heap.size + 1), k, none⟩ = false := (Blk.of_heap ht.out.x).free k
                have hzk : Hid (k < z.length) := by show _ < _; rw [HZL.out]; exact hlt
                have hxr : bits BinOp.xor IntKind.u8 ((a[k].toNat : Nat) : Int) ((b[k].toNat : Nat) : Int) = ((z[k]'hzk.out).toNat : Int) := by
                  rw [u8_xor_nat _ _ (a[k].toNat_lt) (b[k].toNat_lt), ← UInt8.toNat_xor]
                  congr 2
                  simp [← HZ.out]
                clear hxl
                go_wp2_with fail
                go_still_tail 12, (by kernel_rfl)
                go_wp2_with fail
                go_roundw
                case rel => exact ⟨k + 1, by omega, by simp, ht.out.step HZL.out hlt _⟩
                case measure => simp [intOf]; omega
              · have hkk : k = a.length := by omega
                subst hkk
                have hx := ht.out.x
                have hzz := ht.out.z
                have hbl := ht.out.below
                rw [xk_full z _ HZL.out] at hx
                have gx1 : (w'.heap.size + 1) < wr.heap.size := (Array.getElem?_eq_some_iff.1 hx).1
                have gz1 : w'.heap.size < wr.heap.size := (Array.getElem?_eq_some_iff.1 hzz).1
                have hq : (bits BinOp.xor IntKind.u32 (more 0 z : Int) (more 0 (List.replicate a.length (0 : UInt8)) : Int) == bits BinOp.xor IntKind.u32 (more 0 (a.take a.length) : Int) (more 0 (b.take a.length) : Int)) = true := by
                  rw [u32_xor_nat _ _ (more_lt _ _) (more_lt _ _), u32_xor_nat _ _ (more_lt _ _) (more_lt _ _)]
                  have hml := more_linear (a.take a.length) (b.take a.length) (by rw [List.length_take, List.length_take, Nat.min_eq_left na.out, Nat.min_eq_left nb.out]) 0
                  rw [HZ.out, List.length_take, Nat.min_eq_left na.out] at hml
                  rw [hml]
                  simp
                have hTu : ∀ u, Tab (over wr u) := fun u => HTw.out.below HTw.out.1 (hbl.trans ((over_below wr u).mono hbl.size))
                have hs1 : ∀ u, Calls Tryd.prog 8 #[.slice (some ⟨(w'.heap.size + 1), 0, none⟩) a.length a.length] (over wr u) fun e w' => e = .returned (.int .u32 (more 0 z : Int)) ∧ ∃ n, w' = (over wr u).drewN n := fun u => by
                  have hc := sum_any (some ⟨(w'.heap.size + 1), 0, none⟩) a.length _ z (over wr u) (hTu u) (Sl.of_block ((over_heap wr u _ gx1).trans hx)) (by rw [HZL.out]; unfold maxLen; omega)
                  rw [HZL.out] at hc
                  exact hc.mono fun e w' ⟨he, hw⟩ => ⟨he, 0, hw⟩
                have hs2 : ∀ u, Calls Tryd.prog 8 #[.slice (some ⟨w'.heap.size, 0, none⟩) a.length a.length] (over wr u) fun e w' => e = .returned (.int .u32 (more 0 (List.replicate a.length (0 : UInt8)) : Int)) ∧ ∃ n, w' = (over wr u).drewN n := fun u => by
                  have hc := sum_any (some ⟨w'.heap.size, 0, none⟩) a.length _ (List.replicate a.length (0 : UInt8)) (over wr u) (hTu u) (Sl.of_block ((over_heap wr u _ gz1).trans hzz)) (by simp; unfold maxLen; omega)
                  rw [List.length_replicate] at hc
                  exact hc.mono fun e w' ⟨he, hw⟩ => ⟨he, 0, hw⟩
                have hs3 : ∀ u, Calls Tryd.prog 8 #[.slice A1 a.length c1] (over wr u) fun e w' => e = .returned (.int .u32 (more 0 (a.take a.length) : Int)) ∧ ∃ n, w' = (over wr u).drewN n := fun u => by
                  have hc := sum_any A1 c1 w.heap.size (a.take a.length) (over wr u) (hTu u) ((H1.out.below (hbl.trans ((over_below wr u).mono hbl.size))).takeB _) (by rw [List.length_take]; unfold maxLen; omega)
                  rw [List.length_take, Nat.min_eq_left na.out] at hc
                  exact hc.mono fun e w' ⟨he, hw⟩ => ⟨he, 0, hw⟩
                have hs4 : ∀ u, Calls Tryd.prog 8 #[.slice A2 a.length c2] (over wr u) fun e w' => e = .returned (.int .u32 (more 0 (b.take a.length) : Int)) ∧ ∃ n, w' = (over wr u).drewN n := fun u => by
                  have hc := sum_any A2 c2 w.heap.size (b.take a.length) (over wr u) (hTu u) ((H2.out.below (hbl.trans ((over_below wr u).mono hbl.size))).takeB _) (by rw [List.length_take]; unfold maxLen; omega)
                  rw [List.length_take, Nat.min_eq_left nb.out] at hc
                  exact hc.mono fun e w' ⟨he, hw⟩ => ⟨he, 0, hw⟩
                generalize more 0 z = u1 at hq hs1
                generalize more 0 (List.replicate a.length (0 : UInt8)) = u2 at hq hs2
                have hnn : a.length = 0 → b.length = 0 → more 0 (a.take a.length) = more 0 (b.take a.length) := fun e1 e2 => by
                  rw [List.eq_nil_of_length_eq_zero e1, List.eq_nil_of_length_eq_zero e2]
                generalize more 0 (a.take a.length) = u3 at hq hs3 hnn
                generalize more 0 (b.take a.length) = u4 at hq hs4 hnn
                have r1 : ((a.length : Nat) : Int) ≤ ((c1 : Nat) : Int) := by have := K1.out; have := na.out; omega
                have r2 : ((a.length : Nat) : Int) ≤ ((c2 : Nat) : Int) := by have := K2.out; have := nb.out; omega
                have HBL := Lib.hid hbl
                clear hx hzz ht hTu hbl
                cases A1 with
                | none =>
                  have hz1 := H1.out.nilB
                  obtain rfl : c1 = 0 := N1.out rfl
                  simp only [hz1] at hs1 hs2 hs3 hs4
                  cases A2 with
                  | none =>
                    obtain rfl : c2 = 0 := N2.out rfl
                    have hz2 := H2.out.nilB
                    obtain rfl : u3 = u4 := hnn hz1 hz2
                    clear hnn
                    try clear hnn
                    have HS1 := Lib.hid hs1
                    have HS2 := Lib.hid hs2
                    have HS3 := Lib.hid hs3
                    have HS4 := Lib.hid hs4
                    clear hs1 hs2 hs3 hs4
                    go_wp2_with fail
                    refine wp_region_over (by kernel_rfl) (by kernel_rfl) ?_
                    repeat (go_big_quiet_step ((first
                      | (go_at_call 8; with_reducible exact over_call_drew (HS1.out _))
                      | (go_at_call 8; with_reducible exact over_call_drew (HS2.out _))
                      | (go_at_call 8; with_reducible exact over_call_drew (HS3.out _))
                      | (go_at_call 8; with_reducible exact over_call_drew (HS4.out _)))))
                    refine wpQuiet_nil ?_
                    rintro _ ⟨u, rfl⟩
                    go_wp2
                    go_ret
                    exact ⟨rfl, HBL.out.trans ((over_below wr u).mono HBL.out.size)⟩
                  | some ad2 =>
                    try clear hnn
                    have HS1 := Lib.hid hs1
                    have HS2 := Lib.hid hs2
                    have HS3 := Lib.hid hs3
                    have HS4 := Lib.hid hs4
                    clear hs1 hs2 hs3 hs4
                    go_wp2_with fail
                    refine wp_region_over (by kernel_rfl) (by kernel_rfl) ?_
                    repeat (go_big_quiet_step ((first
                      | (go_at_call 8; with_reducible exact over_call_drew (HS1.out _))
                      | (go_at_call 8; with_reducible exact over_call_drew (HS2.out _))
                      | (go_at_call 8; with_reducible exact over_call_drew (HS3.out _))
                      | (go_at_call 8; with_reducible exact over_call_drew (HS4.out _)))))
                    refine wpQuiet_nil ?_
                    rintro _ ⟨u, rfl⟩
                    go_wp2
                    go_ret
                    exact ⟨rfl, HBL.out.trans ((over_below wr u).mono HBL.out.size)⟩
                | some ad1 =>
                  cases A2 with
                  | none =>
                    obtain rfl : c2 = 0 := N2.out rfl
                    have hz2 := H2.out.nilB
                    have hz1 : a.length = 0 := by omega
                    simp only [hz1] at hs1 hs2 hs3 hs4
                    try clear hnn
                    have HS1 := Lib.hid hs1
                    have HS2 := Lib.hid hs2
                    have HS3 := Lib.hid hs3
                    have HS4 := Lib.hid hs4
                    clear hs1 hs2 hs3 hs4
                    go_wp2_with fail
                    refine wp_region_over (by kernel_rfl) (by kernel_rfl) ?_
                    repeat (go_big_quiet_step ((first
                      | (go_at_call 8; with_reducible exact over_call_drew (HS1.out _))
                      | (go_at_call 8; with_reducible exact over_call_drew (HS2.out _))
                      | (go_at_call 8; with_reducible exact over_call_drew (HS3.out _))
                      | (go_at_call 8; with_reducible exact over_call_drew (HS4.out _)))))
                    refine wpQuiet_nil ?_
                    rintro _ ⟨u, rfl⟩
                    go_wp2
                    go_ret
                    exact ⟨rfl, HBL.out.trans ((over_below wr u).mono HBL.out.size)⟩
                  | some ad2 =>
                    try clear hnn
                    have HS1 := Lib.hid hs1
                    have HS2 := Lib.hid hs2
                    have HS3 := Lib.hid hs3
                    have HS4 := Lib.hid hs4
                    clear hs1 hs2 hs3 hs4
                    go_wp2_with fail
                    refine wp_region_over (by kernel_rfl) (by kernel_rfl) ?_
                    repeat (go_big_quiet_step ((first
                      | (go_at_call 8; with_reducible exact over_call_drew (HS1.out _))
                      | (go_at_call 8; with_reducible exact over_call_drew (HS2.out _))
                      | (go_at_call 8; with_reducible exact over_call_drew (HS3.out _))
                      | (go_at_call 8; with_reducible exact over_call_drew (HS4.out _)))))
                    refine wpQuiet_nil ?_
                    rintro _ ⟨u, rfl⟩
                    go_wp2
                    go_ret
                    exact ⟨rfl, HBL.out.trans ((over_below wr u).mono HBL.out.size)⟩
end Go.Proofs.YtocifijoogeafaaDoor
