/- tidelineref04: do at any call; Do. CallAnswers: the walk. A slice of calls that came in. -/
import Derived.Test.YtjkilpjdgjijiaaDoorDoM1
import Derived.Test.YtjkilpjdgjijiaaDoorDoM2
import Derived.Test.YtjkilpjdgjijiaaDoorDoM3
import Derived.Test.YtjkilpjdgjijiaaDoorCqK
import Derived.Test.YtjkilpjdgjijiaaDoorAnE
import Derived.Test.YtjkilpjdgjijiaaDoorAnD
import Derived.Test.YtjkilpjdgjijiaaDoorCallRead
namespace Go.Proofs.YtjkilpjdgjijiaaDoor
open Go.RowKit
set_option linter.unusedVariables false
attribute [local go_sem] Oper.semAt_some

theorem do_any (g m : Nat) (a1 a4 a5 : Int) (a2 a3 : ByteArray) (A : Option Addr) (n c : Nat) (W : World) (h : Tr W g m) (hm : m + 1 ≤ 64) (ha2 : a2.size ≤ 400) (ha3 : a3.size ≤ 400) (ld : List UInt8) (hld0 : Sl W W.heap.size A (bv ld)) (hln : ld.length = n) :
    Calls Tryd.prog 53 #[.pointer (some ⟨g, 0, none⟩), .agg #[.int .i64 a1, .string a2, .string a3, .int .i64 a4, .int .i64 a5, .slice A n c]] W fun e w' => DoR w' e ∧ TrTo g (m + 1) W w' := by
  by_cases hk : a1 < 1 ∨ 12 ≤ a1
  · exact do_bad g m a1 a4 a5 a2 a3 A n c W h hm ha2 ha3 hk
  · have hc : a1 = 1 ∨ a1 = 2 ∨ a1 = 3 ∨ a1 = 4 ∨ a1 = 5 ∨ a1 = 6 ∨ a1 = 7 ∨ a1 = 8 ∨ a1 = 9 ∨ a1 = 10 ∨ a1 = 11 := by omega
    rcases hc with rfl | rfl | rfl | rfl | rfl | rfl | rfl | rfl | rfl | rfl | rfl
    · exact do_make1 g m a4 a5 a2 a3 A n c W h hm ha2 ha3
    · exact do_rm2 g m a4 a5 a2 a3 A n c W h hm ha2 ha3
    · exact do_make3 g m a4 a5 a2 a3 A n c W h hm ha2 ha3
    · exact do_rm4 g m a4 a5 a2 a3 A n c W h hm ha2 ha3
    · exact do_link g m a4 a5 a2 a3 A n c W h hm ha2 ha3
    · exact do_rename g m a4 a5 a2 a3 A n c W h hm ha2 ha3
    · exact do_write g m a4 a5 a2 a3 A n c W h hm ha2 ha3 ld hld0 hln
    · exact do_read g m a4 a5 a2 a3 A n c W h hm ha2 ha3
    · exact do_cut g m a4 a5 a2 a3 A n c W h hm ha2 ha3
    · exact do_stat g m a4 a5 a2 a3 A n c W h hm ha2 ha3
    · exact do_list g m a4 a5 a2 a3 A n c W h hm ha2 ha3

/-- What Do answers. -/
def AnsR (w : World) (e : Ending) : Prop := ∃ (y : An) (A1 : Option Addr) (c1 : Nat) (A2 : Option Addr) (c2 : Nat), e = .returned (y.val A1 c1 A2 c2) ∧ AnSm y ∧ Sl w w.heap.size A1 (bv y.d) ∧ (A1 = none → c1 = 0) ∧ Sl w w.heap.size A2 (y.ns.map Value.string)
theorem results_cellx {P : Program} {fn : Func} {p : Tmp} {ty : TypeId} (h : fn.results = #[.cell p ty]) (tmps : Array Value) (w : World) (g : Nat) (t : TypeId) (cs : Array Value) (fr : Nat × Nat) (d : TypeDesc)
    (hp : tmps.getD p undef = .pointer (some ⟨g, 0, none⟩)) (hg : w.heap[g]? = some (.cells cs t fr))
    (hu : P.underlying ty = some d) (hd : (match d with | .struct _ | .array _ _ => true | _ => false) = true) (hi : (P.info? ty).map (·.size) = some cs.size) :
    (results fn tmps).run P w = .ok (.agg cs) w := by
  have hp2 : tmps[p]?.getD undef = .pointer (some ⟨g, 0, none⟩) := by simpa using hp
  simp [results, h, hp2, asAddr, run_loadVar_row w g t ty cs fr d hg hu hd hi]

theorem Sl.notz {w w' : World} {B b : Nat} {A : Option Addr} {xs : List Value} {t : TypeId} (h : Sl w B A xs) (hB : B ≤ w.heap.size) (hb : w.heap[b]? = some (.cells zAnCs t (0, 0))) (hf : Fr (fun k => k = b) w w') (hx : ∀ v ∈ xs, v ∉ zAnCs.toList) : Sl w' w'.heap.size A xs := by
  rcases h with h | ⟨b0, o, rfl, hb0, hr⟩
  · exact .inl h
  · cases xs with
    | nil => exact .inl rfl
    | cons x xs =>
      have h0 := hr 0 x rfl
      have hne : ¬ b0 = b := by
        rintro rfl
        rw [cell_of_row w b0 (o + 0) zAnCs t (0, 0) hb] at h0
        have hm : x ∈ zAnCs.toList := by
          have := List.mem_of_getElem? (l := zAnCs.toList) (i := o + 0) (a := x) (by simpa using h0)
          exact this
        exact hx x List.mem_cons_self hm
      refine .inr ⟨b0, o, rfl, Nat.lt_of_lt_of_le (Nat.lt_of_lt_of_le hb0 hB) hf.size, fun k v hv => ?_⟩
      rw [World.cell?_of_block (a := ⟨b0, o + k, none⟩) (hf.block b0 (by omega) hne)]
      exact hr k v hv
theorem bv_notz (l : List UInt8) : ∀ v ∈ bv l, v ∉ zAnCs.toList := by
  intro v hv
  obtain ⟨x, -, rfl⟩ := List.mem_map.1 hv
  simp
theorem sv_notz (l : List ByteArray) : ∀ v ∈ l.map Value.string, v ∉ zAnCs.toList := by
  intro v hv
  obtain ⟨x, -, rfl⟩ := List.mem_map.1 hv
  simp
/-- Do's own answer block, behind do. -/
structure DoA2 (W : World) (g m : Nat) (ys : Array Value) (w : World) : Prop where
  tr : Tr w g m
  fr : Fr (fun k => k = g) W w
  b4 : w.heap[W.heap.size + 1]? = some (.cells zAnCs 30 (0, 0))
  b5 : ∃ b5, w.heap.size = b5 + 1 ∧ w.heap[b5]? = some (.cells ys 30 (0, 0))
theorem DoA2.end_ {W w : World} {g m : Nat} {ys : Array Value} (h : DoA2 W g m ys w) (zs : Array Value) : TrTo g m W (w.setRow (W.heap.size + 1) zs) :=
  ⟨h.tr.far h.b4 (fr_rowx _ _ _) (by decide) (by decide) (by decide), h.fr.trans (fr_rowx _ _ _) (fun i hi e => by omega)⟩

attribute [local go_sem ↓] exec_load_an4 exec_store_an4
set_option maxRecDepth 100000 in
set_option maxHeartbeats 8000000 in
theorem tdo_any (g m : Nat) (a1 a4 a5 : Int) (a2 a3 : ByteArray) (A : Option Addr) (n c : Nat) (W : World) (h : Tr W g m) (hm : m + 1 ≤ 64) (ha2 : a2.size ≤ 400) (ha3 : a3.size ≤ 400) (ld : List UInt8) (hld0 : Sl W W.heap.size A (bv ld)) (hln : ld.length = n) :
    Calls Tryd.prog 22 #[.pointer (some ⟨g, 0, none⟩), .agg #[.int .i64 a1, .string a2, .string a3, .int .i64 a4, .int .i64 a5, .slice A n c]] W fun e w' => AnsR w' e ∧ TrTo g (m + 1) W w' := by
  have HD := Lib.hid (fun (X : World) (hb : Below W.heap.size W X) => do_any g m a1 a4 a5 a2 a3 A n c X (h.below hb) hm ha2 ha3 ld ((hld0.below hb).more hb.size) hln)
  have HB : Hid (Below W.heap.size W ((W.alloc (.cells #[.int .i64 a1, .string a2, .string a3, .int .i64 a4, .int .i64 a5, .slice A n c] 26)).alloc (.cells zAnCs 30))) := Lib.hid (((Below.refl _ _).alloc (Nat.le_refl _) _).alloc (by simp) _)
  have hlg := h.lt
  clear h ha2 ha3 hld0 hln hm
  go_enter Tryd.func22, Tryd.ntmps22
  go_wp2_with fail
  refine (HD.out _ HB.out).mono ?_
  rintro e W1 ⟨⟨y, A1, c1, A2, c2, k, he, hk0, hk1, hsm, hs1, hn1, hs2⟩, ht⟩
  obtain ⟨y1, y2, y3, y4, y5, y6⟩ := y
  obtain ⟨nd, hnd⟩ : ∃ k, y5.length = k := ⟨_, rfl⟩
  obtain ⟨nn, hnn⟩ : ∃ k, y6.length = k := ⟨_, rfl⟩
  have he : e = .returned (.tuple #[.agg #[.int .i64 y1, .int .i64 y2, .int .i64 y3, .int .i64 y4, .slice A1 nd c1, .slice A2 nn c2], .int .i64 k]) := by rw [he, ← hnd, ← hnn]
  subst he
  have HSM := Lib.hid hsm
  have HS1 : Hid (Sl W1 W1.heap.size A1 (bv y5)) := Lib.hid hs1
  have HS2 : Hid (Sl W1 W1.heap.size A2 (y6.map Value.string)) := Lib.hid hs2
  have HN1 := Lib.hid hn1
  have HND := Lib.hid hnd
  have HNN := Lib.hid hnn
  have hb4 : W1.heap[W.heap.size + 1]? = some (.cells zAnCs 30 (0, 0)) := by
    have h0 := heap_alloc_new (W.alloc (.cells #[.int .i64 a1, .string a2, .string a3, .int .i64 a4, .int .i64 a5, .slice A n c] 26)) (.cells zAnCs 30)
    rw [World.size_alloc] at h0
    exact (ht.2.block (W.heap.size + 1) (by simp) (by omega)).trans h0
  have hA2 : DoA2 W g (m + 1) #[.int .i64 y1, .int .i64 y2, .int .i64 y3, .int .i64 y4, .slice A1 nd c1, .slice A2 nn c2] (W1.alloc (.cells #[.int .i64 y1, .int .i64 y2, .int .i64 y3, .int .i64 y4, .slice A1 nd c1, .slice A2 nn c2] 30)) :=
    have hbl : Below W1.heap.size W1 (W1.alloc (.cells #[.int .i64 y1, .int .i64 y2, .int .i64 y3, .int .i64 y4, .slice A1 nd c1, .slice A2 nn c2] 30)) := (Below.refl _ _).alloc (Nat.le_refl _) _
    ⟨ht.1.below hbl, ((Fr.of_below HB.out).trans ht.2 (fun _ _ h => h)).thenBelow hbl, (hbl.block _ (Array.getElem?_eq_some_iff.1 hb4).1).trans hb4, W1.heap.size, by simp, heap_alloc_new W1 _⟩
  have HA2 := Lib.hid hA2
  have HSL : Hid (∀ zs, Sl ((W1.alloc (.cells #[.int .i64 y1, .int .i64 y2, .int .i64 y3, .int .i64 y4, .slice A1 nd c1, .slice A2 nn c2] 30)).setRow (W.heap.size + 1) zs) ((W1.alloc (.cells #[.int .i64 y1, .int .i64 y2, .int .i64 y3, .int .i64 y4, .slice A1 nd c1, .slice A2 nn c2] 30)).setRow (W.heap.size + 1) zs).heap.size A1 (bv y5) ∧ Sl ((W1.alloc (.cells #[.int .i64 y1, .int .i64 y2, .int .i64 y3, .int .i64 y4, .slice A1 nd c1, .slice A2 nn c2] 30)).setRow (W.heap.size + 1) zs) ((W1.alloc (.cells #[.int .i64 y1, .int .i64 y2, .int .i64 y3, .int .i64 y4, .slice A1 nd c1, .slice A2 nn c2] 30)).setRow (W.heap.size + 1) zs).heap.size A2 (y6.map Value.string)) := Lib.hid (fun zs =>
    ⟨Sl.notz (HS1.out.alloc (Nat.le_refl _) _) (by simp) hA2.b4 (fr_rowx _ _ _) (bv_notz _), Sl.notz (HS2.out.alloc (Nat.le_refl _) _) (by simp) hA2.b4 (fr_rowx _ _ _) (sv_notz _)⟩)
  have hst5 : stR Tryd.prog 30 (.pointer (some ⟨W1.heap.size, 0, none⟩)) (.agg #[.int .i64 y1, .int .i64 y2, .int .i64 y3, .int .i64 y4, .slice A1 nd c1, .slice A2 nn c2]) (W1.alloc (.cells zAnCs 30)) = .ok .skip (W1.alloc (.cells #[.int .i64 y1, .int .i64 y2, .int .i64 y3, .int .i64 y4, .slice A1 nd c1, .slice A2 nn c2] 30)) := by
    have h := stR_row (P := Tryd.prog) 30 (W1.alloc (.cells zAnCs 30)) W1.heap.size zAnCs #[.int .i64 y1, .int .i64 y2, .int .i64 y3, .int .i64 y4, .slice A1 nd c1, .slice A2 nn c2] (heap_alloc_new W1 _) (show (6 : Nat) = 6 from rfl) (by kernel_rfl) (one_all rfl)
    rw [setRow_alloc] at h
    exact h
  have hld5 := ldR_row (P := Tryd.prog) 30 (W1.alloc (.cells #[.int .i64 y1, .int .i64 y2, .int .i64 y3, .int .i64 y4, .slice A1 nd c1, .slice A2 nn c2] 30)) W1.heap.size 30 #[.int .i64 y1, .int .i64 y2, .int .i64 y3, .int .i64 y4, .slice A1 nd c1, .slice A2 nn c2] (0, 0) _ (heap_alloc_new W1 _) Tryd.underlying30 rfl (by kernel_rfl)
  have hst4 := fun (a b c d : Int) (B1 B2 : Option Addr) (n1 d1 n2 d2 : Nat) => stR_row (P := Tryd.prog) 30 (W1.alloc (.cells #[.int .i64 y1, .int .i64 y2, .int .i64 y3, .int .i64 y4, .slice A1 nd c1, .slice A2 nn c2] 30)) (W.heap.size + 1) zAnCs #[.int .i64 a, .int .i64 b, .int .i64 c, .int .i64 d, .slice B1 n1 d1, .slice B2 n2 d2] hA2.b4 (show (6 : Nat) = 6 from rfl) (by kernel_rfl) (one_all rfl)
  clear hsm hs1 hs2 hn1 hnd hnn hb4 hA2 ht HB HD
  by_cases hk : k = 0
  · subst hk
    go_wp2_with fail
    refine bodyPost_ret (v := .agg #[.int .i64 y1, .int .i64 y2, .int .i64 y3, .int .i64 y4, .slice A1 nd c1, .slice A2 nn c2]) (results_cellx Tryd.results22 _ _ (W.heap.size + 1) 30 #[.int .i64 y1, .int .i64 y2, .int .i64 y3, .int .i64 y4, .slice A1 nd c1, .slice A2 nn c2] (0, 0) _ rfl (setRow_at _ _ _ _ _ _ HA2.out.b4) Tryd.underlying30 rfl (by kernel_rfl)) rfl ?_
    exact ⟨⟨⟨y1, y2, y3, y4, y5, y6⟩, A1, c1, A2, c2, by rw [An.val, HND.out, HNN.out], HSM.out, (HSL.out _).1, HN1.out, (HSL.out _).2⟩, HA2.out.end_ _⟩
  · go_wp2_with fail
    refine bodyPost_ret (v := .agg #[.int .i64 k, .int .i64 0, .int .i64 0, .int .i64 0, .slice none 0 0, .slice none 0 0]) (results_cellx Tryd.results22 _ _ (W.heap.size + 1) 30 #[.int .i64 k, .int .i64 0, .int .i64 0, .int .i64 0, .slice none 0 0, .slice none 0 0] (0, 0) _ rfl (setRow_at _ _ _ _ _ _ HA2.out.b4) Tryd.underlying30 rfl (by kernel_rfl)) rfl ?_
    have hkr : InR k := ⟨by omega, by omega⟩
    exact ⟨⟨⟨k, 0, 0, 0, [], []⟩, none, 0, none, 0, rfl, ⟨hkr, inR0, inR0, inR0, by simp, by simp, by simp⟩, Sl.nil, fun _ => rfl, Sl.nil⟩, HA2.out.end_ _⟩

abbrev ndz : List Value := [.int .i64 0, .int .i64 0, .int .i64 0, .slice none 0 0, .slice none 0 0]
theorem rep_get : ∀ (n i f : Nat), i < n → f < 5 → ((List.replicate n ndz).flatten)[i * 5 + f]? = ndz[f]?
  | 0, i, f, h, _ => by omega
  | n + 1, 0, f, h, hf => by
    rw [List.replicate_succ, List.flatten_cons, List.getElem?_append_left (by show 0 * 5 + f < 5; omega), Nat.zero_mul, Nat.zero_add]
  | n + 1, i + 1, f, h, hf => by
    rw [List.replicate_succ, List.flatten_cons, List.getElem?_append_right (by show 5 ≤ _; omega)]
    have e : (i + 1) * 5 + f - ndz.length = i * 5 + f := by show _ - 5 = _; omega
    rw [e]
    exact rep_get n i f (by omega) hf
theorem zero_tree : Tryd.zeroCells96.toList = (List.replicate 64 ndz).flatten := by kernel_rfl
theorem zero_get {i f : Nat} (hi : i < 64) (hf : f < 5) : Tryd.zeroCells96[i * 5 + f]? = ndz[f]? := by
  rw [← Array.getElem?_toList, zero_tree]
  exact rep_get 64 i f hi hf
theorem zero_size : Tryd.zeroCells96.size = 320 := by kernel_rfl
theorem new_tree (W : World) : Tr (W.alloc (.cells (((((Tryd.zeroCells96.setIfInBounds 0 (.int .i64 0)).setIfInBounds 1 (.int .i64 1)).setIfInBounds 2 (.int .i64 1)).setIfInBounds 3 (.slice none 0 0)).setIfInBounds 4 (.slice none 0 0)) 96)) W.heap.size 0 := by
  obtain ⟨Z, hZ⟩ : ∃ Z, Tryd.zeroCells96 = Z := ⟨_, rfl⟩
  have hs : Z.size = 320 := by rw [← hZ]; exact zero_size
  have hg : ∀ i f, i < 64 → f < 5 → Z[i * 5 + f]? = ndz[f]? := fun i f hi hf => by rw [← hZ]; exact zero_get hi hf
  rw [hZ]
  refine ⟨_, heap_alloc_new W _, by simpa using hs, fun j hj => ?_⟩
  have h1 : (Z.setIfInBounds 0 (.int .i64 0)).size = 320 := by simpa using hs
  have h2 : ((Z.setIfInBounds 0 (.int .i64 0)).setIfInBounds 1 (.int .i64 1)).size = 320 := by simpa using hs
  have h3 : (((Z.setIfInBounds 0 (.int .i64 0)).setIfInBounds 1 (.int .i64 1)).setIfInBounds 2 (.int .i64 1)).size = 320 := by simpa using hs
  have h4 : ((((Z.setIfInBounds 0 (.int .i64 0)).setIfInBounds 1 (.int .i64 1)).setIfInBounds 2 (.int .i64 1)).setIfInBounds 3 (.slice none 0 0)).size = 320 := by simpa using hs
  have hget : ∀ q, (((((Z.setIfInBounds 0 (.int .i64 0)).setIfInBounds 1 (.int .i64 1)).setIfInBounds 2 (.int .i64 1)).setIfInBounds 3 (.slice none 0 0)).setIfInBounds 4 (.slice none 0 0))[q]? = if q = 4 then some (.slice none 0 0) else if q = 3 then some (.slice none 0 0) else if q = 2 then some (.int .i64 1) else if q = 1 then some (.int .i64 1) else if q = 0 then some (.int .i64 0) else Z[q]? := by
    intro q
    rw [set_get (by omega), set_get (by omega), set_get (by omega), set_get (by omega), set_get (by omega)]
  have hf0 := hg j 0 hj (by omega)
  have hf1 := hg j 1 hj (by omega)
  have hf2 := hg j 2 hj (by omega)
  have hf3 := hg j 3 hj (by omega)
  have hf4 := hg j 4 hj (by omega)
  by_cases h0 : j = 0
  · subst h0
    refine ⟨⟨0, 1, 1, [], none, 0, [], none, 0⟩, ⟨?_, ?_, ?_, ?_, ?_⟩, ⟨inR0, by decide, by decide, by simp, World.ownsRow_nil _ _ _ _, by simp, by simp, World.ownsRow_nil _ _ _ _⟩⟩ <;> rw [hget] <;> rfl
  · refine ⟨⟨0, 0, 0, [], none, 0, [], none, 0⟩, ⟨?_, ?_, ?_, ?_, ?_⟩, ⟨inR0, inR0, inR0, by simp, World.ownsRow_nil _ _ _ _, by simp, by simp, World.ownsRow_nil _ _ _ _⟩⟩
    · rw [hget, if_neg (by omega), if_neg (by omega), if_neg (by omega), if_neg (by omega), if_neg (by omega)]; exact hf0
    · rw [hget, if_neg (by omega), if_neg (by omega), if_neg (by omega), if_neg (by omega), if_neg (by omega)]; exact hf1
    · rw [hget, if_neg (by omega), if_neg (by omega), if_neg (by omega), if_neg (by omega), if_neg (by omega)]; exact hf2
    · rw [hget, if_neg (by omega), if_neg (by omega), if_neg (by omega), if_neg (by omega), if_neg (by omega)]; exact hf3
    · rw [hget, if_neg (by omega), if_neg (by omega), if_neg (by omega), if_neg (by omega), if_neg (by omega)]; exact hf4
set_option maxRecDepth 1000000 in
set_option maxHeartbeats 8000000 in
theorem tnew_any (W : World) : Calls Tryd.prog 21 #[] W fun e w' => e = .returned (.pointer (some ⟨W.heap.size, 0, none⟩)) ∧ Tr w' W.heap.size 0 ∧ Below W.heap.size W w' := by
  go_enter Tryd.func21, Tryd.ntmps21
  go_wp2_with fail
  go_ret
  exact ⟨rfl, new_tree W, (Below.refl _ _).alloc (Nat.le_refl _) _⟩
end Go.Proofs.YtjkilpjdgjijiaaDoor
namespace Go.Proofs.YtjkilpjdgjijiaaDoor
open Go.RowKit
set_option linter.unusedVariables false
attribute [local go_sem] Oper.semAt_some

/-- A call that came in, where its bytes lie. -/
structure Qc where
  x : Cq
  A : Option Addr
  c : Nat
def Qc.cs (q : Qc) : List Value := [.int .i64 q.x.k, .string q.x.p, .string q.x.o, .int .i64 q.x.f, .int .i64 q.x.n, .slice q.A q.x.d.length q.c]
def qcells (l : List Qc) : List Value := l.flatMap Qc.cs
theorem qcells_get : ∀ (ms : List Qc) (i j : Nat) (hi : i < ms.length), j < 6 → (qcells ms)[i * 6 + j]? = ms[i].cs[j]?
  | [], i, j, hi, hj => by simp at hi
  | x :: ms, 0, j, hi, hj => by
    unfold qcells
    rw [List.flatMap_cons, List.getElem?_append_left (by show 0 * 6 + j < 6; omega)]
    simp
  | x :: ms, i + 1, j, hi, hj => by
    have ih := qcells_get ms i j (by simpa using hi) hj
    unfold qcells at ih ⊢
    rw [List.flatMap_cons, List.getElem?_append_right (by show 6 ≤ _; omega)]
    have e : (i + 1) * 6 + j - x.cs.length = i * 6 + j := by show _ - 6 = _; omega
    rw [e, ih]
    rfl
theorem qcall_at {w : World} {B i : Nat} {A : Option Addr} {l : List Qc} (h : Sl w B A (qcells l)) (hi : i < l.length) : ∃ b o, A = some ⟨b, o, none⟩ ∧ ∀ j v, j < 6 → l[i].cs[j]? = some v → w.cell? ⟨b, o + i * 6 + j, none⟩ = some v := by
  rcases h with h | ⟨b, o, rfl, hb, hr⟩
  · have := qcells_get l i 0 hi (by omega)
    rw [h] at this
    exact absurd this (by simp [Qc.cs])
  · refine ⟨b, o, rfl, fun j v hj hv => ?_⟩
    rw [Nat.add_assoc]
    exact hr _ v ((qcells_get l i j hi hj).trans hv)
theorem samean_selfx (x : An) (A1 A2 A3 A4 : Option Addr) (c1 c2 c3 c4 : Nat) (W : World) (h1 : Sl W W.heap.size A1 (bv x.d)) (h3 : Sl W W.heap.size A3 (x.ns.map Value.string)) (h2 : Sl W W.heap.size A2 (bv x.d)) (h4 : Sl W W.heap.size A4 (x.ns.map Value.string)) (hl : x.d.length ≤ 256) (hk : x.ns.length ≤ 64) :
    Calls Tryd.prog 13 #[x.val A1 c1 A3 c3, x.val A2 c2 A4 c4] W fun e w' => e = .returned (.bool true) ∧ Below W.heap.size W w' := by
  have hm : x.d.length ≤ maxLen := Nat.le_trans hl (by unfold maxLen; omega)
  have hm2 : x.ns.length ≤ maxLen := Nat.le_trans hk (by unfold maxLen; omega)
  have h := samean_any x x A1 A2 A3 A4 c1 c2 c3 c4 W.heap.size W h1 h2 h3 h4 hm hm hm2 hm2 (Nat.le_refl _)
  rw [(An.eqb_iff _ _).2 rfl] at h
  exact h
theorem flatSm : ∀ (ns : List ByteArray), (∀ s ∈ ns, s.size ≤ 300) → ((ns.map putS).flatten).length ≤ ns.length * 304
  | [], _ => by simp
  | a :: l, h => by
    have h1 := flatSm l (fun s hs => h s (List.mem_cons_of_mem _ hs))
    have h2 := h a List.mem_cons_self
    rw [List.map_cons, List.flatten_cons, List.length_append, putS_len, List.length_cons]
    omega
theorem encAn_sm (y : An) (h : AnSm y) : (wrapped (encAn y)).length ≤ 40000 := by
  have h1 := flatSm y.ns h.ns
  have h2 := h.d
  have h3 := h.n
  rw [wrapped_len]
  unfold encAn
  simp only [List.length_append, List.length_nil, lenBytes_len, be_len]
  omega
theorem an_back (y : An) (h : AnSm y) : (unw (wrapped (encAn y))).bind decAn = some y := by
  rw [unw_wrapped, Option.bind_some]
  exact decAn_enc y ⟨h.e, h.k, h.s, h.l, Nat.le_trans h.d (by omega), h.n, h.ns⟩

set_option maxRecDepth 100000 in
set_option maxHeartbeats 8000000 in
theorem cans_walk (l : List Qc) (A : Option Addr) (c : Nat) (m : Int) (w : World) (hT : Tab w) (hm : w.cell? ⟨1, 0, none⟩ = some (.int .i64 m)) (hs : Sl w w.heap.size A (qcells l)) (hd : ∀ x ∈ l, Sl w w.heap.size x.A (bv x.x.d)) :
    Calls Tryd.prog 5 #[.slice A l.length c] w fun en w' => en = .returned (.bool true) ∧ Below w.heap.size w w' := by
  have HSPK := Lib.hid (speaks05 m w hT hm)
  have HT := Lib.hid hT
  have HS := Lib.hid hs
  have HD := Lib.hid hd
  obtain ⟨n, hn⟩ : ∃ n, l.length = n := ⟨_, rfl⟩
  have HN := Lib.hid hn
  rw [hn]
  clear hT hm hs hd hn
  go_enter Tryd.func5, Tryd.ntmps5
  go_wp2_with fail
  refine HSPK.out.mono ?_
  rintro e W0 ⟨rfl, hb0⟩
  have HB0 := Lib.hid hb0
  clear hb0 HSPK
  by_cases h60 : (60 : Int) < (n : Int)
  · go_wp2_with fail
    go_ret
    exact ⟨rfl, HB0.out⟩
  go_wp2_with fail
  refine (tnew_any W0).mono ?_
  rintro e W1 ⟨rfl, ht, hb⟩
  obtain ⟨g, hg⟩ : ∃ g, W0.heap.size = g := ⟨_, rfl⟩
  have HG : Hid (w.heap.size ≤ g) := Lib.hid (by rw [← hg]; exact HB0.out.size)
  rw [hg] at ht ⊢
  have HT1 := Lib.hid ht
  have HB1 := Lib.hid (HB0.out.trans (hb.mono HB0.out.size))
  clear ht hb hg
  go_upto_region 7 with fail
  go_loopw [17] (fun s wr => ∃ (i : Nat), i ≤ n ∧ s = .int .i64 (i : Int) ∧ Hid (Tr wr g i) ∧ Hid (Below w.heap.size w wr)) (fun s _ => n - (intOf s).toNat)
  case atStart => exact ⟨0, Nat.zero_le _, rfl, HT1, HB1⟩
  case round =>
    obtain ⟨i, hi, rfl, HTR, HBW⟩ := hrel
    by_cases hlt : i < n
    · have hi1 : (i : Int) < (n : Int) := by omega
      have hil : i < l.length := by rw [HN.out]; exact hlt
      obtain ⟨b, o, rfl, hq⟩ := qcall_at (HS.out.below HBW.out) hil
      have hxd := (HD.out _ (List.getElem_mem hil)).below HBW.out
      obtain ⟨z, hz⟩ : ∃ z, l[i] = z := ⟨_, rfl⟩
      rw [hz] at hq hxd
      obtain ⟨⟨a1, a2, a3, a4, a5, a6⟩, A6, c6⟩ := z
      obtain ⟨na, hna⟩ : ∃ k, a6.length = k := ⟨_, rfl⟩
      have HNA := Lib.hid hna
      have q0 := hq 0 (.int .i64 a1) (by omega) rfl
      have q1 := hq 1 (.string a2) (by omega) rfl
      have q2 := hq 2 (.string a3) (by omega) rfl
      have q3 := hq 3 (.int .i64 a4) (by omega) rfl
      have q4 := hq 4 (.int .i64 a5) (by omega) rfl
      have q5 := hq 5 (.slice A6 na c6) (by omega) (by rw [← hna]; rfl)
      rw [Nat.add_zero] at q0
      have HXD : Hid (Sl wr w.heap.size A6 (bv a6)) := Lib.hid hxd
      clear hq hxd hz hna
      have HGR : Hid (∀ W : World, Below wr.heap.size wr W → Calls Tryd.prog 7 #[.agg #[.int .i64 a1, .string a2, .string a3, .int .i64 a4, .int .i64 a5, .slice A6 na c6], .agg #[.int .i64 0, .int .i64 0, .int .i64 0, .int .i64 0, .slice none 0 0, .slice none 0 0], .slice none 0 0] W fun e w' => (∃ r, e = .returned (.bool r) ∧ (r = false → a2.size ≤ 400 ∧ a3.size ≤ 400)) ∧ Below W.heap.size W w') := Lib.hid (fun W hb => by
        have h := great_call ⟨a1, a2, a3, a4, a5, a6⟩ ⟨0, 0, 0, 0, [], []⟩ [] A6 none none none c6 0 0 0 W.heap.size W Sl.nil (Nat.le_refl _)
        have hv : (Cq.val ⟨a1, a2, a3, a4, a5, a6⟩ A6 c6) = .agg #[.int .i64 a1, .string a2, .string a3, .int .i64 a4, .int .i64 a5, .slice A6 na c6] := by rw [Cq.val, HNA.out]
        rw [hv] at h
        exact h.mono fun e w' ⟨⟨r, he, hr⟩, hb⟩ => ⟨⟨r, he, fun h => ⟨(hr h).p, (hr h).o⟩⟩, hb⟩)
      go_wp2_with fail
      have hb5 := Blk.new wr #[.int .i64 a1, .string a2, .string a3, .int .i64 a4, .int .i64 a5, .slice A6 na c6] 26
      have hbel5 : Below wr.heap.size wr (wr.alloc (.cells #[.int .i64 a1, .string a2, .string a3, .int .i64 a4, .int .i64 a5, .slice A6 na c6] 26)) := (Below.refl _ _).alloc (Nat.le_refl _) _
      refine (HGR.out _ hbel5).mono ?_
      rintro e W2 ⟨⟨r, rfl, hr⟩, hb2⟩
      have hB2 := hbel5.trans (hb2.mono hbel5.size)
      have HB2 := Lib.hid hB2
      have HR := Lib.hid hr
      have hk5 := (hb5.belowAll hb2).cell
      clear hb5 hbel5 hB2 hb2 hr q0 q1 q2 q3 q4 q5
      cases r with
      | true =>
        go_wp2_with fail
        go_ret
        exact ⟨rfl, HBW.out.trans (HB2.out.mono HBW.out.size)⟩
      | false =>
        obtain ⟨ha2, ha3⟩ := HR.out rfl
        have HDO := Lib.hid (tdo_any g i a1 a4 a5 a2 a3 A6 na c6 W2 (HTR.out.below HB2.out) (by omega) ha2 ha3 a6 ((HXD.out.below (HB2.out.mono HBW.out.size)).more (Nat.le_trans HBW.out.size HB2.out.size)) HNA.out)
        have HLT : Hid (g < wr.heap.size) := Lib.hid HTR.out.lt
        clear ha2 ha3
        go_wp2_with fail
        refine HDO.out.mono ?_
        rintro e W3 ⟨⟨y, A1, c1, A2, c2, he, hsm, hs1, hn1, hs2⟩, ht⟩
        have HSM := Lib.hid hsm
        have hln := encAn_sm y hsm
        have hbk := an_back y hsm
        obtain ⟨LB, hLB⟩ : ∃ L, wrapped (encAn y) = L := ⟨_, rfl⟩
        have HEN := Lib.hid (fun (X : World) (hT : Tab X) (hb : Below W3.heap.size W3 X) => anenc_ok y A1 c1 A2 c2 X.heap.size X hT ((hs1.below hb).more hb.size) hn1 ((hs2.below hb).more hb.size) (Nat.le_refl _) (Nat.le_trans hsm.d (by omega)) (Nat.le_trans hsm.n (by omega)) (fun s hs => Nat.le_trans (hsm.ns s hs) (by omega)))
        rw [hLB] at hln hbk HEN
        have HBK := Lib.hid hbk
        have HLN := Lib.hid hln
        have HS1 := Lib.hid hs1
        have HS2 := Lib.hid hs2
        have HTT := Lib.hid ht
        have HB3 : Hid (Below w.heap.size w W3) := Lib.hid ((HBW.out.trans (HB2.out.mono HBW.out.size)).trans (ht.2.below (Nat.le_trans HBW.out.size HB2.out.size) (fun k hk => by rw [hk]; exact HG.out)))
        clear hsm hln hbk hLB hs1 hn1 hs2 ht hk5
        obtain ⟨y1, y2, y3, y4, y5, y6⟩ := y
        obtain ⟨nd, hnd⟩ : ∃ k, y5.length = k := ⟨_, rfl⟩
        obtain ⟨nn, hnn⟩ : ∃ k, y6.length = k := ⟨_, rfl⟩
        have hv : (An.val ⟨y1, y2, y3, y4, y5, y6⟩ A1 c1 A2 c2) = .agg #[.int .i64 y1, .int .i64 y2, .int .i64 y3, .int .i64 y4, .slice A1 nd c1, .slice A2 nn c2] := by rw [An.val, hnd, hnn]
        rw [hv] at he HEN
        subst he
        have HND := Lib.hid hnd
        have HNN := Lib.hid hnn
        clear hnd hnn hv
        go_wp2_with fail
        have hb6 := Blk.new W3 #[.int .i64 y1, .int .i64 y2, .int .i64 y3, .int .i64 y4, .slice A1 nd c1, .slice A2 nn c2] 30
        have hbel6 : Below W3.heap.size W3 (W3.alloc (.cells #[.int .i64 y1, .int .i64 y2, .int .i64 y3, .int .i64 y4, .slice A1 nd c1, .slice A2 nn c2] 30)) := (Below.refl _ _).alloc (Nat.le_refl _) _
        refine (HEN.out _ (HT.out.below HT.out.1 (HB3.out.trans (hbel6.mono HB3.out.size))) hbel6).mono ?_
        rintro e W4 ⟨⟨A5, c5, rfl, ho5⟩, hb4⟩
        have hB4 := hbel6.trans (hb4.mono hbel6.size)
        have HB4 := Lib.hid hB4
        have hk6 := hb6.belowAll hb4
        have HK6 := Lib.hid hk6
        have HBW4 := Lib.hid (HB3.out.trans (hB4.mono HB3.out.size))
        have HDE := Lib.hid (andec_any A5 c5 W4.heap.size LB W4 (HT.out.below HT.out.1 HBW4.out) (Sl.of_own ho5) (own_capC ho5) (Nat.le_trans HLN.out (by omega)) (Nat.le_refl _))
        rw [HBK.out] at HDE
        clear hb6 hbel6 hb4 hB4 hk6 ho5 HEN
        go_wp2_with fail
        refine HDE.out.mono ?_
        rintro e W5 ⟨A8, c8, A9, c9, he, hb5, ho8, ho9⟩
        have he : e = .returned (.tuple #[.agg #[.int .i64 y1, .int .i64 y2, .int .i64 y3, .int .i64 y4, .slice A8 y5.length c8, .slice A9 y6.length c9], .int .i64 0]) := he
        rw [HND.out, HNN.out] at he
        subst he
        have ho8 : W5.ownsRow W4.heap.size 5 1 (.slice A8 y5.length c8) y5.length (bv y5) := ho8
        have ho9 : W5.ownsRow W4.heap.size 9 1 (.slice A9 y6.length c9) y6.length (y6.map Value.string) := ho9
        have HS8 := Lib.hid (Sl.of_own ho8)
        have HS9 := Lib.hid (Sl.of_own ho9)
        have HB5 := Lib.hid (HB4.out.trans (hb5.mono HB4.out.size))
        have hk6 := (HK6.out.belowAll hb5)
        have hbel7 : Below W5.heap.size W5 (W5.alloc (.cells #[.int .i64 y1, .int .i64 y2, .int .i64 y3, .int .i64 y4, .slice A8 nd c8, .slice A9 nn c9] 30)) := (Below.refl _ _).alloc (Nat.le_refl _) _
        have hk6a := (hk6.belowAll hbel7).cell
        have HBE : Hid (Below W3.heap.size W3 (W5.alloc (.cells #[.int .i64 y1, .int .i64 y2, .int .i64 y3, .int .i64 y4, .slice A8 nd c8, .slice A9 nn c9] 30))) := Lib.hid (HB5.out.trans (hbel7.mono HB5.out.size))
        have HSA : Hid (Calls Tryd.prog 13 #[.agg #[.int .i64 y1, .int .i64 y2, .int .i64 y3, .int .i64 y4, .slice A1 nd c1, .slice A2 nn c2], .agg #[.int .i64 y1, .int .i64 y2, .int .i64 y3, .int .i64 y4, .slice A8 nd c8, .slice A9 nn c9]] (W5.alloc (.cells #[.int .i64 y1, .int .i64 y2, .int .i64 y3, .int .i64 y4, .slice A8 nd c8, .slice A9 nn c9] 30)) fun e w' => e = .returned (.bool true) ∧ Below (W5.alloc (.cells #[.int .i64 y1, .int .i64 y2, .int .i64 y3, .int .i64 y4, .slice A8 nd c8, .slice A9 nn c9] 30)).heap.size (W5.alloc (.cells #[.int .i64 y1, .int .i64 y2, .int .i64 y3, .int .i64 y4, .slice A8 nd c8, .slice A9 nn c9] 30)) w') := Lib.hid (by
          have h := samean_selfx ⟨y1, y2, y3, y4, y5, y6⟩ A1 A8 A2 A9 c1 c8 c2 c9 _ ((HS1.out.below HBE.out).more HBE.out.size) ((HS2.out.below HBE.out).more HBE.out.size) ((HS8.out.alloc (Nat.le_refl _) (.cells #[.int .i64 y1, .int .i64 y2, .int .i64 y3, .int .i64 y4, .slice A8 nd c8, .slice A9 nn c9] 30)).more (by simp)) ((HS9.out.alloc (Nat.le_refl _) (.cells #[.int .i64 y1, .int .i64 y2, .int .i64 y3, .int .i64 y4, .slice A8 nd c8, .slice A9 nn c9] 30)).more (by simp)) HSM.out.d HSM.out.n
          have hv1 : (An.val ⟨y1, y2, y3, y4, y5, y6⟩ A1 c1 A2 c2) = .agg #[.int .i64 y1, .int .i64 y2, .int .i64 y3, .int .i64 y4, .slice A1 nd c1, .slice A2 nn c2] := by rw [An.val, HND.out, HNN.out]
          have hv2 : (An.val ⟨y1, y2, y3, y4, y5, y6⟩ A8 c8 A9 c9) = .agg #[.int .i64 y1, .int .i64 y2, .int .i64 y3, .int .i64 y4, .slice A8 nd c8, .slice A9 nn c9] := by rw [An.val, HND.out, HNN.out]
          rw [hv1, hv2] at h
          exact h)
        clear ho8 ho9 hb5 hk6 hbel7
        go_wp2_with fail
        refine HSA.out.mono ?_
        rintro e W6 ⟨rfl, hb6⟩
        have HB6 := Lib.hid (HBE.out.trans (hb6.mono HBE.out.size))
        clear hb6 hk6a
        go_wp2_with fail
        go_roundw
        case rel => exact ⟨i + 1, by omega, by go_num, Lib.hid (HTT.out.1.below HB6.out), Lib.hid (HB3.out.trans (HB6.out.mono HB3.out.size))⟩
        case measure => simp [intOf]; omega
    · obtain rfl : i = n := by omega
      have hend : ¬ ((i : Int) < (i : Int)) := by omega
      go_wp2_with fail
      go_ret
      exact ⟨rfl, HBW.out⟩
end Go.Proofs.YtjkilpjdgjijiaaDoor
namespace Go.Proofs.YtjkilpjdgjijiaaDoor
open Go.RowKit Go.ChangeShapes Go.WideShapes Go.ChangeAt
set_option linter.unusedVariables false

instance : Inhabited Qc := ⟨⟨⟨0, ⟨#[]⟩, ⟨#[]⟩, 0, 0, []⟩, none, 0⟩⟩
theorem qcells_at : ∀ (l : List Qc) (k : Nat), (qcells l)[k]? = (l[k / 6]?).bind fun t => t.cs[k % 6]?
  | [], k => by simp [qcells]
  | x :: l, k => by
    have e : qcells (x :: l) = x.cs ++ qcells l := by unfold qcells; rw [List.flatMap_cons]
    rw [e]
    by_cases hk : k < 6
    · rw [List.getElem?_append_left (by show k < 6; exact hk), Nat.div_eq_of_lt hk, Nat.mod_eq_of_lt hk]
      rfl
    · rw [List.getElem?_append_right (by show 6 ≤ k; omega)]
      have h1 : k - x.cs.length = k - 6 := rfl
      rw [h1, qcells_at l (k - 6)]
      have h2 : k / 6 = (k - 6) / 6 + 1 := by omega
      have h3 : k % 6 = (k - 6) % 6 := by omega
      rw [h2, h3, List.getElem?_cons_succ]

section
variable {H : Type} {enc : TypeId × Value → H} {w : World} {base : Nat} {spare : Nat → Bool} {held : Bool}
theorem addr_plainq (b o k j : Nat) : ((⟨b, o, none⟩ : Addr).add k).add j = ⟨b, o + k + j, none⟩ := by
  unfold Addr.add; split <;> split <;> simp_all
set_option maxRecDepth 100000 in
theorem rd_fcalls0 {fuel : Nat} {cs : List Value} {x : DataW H × List MemPlace} (h : DataW.trod enc Tryd.prog w base spare held fuel 47 cs = some x) :
    ∃ (A : Option Addr) (c : Nat) (l : List Qc), cs = [.slice A l.length c] ∧ Sl w w.heap.size A (qcells l) ∧ ∀ x ∈ l, Sl w w.heap.size x.A (bv x.x.d) := by
  rcases Go.Deep.open_slice Tryd.underlying47 h with ⟨rfl, -⟩ | ⟨a, len, cap, m, n, D, Pl, rfl, hb, hl, hm, hmm, -, hx⟩
  · exact ⟨none, 0, [], rfl, .inl rfl, by simp⟩
  · have hlm : len ≤ m := by rw [hmm]; split <;> omega
    rw [qcells_call] at hx
    obtain ⟨F, hF⟩ := Go.Deep.choose_lt (α := Qc) (n := m) (p := fun i t => (∀ j, j < 6 → w.cell? ((a.add (i * 6)).add j) = t.cs[j]?) ∧ Sl w w.heap.size t.A (bv t.x.d)) (fun i hi => by
      obtain ⟨cs', h1, h2⟩ := hx i hi
      obtain ⟨_, hlen, hc⟩ := World.cells?_some h1
      obtain ⟨y, A1, c1, e, -, q1, -⟩ := rd_call_cells hlen h2
      refine ⟨⟨y, A1, c1⟩, fun j hj => ?_, q1⟩
      rw [hc j hj, e]
      rfl)
    refine ⟨some a, cap, (List.range len).map F, by simp, ?_, ?_⟩
    · rcases Nat.eq_zero_or_pos len with h0 | h0
      · subst h0; exact .inl rfl
      · obtain ⟨b, o, s⟩ := a
        have h1 : w.cell? (((⟨b, o, s⟩ : Addr).add (0 * 6)).add 0) = some (.int .i64 (F 0).x.k) := (hF 0 (by omega)).1 0 (by omega)
        have hs : s = none := by
          have := World.cell?_spot h1
          simpa [Addr.add] using this
        subst hs
        refine .inr ⟨b, o, rfl, ?_, ?_⟩
        · have := World.block_lt_of_cell? w _ h1
          simpa [Addr.add] using this
        · intro k u hu
          rw [qcells_at, List.getElem?_map] at hu
          by_cases hk : k / 6 < len
          · rw [List.getElem?_range hk] at hu
            have h2 := (hF (k / 6) (by omega)).1 (k % 6) (Nat.mod_lt _ (by decide))
            rw [addr_plainq, show o + k / 6 * 6 + k % 6 = o + k by omega] at h2
            rw [h2]
            exact hu
          · rw [List.getElem?_eq_none (by simp; omega)] at hu
            cases hu
    · intro y hy
      obtain ⟨i, hi, rfl⟩ := List.mem_map.1 hy
      have := List.mem_range.1 hi
      exact (hF i (by omega)).2
set_option maxRecDepth 100000 in
theorem rd_fcalls {v : Value} {d : DataW H} {ps : List MemPlace} {okb : Nat} (hv : Value.okWide Tryd.prog w .any okb 47 v) (h : DataW.Trod enc Tryd.prog w base spare held 47 v d ps) :
    ∃ (A : Option Addr) (c : Nat) (l : List Qc), v = .slice A l.length c ∧ Sl w w.heap.size A (qcells l) ∧ ∀ x ∈ l, Sl w w.heap.size x.A (bv x.x.d) := by
  obtain ⟨a, n, c, rfl⟩ := okWide_slice Tryd.underlying47 hv
  obtain ⟨m, hm⟩ := h
  obtain ⟨A, c', l, hcs, h1, h2⟩ := rd_fcalls0 hm
  obtain ⟨rfl, rfl, rfl⟩ : a = A ∧ n = l.length ∧ c = c' := by simpa [Value.cells] using hcs
  exact ⟨a, c, l, rfl, h1, h2⟩
end
end Go.Proofs.YtjkilpjdgjijiaaDoor
