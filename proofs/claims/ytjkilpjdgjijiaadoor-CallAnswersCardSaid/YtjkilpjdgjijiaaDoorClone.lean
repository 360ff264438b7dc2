/- slices.Clone at bytes: new memory with the same bytes; nil for nil. -/
import Derived.Test.YtjkilpjdgjijiaaDoorInts
import Derived.Test.YtjkilpjdgjijiaaDoorBase
import Derived.Maps.AppendAt
namespace Go.Proofs.YtjkilpjdgjijiaaDoor
open Go.RowKit
set_option linter.unusedVariables false

theorem Tryd.info_u8 : (Tryd.prog.info? 5).map (fun i => (i.zero, i.size, i.bytes)) = some (some (.int .u8 0), 1, 1) := by kernel_rfl

theorem bv_one (l : List UInt8) : ∀ u ∈ bv l, u.oneCell' = true := by
  intro u hu
  simp only [bv, List.mem_map] at hu
  obtain ⟨x, -, rfl⟩ := hu
  rfl

/-- What a clone of bytes comes to: a slice in new memory that holds them. -/
def NewBytes (base : Nat) (l : List UInt8) (e : Ending) (w' : World) : Prop :=
  ∃ A c, e = .returned (.slice A l.length c) ∧ w'.ownsRow base 5 1 (.slice A l.length c) l.length (bv l)

theorem Sl.news {w : World} {B : Nat} {ad : Addr} {l : List UInt8} (h : Sl w B (some ad) (bv l)) : ∀ j u, (bv l)[j]? = some u → w.cell? (ad.add j) = some u := by
  rcases h with h | ⟨b, o, e, -, hr⟩
  · intro j u hu; rw [h] at hu; simp at hu
  · injection e with e
    subst e
    intro j u hu
    have hadd : (⟨b, o, none⟩ : Addr).add j = ⟨b, o + j, none⟩ := by unfold Addr.add; split <;> simp_all
    rw [hadd]
    exact hr j u hu

theorem newBytes_of {base : Nat} {l : List UInt8} {v : Value} {w : World} (h : w.ownsRow base 5 1 v (0 + l.length) ([] ++ bv l)) : NewBytes base l (.returned v) w := by
  rw [Nat.zero_add, List.nil_append] at h
  obtain ⟨A, c, rfl⟩ := own_form h
  exact ⟨A, c, rfl, h⟩

set_option maxHeartbeats 1000000 in
theorem clone_some (ad : Addr) (c B : Nat) (l : List UInt8) (w : World) (h : Sl w B (some ad) (bv l)) (hl : l.length ≤ 70368744177664) (hB : B ≤ w.heap.size) :
    Calls Tryd.prog 55 #[.slice (some ad) l.length c] w fun e w' => NewBytes w.heap.size l e w' ∧ Below w.heap.size w w' := by
  have hm : l.length ≤ maxLen := by unfold maxLen; omega
  have hby : (0 + l.length) * 1 ≤ 140737488355328 := by omega
  have hm0 : 0 + l.length ≤ maxLen := by omega
  have HL := Lib.hid hl
  have HM := Lib.hid hm
  have HM0 := Lib.hid hm0
  have HBY := Lib.hid hby
  clear hl hm hby hm0
  have heq := fun (W : World) (n c : Nat) => Lib.run_eql_slice_nil (P := Tryd.prog) W 22 5 (some ad) n c 0 0 Tryd.underlying22
  go_enter Tryd.func55, Tryd.ntmps55
  go_wp2_with (at_builtin; obtain ⟨i0, hi, hz0, hz1, hz2⟩ := info_parts Tryd.info_u8; refine wpList_append_own _ rfl _ _ 22 rfl w.heap.size 5 i0 (.int .u8 0) 1 1 Tryd.underlying22 hi hz0 hz1 hz2 rfl (by decide) _ _ _ rfl (World.ownsRow_made w #[] 0 (Nat.le_refl _) (Nat.zero_le _) rfl) ad l.length c (bv l) rfl (by rw [bv_len, Nat.mul_one]) (h.alloc hB _).news (bv_one l) HM0.out HBY.out (by simp) ?_; intro v' w1 hown hgrow _; clear hi hz0 hz1 hz2 i0)
  go_ret
  refine ⟨newBytes_of hown, ?_⟩
  exact ((Below.refl _ _).alloc (Nat.le_refl _) _).grown hgrow (by simp) (by intro k hk; simp [Value.ownBlock, Act.eval] at hk; omega)

theorem clone_nil (w : World) :
    Calls Tryd.prog 55 #[.slice none 0 0] w fun e w' => NewBytes w.heap.size [] e w' ∧ Below w.heap.size w w' := by
  have heq := fun (W : World) => Lib.run_eql_slice_nil (P := Tryd.prog) W 22 5 none 0 0 0 0 Tryd.underlying22
  go_enter Tryd.func55, Tryd.ntmps55
  go_wp2
  go_ret
  exact ⟨⟨none, 0, rfl, World.ownsRow_nil _ _ _ _⟩, Below.refl _ _⟩

/-- **slices.Clone of bytes, nil or not.** -/
theorem clone_bytes (A : Option Addr) (c B : Nat) (l : List UInt8) (w : World) (h : Sl w B A (bv l)) (hn : A = none → c = 0) (hl : l.length ≤ 70368744177664) (hB : B ≤ w.heap.size) :
    Calls Tryd.prog 55 #[.slice A l.length c] w fun e w' => NewBytes w.heap.size l e w' ∧ Below w.heap.size w w' := by
  cases A with
  | some ad => exact clone_some ad c B l w h hl hB
  | none =>
    obtain rfl := hn rfl
    have : l = [] := by
      rcases h with h | ⟨b, o, e, _⟩
      · simpa [bv] using h
      · cases e
    subst this
    exact clone_nil w
end Go.Proofs.YtjkilpjdgjijiaaDoor
