/- tidelinelaw08.DeviceCalls: words for the walk. -/
import Derived.Test.YtbmodlhnkbohhaaBoth
import Derived.Test.YtbmodlhnkbohhaaCl
import Derived.Test.YtbmodlhnkbohhaaAppB
import Derived.Deep.RegionLaw
import Derived.Laws.BitsAllLaws
namespace Go.Proofs.Ytbmodlhnkbohhaa
open Go.RowKit
set_option linter.unusedVariables false

theorem RDev.base {w : World} {n0 n1 g R : Nat} {rs : List Rp} (h : RDev w n1 g R rs) (hn : n0 ≤ n1) : RDev w n0 g R rs :=
  ⟨Nat.le_trans hn h.ge, Nat.le_trans hn h.geR, h.ne, h.blk, h.row, fun p hp => by
    have ho := h.pgs p hp
    refine ⟨ho.1, ?_⟩
    rcases ho.2 with h0 | ⟨g', cap', cur, e1, e2, r⟩
    · exact .inl h0
    · exact .inr ⟨g', cap', cur, e1, by omega, r⟩, h.rm⟩

/-- The document's page as a page. -/
abbrev Rp.pg (r : Rp) : Pg := ⟨1, r.A, r.c, r.l⟩
theorem rpg_sl (rs : List Rp) : (rs.map Rp.pg).map Pg.sl = rs.map Rp.sl := by simp [Pg.sl, Rp.sl]
theorem rpg_l (rs : List Rp) : (rs.map Rp.pg).map (·.l) = rs.map (·.l) := by simp

/-- Own rows of bytes, and the document's. -/
theorem same_rw {w : World} {base base2 n0 g R c1 c2 : Nat} {A1 A2 : Option Addr} {xs : List Pg} {rs : List Rp} (h1 : w.ownsRow base 23 1 (.slice A1 xs.length c1) xs.length (xs.map Pg.sl)) (hx : ∀ q ∈ xs, q.ok w base) (hs : ∀ q ∈ xs, q.l.length ≤ maxLen)
    (h2 : w.ownsRow base2 23 1 (.slice A2 (rwh rs).length c2) (rwh rs).length ((rwh rs).map Rp.sl)) (H : RDev w n0 g R rs) (hr : ∀ q ∈ rwh rs, q.l.length ≤ 300) (hl : xs.map (·.l) = (rwh rs).map (·.l)) :
    Calls Try.prog 16 #[.slice A1 xs.length c1, .slice A2 (rwh rs).length c2] w fun e w' => e = .returned (.bool true) ∧ Below w.heap.size w w' := by
  have hlen : (rwh rs).length ≤ 200 := Nat.le_trans (List.length_filter_le _ _) H.rm
  have hxl : xs.length = (rwh rs).length := by have := congrArg List.length hl; simpa using this
  have hc := slist_any A1 A2 c1 c2 w.heap.size xs ((rwh rs).map Rp.pg) w (Sl.of_own h1) (by rw [rpg_sl]; exact Sl.of_own h2) (Nat.le_refl _)
    (fun q hq => ⟨Sl.of_own (hx q hq), hs q hq⟩) (fun q hq => by
      obtain ⟨r, hr', rfl⟩ := List.mem_map.1 hq
      exact ⟨Sl.of_own (H.pgs r (List.mem_filter.1 (show r ∈ List.filter _ _ from hr')).1), by have := hr r hr'; unfold maxLen; show r.l.length ≤ _; omega⟩) (by unfold maxLen; omega) (by rw [List.length_map]; unfold maxLen; omega)
  rw [List.length_map, rpg_l] at hc
  exact hc.mono fun e w' ⟨he, hb⟩ => ⟨by rw [he, decide_eq_true hl], hb⟩

/-- A twin's doings leave both. -/
theorem Both.twinned {w w1 w2 : World} {n0 g g2 R gt room la : Nat} {v vt : Value} {ps : List Pg} {rs : List Rp} (h : Both w n0 g v room ps la g2 R rs) (hb : Below w.heap.size w w1) (hg : w.heap.size ≤ gt) (hv : ∀ k, vt.ownBlock = some k → w.heap.size ≤ k) (hf : Fr (Dev.M gt vt) w1 w2) :
    Both w2 n0 g v room ps la g2 R rs ∧ Below w.heap.size w w2 := by
  have h2 : Below w.heap.size w1 w2 := hf.below hb.size (fun k hk => by rcases hk with rfl | hk; exact hg; exact hv k hk)
  exact ⟨h.below (hb.trans h2), hb.trans h2⟩

/-- A block of another type is none of the device's, none of the document's. -/
theorem Dev.M_not {w : World} {n0 g room la b : Nat} {v : Value} {ps : List Pg} {cs : Array Value} {t : TypeId} {fr : Nat × Nat} (D : Dev w n0 g v room ps la) (hb : w.heap[b]? = some (.cells cs t fr)) (h1 : t ≠ 74) (h2 : 77 ≠ t) : ¬ Dev.M g v b := by
  rintro (e | e)
  · have := D.blk; rw [← e, hb] at this; simp at this; exact h1 this.2.1
  · exact owns_ne D.row hb h2 e
theorem RDev.owns {w w' : World} {n0 g R base size n : Nat} {rs : List Rp} {e : TypeId} {u : Value} {xs : List Value} (h : RDev w n0 g R rs) (hf : RFr g R w w') (ho : w.ownsRow base e size u n xs) (h1 : e ≠ 84) (h2 : e ≠ 86) : w'.ownsRow base e size u n xs :=
  Fr.owns hf ho fun k hk hm => by
    rcases hm with rfl | rfl
    · exact owns_ne ho h.blk h1 hk
    · exact owns_ne ho h.row h2 hk

/-- One more page on both sides; own: a row of bytes that is neither's. -/
theorem Both.appended {w w1 w2 : World} {n0 g g2 R room la : Nat} {v v' : Value} {ps : List Pg} {rs : List Rp} {p : Pg} {r : Rp} (h : Both w n0 g v room ps la g2 R rs) (hlt : ps.length < room)
    (D1 : Dev w1 n0 g v' room (ps ++ [p]) la) (R1 : RDev w1 n0 g2 R rs) (R2 : RDev w2 n0 g2 R (rs.set ps.length r)) (f2 : RFr g2 R w1 w2) (hp : p.is = 1) (hr : r.st = 1) (hl : r.l = p.l) (hla : r.la = false) (hpl : p.l.length ≤ 300) :
    Both w2 n0 g v' room (ps ++ [p]) la g2 R (rs.set ps.length r) :=
  ⟨D1.apartR R1 f2, R2, h.f.append p r h.d.la (by rw [h.len]; exact hlt) hp hr hl hla, h.gd.append hp, by rw [List.length_set]; exact h.len, h.short.app hpl⟩

/-- Whatever is done to a block of bytes that neither has leaves both. -/
theorem Both.keepB {w w' : World} {n0 g g2 R room la b : Nat} {v : Value} {ps : List Pg} {rs : List Rp} {cs : Array Value} {fr : Nat × Nat} (h : Both w n0 g v room ps la g2 R rs) (hb : w.heap[b]? = some (.cells cs 5 fr)) (hf : Fr (fun k => k = b) w w')
    (h1 : ∀ p ∈ ps, ∀ k, (Value.slice p.A p.l.length p.c).ownBlock = some k → k ≠ b) (h2 : ∀ p ∈ rs, ∀ k, (Value.slice p.A p.l.length p.c).ownBlock = some k → k ≠ b) : Both w' n0 g v room ps la g2 R rs := by
  refine ⟨h.d.keep hf ?_ ?_ h1, h.r.keep hf ?_ ?_ h2, h.f, h.gd, h.len, h.short⟩
  · intro e; have := h.d.blk; rw [e, hb] at this; simp at this
  · intro k hk e; exact owns_ne h.d.row hb (by decide) (by rw [hk, e])
  · intro e; have := h.r.blk; rw [e, hb] at this; simp at this
  · intro e; have := h.r.row; rw [e, hb] at this; simp at this

theorem bv_set (l : List UInt8) (i : Nat) (x : UInt8) : (bv l).set i (.int .u8 (x.toNat : Int)) = bv (l.set i x) := by simp [bv, List.map_set]
theorem xor255 (x : UInt8) : ∃ y : UInt8, bits BinOp.xor IntKind.u8 (x.toNat : Int) 255 = (y.toNat : Int) :=
  ⟨x ^^^ 255, by rw [UInt8.toNat_xor]; exact u8_xor_nat _ 255 x.toNat_lt (by decide)⟩
end Go.Proofs.Ytbmodlhnkbohhaa
