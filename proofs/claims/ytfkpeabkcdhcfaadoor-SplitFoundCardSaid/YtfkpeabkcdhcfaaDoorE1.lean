/-
  Walk of (network).round.
-/
import Derived.Test.YtfkpeabkcdhcfaaDoorD1
import Derived.Deep.DeepCutAuto
import Derived.Deep.RegionHeld3
import Derived.Deep.DrawnRows
namespace Go.Proofs.YtfkpeabkcdhcfaaDoor
open Go.RowKit
set_option maxRecDepth 100000
theorem CellsAt.later {w w' : World} {a : Addr} {l : List Value} (h : CellsAt w a l) (hb : Below w.heap.size w w') : CellsAt w' a l := fun j u hj => by
  have hc := h j u hj
  exact (hb.cell (p := a.add j) (World.block_lt_of_cell? w _ hc)).trans hc
theorem ReadI.later {v : Value} {l : List Int} {w w' : World} (h : ReadI v l w) (hb : Below w.heap.size w w') : ReadI v l w' := by
  rcases h with h | ⟨ad, cap, h1, h2⟩
  · exact .inl h
  · exact .inr ⟨ad, cap, h1, h2.later hb⟩
theorem HoldK.later {w w' : World} (h : HoldK w) (h0 : 0 < w.heap.size) (hb : Below w.heap.size w w') : HoldK w' := fun j v hv => (hb.cell (p := ⟨0, 0 + j, none⟩) h0).trans (h j v hv)
/-- the keys of a network: the seed, the path's value and the path's numbers -/
structure Net (seed : ByteArray) (v : Value) (l : List Int) (w : World) : Prop where
  hs : seed.size ≤ 100000
  hl : l.length ≤ 900
  h64 : Ok64 l
  h0 : 0 < w.heap.size
  hK : HoldK w
  hr : ReadI v l w
theorem Net.later {seed : ByteArray} {v : Value} {l : List Int} {w w' : World} (h : Net seed v l w) (hb : Below w.heap.size w w') : Net seed v l w' :=
  ⟨h.hs, h.hl, h.h64, Nat.lt_of_lt_of_le h.h0 hb.size, h.hK.later h.h0 hb, h.hr.later hb⟩
/-- the value of a network -/
def netV (seed : ByteArray) (v : Value) (b : Nat) : Value := .agg #[.string seed, v, .int .i64 b]
/-- a round's number -/
def rndN (seed : ByteArray) (l : List Int) (b k right : Nat) : Nat := wordOf seed l (65536 * (k : Int) + (right : Int)) % b
theorem word_net {seed : ByteArray} {v : Value} {l : List Int} {w : World} (h : Net seed v l w) (t : Nat) (ht : t < 1000000) :
    Calls Tryd.prog 30 #[.string seed, v, .int .i64 t] w fun e w' => e = .returned (.int .i64 (wordOf seed l t : Nat)) ∧ Below w.heap.size w w' :=
  word_any seed h.hs v l h.hl h.h64 t (by omega) w h.h0 h.hK h.hr
theorem word_net2 {seed : ByteArray} {v : Value} {l : List Int} {w : World} (h : Net seed v l w) (k right : Nat) (hk : k < 4) (hr : right < 65536) :
    Calls Tryd.prog 30 #[.string seed, v, .int .i64 (IntKind.i64.wrap (IntKind.i64.wrap (65536 * (k : Int)) + (right : Int)))] w fun e w' => e = .returned (.int .i64 (wordOf seed l (65536 * (k : Int) + (right : Int)) : Nat)) ∧ Below w.heap.size w w' := by
  have := word_net h (65536 * k + right) (by omega)
  rw [show IntKind.i64.wrap (IntKind.i64.wrap (65536 * (k : Int)) + (right : Int)) = ((65536 * k + right : Nat) : Int) by simp only [IntKind.wrap_i64]; omega]
  exact this
theorem wordOf_lt (seed : ByteArray) (l : List Int) (t : Int) : wordOf seed l t < 281474976710656 := wAcc_lt _ 6
set_option maxHeartbeats 400000 in
theorem round_any (seed : ByteArray) (v : Value) (l : List Int) (b k right : Nat) (hb0 : 0 < b) (hb : b ≤ 65536) (hk : k < 4) (hr : right < 65536) (w : World) (hN : Net seed v l w) :
    Calls Tryd.prog 103 #[netV seed v b, .int .i64 k, .int .i64 right] w fun e w' => e = .returned (.int .i64 (rndN seed l b k right : Nat)) ∧ Below w.heap.size w w' := by
  have HN := Lib.hid hN
  clear hN
  unfold netV
  go_enter Tryd.func103, Tryd.ntmps103
  go_upto_region 1 with fail
  have hc0 : (w.alloc (.cells #[.string seed, v, .int .i64 b] 86)).cell? ⟨w.heap.size, 0, none⟩ = some (.string seed) := cell_of_row _ _ _ _ _ _ (heap_alloc_new _ _)
  have hc1 : (w.alloc (.cells #[.string seed, v, .int .i64 b] 86)).cell? ⟨w.heap.size, 1, none⟩ = some v := cell_of_row _ _ _ _ _ _ (heap_alloc_new _ _)
  have hc2 : (w.alloc (.cells #[.string seed, v, .int .i64 b] 86)).cell? ⟨w.heap.size, 2, none⟩ = some (.int .i64 b) := cell_of_row _ _ _ _ _ _ (heap_alloc_new _ _)
  have hb1 : Below w.heap.size w (w.alloc (.cells #[.string seed, v, .int .i64 b] 86)) := (Below.refl _ _).alloc (Nat.le_refl _) _
  have hN1 := HN.out.later hb1
  have hlt1 : w.heap.size < (w.alloc (.cells #[.string seed, v, .int .i64 b] 86)).heap.size := by simp
  obtain ⟨W1, hW1⟩ : ∃ W1, W1 = w.alloc (.cells #[.string seed, v, .int .i64 b] 86) := ⟨_, rfl⟩
  rw [← hW1] at hc0 hc1 hc2 hb1 hN1 hlt1 ⊢
  have HB1 := Lib.hid hb1
  have HN1 := Lib.hid hN1
  clear hW1 hb1 hN1
  have hbi : (0 : Int) < (b : Int) := by omega
  have hbn : ¬ (b = 0) := by omega
  go_region_held3 (fun w' => w'.cell? ⟨w.heap.size, 0, none⟩ = some (.string seed) ∧ w'.cell? ⟨w.heap.size, 1, none⟩ = some v ∧ w'.cell? ⟨w.heap.size, 2, none⟩ = some (.int .i64 b))
    (first | go_keep | exact ⟨(HB5.out.cell (p := ⟨w.heap.size, 0, none⟩) hlt1).trans hc0, (HB5.out.cell (p := ⟨w.heap.size, 1, none⟩) hlt1).trans hc1, (HB5.out.cell (p := ⟨w.heap.size, 2, none⟩) hlt1).trans hc2⟩)
    (first | (go_at_call 30; (with_reducible refine (word_net2 (HN1.out.later ((Below.refl _ _).drew)) k right hk hr).mono ?_); rintro e w5 ⟨rfl, hb5⟩; have HB5 := Lib.hid (show Below W1.heap.size W1 w5 from Below.drew_l (show Below W1.heap.size W1.drew w5 from hb5)); clear hb5))
  all_goals
    go_wp2
    go_ret
    exact ⟨rfl, HB1.out.trans (HB5.out.mono HB1.out.size)⟩
end Go.Proofs.YtfkpeabkcdhcfaaDoor
