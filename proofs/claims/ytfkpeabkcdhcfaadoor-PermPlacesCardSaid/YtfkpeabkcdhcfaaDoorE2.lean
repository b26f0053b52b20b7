/-
  Walk of a round of mix.
-/
import Derived.Test.YtfkpeabkcdhcfaaDoorE1
import Derived.Deep.RegionWith
namespace Go.Proofs.YtfkpeabkcdhcfaaDoor
open Go.RowKit
set_option maxRecDepth 100000
/-- a variable of one number -/
def Num (w : World) (B n : Nat) : Prop := w.heap[B]? = some (.cells #[.int .i64 n] 3 (0, 0))
/-- a variable that holds a network -/
def NetAt (w : World) (B : Nat) (seed : ByteArray) (v : Value) (b : Nat) : Prop := w.heap[B]? = some (.cells #[.string seed, v, .int .i64 b] 86 (0, 0))
theorem Num.later {w w' : World} {B n : Nat} (h : Num w B n) (hb : Below w.heap.size w w') : Num w' B n := (hb.block _ (lt_of_block h)).trans h
theorem NetAt.later {w w' : World} {B b : Nat} {seed : ByteArray} {v : Value} (h : NetAt w B seed v b) (hb : Below w.heap.size w w') : NetAt w' B seed v b := (hb.block _ (lt_of_block h)).trans h
/-- a number of 16 bits and another of 16, xored -/
theorem xor_lt (x y : Nat) (hx : x < 65536) (hy : y < 65536) : x ^^^ y < 65536 := Nat.xor_lt_two_pow (n := 16) hx hy
theorem rndN_lt (seed : ByteArray) (l : List Int) (b k right : Nat) (hb : 0 < b) : rndN seed l b k right < b := Nat.mod_lt _ hb
theorem bits_xor_nat (x y : Nat) (hx : x < 65536) (hy : y < 65536) : bits .xor .i64 (x : Int) (y : Int) = ((x ^^^ y : Nat) : Int) := by
  unfold bits
  have e : ∀ z : Nat, z < 65536 → BitVec.ofInt IntKind.i64.bits (z : Int) = BitVec.ofNat 64 z := fun z _ => by
    apply BitVec.eq_of_toNat_eq
    simp only [BitVec.toNat_ofInt, IntKind.bits, BitVec.toNat_ofNat]
    show ((z : Int) % _).toNat = z % _
    omega
  rw [e x hx, e y hy, IntKind.wrap_i64]
  have key : ((BitVec.ofNat 64 x ^^^ BitVec.ofNat 64 y).toNat : Nat) = x ^^^ y := by
    rw [BitVec.toNat_xor, BitVec.toNat_ofNat, BitVec.toNat_ofNat, Nat.mod_eq_of_lt (by omega), Nat.mod_eq_of_lt (by omega)]
  have hlt := xor_lt x y hx hy
  show ((((BitVec.ofNat 64 x ^^^ BitVec.ofNat 64 y).toNat : Int)) + _) % _ - _ = _
  rw [key]
  omega
theorem round_at (seed : ByteArray) (v : Value) (l : List Int) (b k right : Nat) (hb0 : 0 < b) (hb : b ≤ 65536) (hk : k < 4) (hr : right < 65536) (w : World) (hN : Net seed v l w) :
    Calls Tryd.prog 103 #[.agg #[.string seed, v, .int .i64 b], .int .i64 k, .int .i64 right] w fun e w' => e = .returned (.int .i64 (rndN seed l b k right : Nat)) ∧ Below w.heap.size w w' := round_any seed v l b k right hb0 hb hk hr w hN
theorem net_ne {w : World} {B Bw n b : Nat} {seed : ByteArray} {v : Value} (h : Num w B n) (hw : NetAt w Bw seed v b) : Bw ≠ B := by
  rintro rfl
  have := h.symm.trans hw
  simp at this
theorem step_end {w w5 : World} {Br Bl Bw base b R L x y : Nat} {seed : ByteArray} {v : Value} (hr : Num w Br R) (hl : Num w Bl L) (hw : NetAt w Bw seed v b) (hb : Below w.heap.size w w5) (hne : Br ≠ Bl) (hbr : base ≤ Br) (hbl : base ≤ Bl) :
    Num ((w5.setCell ⟨Bl, 0, none⟩ (.int .i64 (y : Int))).setCell ⟨Br, 0, none⟩ (.int .i64 (x : Int))) Br x ∧ Num ((w5.setCell ⟨Bl, 0, none⟩ (.int .i64 (y : Int))).setCell ⟨Br, 0, none⟩ (.int .i64 (x : Int))) Bl y ∧
    NetAt ((w5.setCell ⟨Bl, 0, none⟩ (.int .i64 (y : Int))).setCell ⟨Br, 0, none⟩ (.int .i64 (x : Int))) Bw seed v b ∧ Below base w ((w5.setCell ⟨Bl, 0, none⟩ (.int .i64 (y : Int))).setCell ⟨Br, 0, none⟩ (.int .i64 (x : Int))) := by
  have hr5 := hr.later hb
  have hl5 := hl.later hb
  have hw5 := hw.later hb
  have hbw : base ≤ w.heap.size := by have := lt_of_block hr; omega
  have n1 := net_ne hr hw
  have n2 := net_ne hl hw
  refine ⟨?_, ?_, ?_, ((hb.mono hbw).setCell (p := ⟨Bl, 0, none⟩) hbl _).setCell (p := ⟨Br, 0, none⟩) hbr _⟩
  · exact one_setCell (v := .int .i64 R) ((heap_setCell_other w5 ⟨Bl, 0, none⟩ Br _ hne).trans hr5)
  · exact (heap_setCell_other _ ⟨Br, 0, none⟩ Bl _ (Ne.symm hne)).trans (one_setCell hl5)
  · exact (heap_setCell_other _ ⟨Br, 0, none⟩ Bw _ n1).trans ((heap_setCell_other w5 ⟨Bl, 0, none⟩ Bw _ n2).trans hw5)
set_option maxHeartbeats 2000000 in
theorem mix1_any (seed : ByteArray) (v : Value) (l : List Int) (b k L R Br Bl Bw base : Nat) (hb0 : 0 < b) (hb : b ≤ 65536) (hk : k < 4) (hR : R < 65536) (hL : L < 65536) (w : World) (hN : Net seed v l w)
    (hr : Num w Br R) (hl : Num w Bl L) (hw : NetAt w Bw seed v b) (hne : Br ≠ Bl) (hbr : base ≤ Br) (hbl : base ≤ Bl) :
    Calls Tryd.prog 102 #[.int .i64 k, .pointer (some ⟨Br, 0, none⟩), .pointer (some ⟨Bl, 0, none⟩), .pointer (some ⟨Bw, 0, none⟩)] w
      fun e w' => e = .returned (.tuple #[]) ∧ Num w' Br (L ^^^ rndN seed l b k R) ∧ Num w' Bl R ∧ NetAt w' Bw seed v b ∧ Below base w w' := by
  have hcr : w.cell? ⟨Br, 0, none⟩ = some (.int .i64 R) := cell_of_row _ _ _ _ _ _ hr
  have hcl : w.cell? ⟨Bl, 0, none⟩ = some (.int .i64 L) := cell_of_row _ _ _ _ _ _ hl
  have hw0 : w.cell? ⟨Bw, 0, none⟩ = some (.string seed) := cell_of_row _ _ _ _ _ _ hw
  have hw1 : w.cell? ⟨Bw, 1, none⟩ = some v := cell_of_row _ _ _ _ _ _ hw
  have hw2 : w.cell? ⟨Bw, 2, none⟩ = some (.int .i64 b) := cell_of_row _ _ _ _ _ _ hw
  have HN := Lib.hid hN
  have HR := Lib.hid hr
  have HL := Lib.hid hl
  have HW := Lib.hid hw
  clear hN hr hl hw
  have hx := bits_xor_nat L (rndN seed l b k R) hL (Nat.lt_of_lt_of_le (rndN_lt seed l b k R hb0) hb)
  obtain ⟨z, hz⟩ : ∃ z, z = rndN seed l b k R := ⟨_, rfl⟩
  have hro := fun w hN => round_at seed v l b k R hb0 hb hk hR w hN
  rw [← hz] at hx hro ⊢
  have HRO := Lib.hid hro
  clear hz hro
  go_enter Tryd.func102, Tryd.ntmps102
  go_upto_region 0 with fail
  go_region_with ((go_at_call 103; (with_reducible refine (HRO.out _ (HN.out.later ((Below.refl _ _).drew))).mono ?_); rintro e w5 ⟨rfl, hb5⟩; have HB5 := Lib.hid (show Below w.heap.size w w5 from Below.drew_l hb5); clear hb5; have hcr5 : w5.cell? ⟨Br, 0, none⟩ = some (.int .i64 R) := cell_of_row _ _ _ _ _ _ (HR.out.later HB5.out); have hcl5 : w5.cell? ⟨Bl, 0, none⟩ = some (.int .i64 L) := cell_of_row _ _ _ _ _ _ (HL.out.later HB5.out); have hfr5 := frozen_of_row _ _ 0 _ _ (HR.out.later HB5.out); have hfl5 := frozen_of_row _ _ 0 _ _ (HL.out.later HB5.out)))
  all_goals
    (first | go_end0 | go_ret)
    exact ⟨rfl, step_end HR.out HL.out HW.out HB5.out hne hbr hbl⟩
end Go.Proofs.YtfkpeabkcdhcfaaDoor
