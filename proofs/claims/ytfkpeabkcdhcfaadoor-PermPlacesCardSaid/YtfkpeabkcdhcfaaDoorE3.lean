/-
  Walk of a round of back.
-/
import Derived.Test.YtfkpeabkcdhcfaaDoorE2
namespace Go.Proofs.YtfkpeabkcdhcfaaDoor
open Go.RowKit
set_option maxRecDepth 100000
set_option maxHeartbeats 6000000 in
theorem back1_any (seed : ByteArray) (v : Value) (l : List Int) (b k L R Br Bl Bw base : Nat) (hb0 : 0 < b) (hb : b ≤ 65536) (hk : k < 4) (hR : R < 65536) (hL : L < 65536) (w : World) (hN : Net seed v l w)
    (hr : Num w Br R) (hl : Num w Bl L) (hw : NetAt w Bw seed v b) (hne : Br ≠ Bl) (hbr : base ≤ Br) (hbl : base ≤ Bl) :
    Calls Tryd.prog 104 #[.int .i64 k, .pointer (some ⟨Br, 0, none⟩), .pointer (some ⟨Bw, 0, none⟩), .pointer (some ⟨Bl, 0, none⟩)] w
      fun e w' => e = .returned (.tuple #[]) ∧ Num w' Bl (R ^^^ rndN seed l b k L) ∧ Num w' Br L ∧ NetAt w' Bw seed v b ∧ Below base w w' := by
  have hcr : w.cell? ⟨Br, 0, none⟩ = some (.int .i64 R) := cell_of_row _ _ _ _ _ _ hr
  have hcl : w.cell? ⟨Bl, 0, none⟩ = some (.int .i64 L) := cell_of_row _ _ _ _ _ _ hl
  have hw0 : w.cell? ⟨Bw, 0, none⟩ = some (.string seed) := cell_of_row _ _ _ _ _ _ hw
  have hw1 : w.cell? ⟨Bw, 1, none⟩ = some v := cell_of_row _ _ _ _ _ _ hw
  have hw2 : w.cell? ⟨Bw, 2, none⟩ = some (.int .i64 b) := cell_of_row _ _ _ _ _ _ hw
  have HN := Lib.hid hN
  have HR := Lib.hid hr
  have HL := Lib.hid hl
  have HW := Lib.hid hw
  clear hN hr hl hw
  have hx := bits_xor_nat R (rndN seed l b k L) hR (Nat.lt_of_lt_of_le (rndN_lt seed l b k L hb0) hb)
  obtain ⟨z, hz⟩ : ∃ z, z = rndN seed l b k L := ⟨_, rfl⟩
  have hro := fun w hN => round_at seed v l b k L hb0 hb hk hL w hN
  rw [← hz] at hx hro ⊢
  have HRO := Lib.hid hro
  clear hz hro
  go_enter Tryd.func104, Tryd.ntmps104
  go_upto_region 0 with fail
  go_region_with ((go_at_call 103; (with_reducible refine (HRO.out _ (HN.out.later ((Below.refl _ _).drew))).mono ?_); rintro e w5 ⟨rfl, hb5⟩; have HB5 := Lib.hid (show Below w.heap.size w w5 from Below.drew_l hb5); clear hb5; have hcr5 : w5.cell? ⟨Br, 0, none⟩ = some (.int .i64 R) := cell_of_row _ _ _ _ _ _ (HR.out.later HB5.out); have hcl5 : w5.cell? ⟨Bl, 0, none⟩ = some (.int .i64 L) := cell_of_row _ _ _ _ _ _ (HL.out.later HB5.out); have hfr5 := frozen_of_row _ _ 0 _ _ (HR.out.later HB5.out); have hfl5 := frozen_of_row _ _ 0 _ _ (HL.out.later HB5.out)))
  all_goals
    (first | go_end0 | go_ret)
    obtain ⟨a1, a2, a3, a4⟩ := step_end (x := L) (y := R ^^^ z) HR.out HL.out HW.out HB5.out hne hbr hbl
    exact ⟨rfl, a2, a1, a3, a4⟩
end Go.Proofs.YtfkpeabkcdhcfaaDoor
