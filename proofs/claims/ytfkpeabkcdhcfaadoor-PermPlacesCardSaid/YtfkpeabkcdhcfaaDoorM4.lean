/-
  Walk of made.
-/
import Derived.Test.YtfkpeabkcdhcfaaDoorM3
namespace Go.Proofs.YtfkpeabkcdhcfaaDoor
open Go.RowKit
set_option maxRecDepth 100000
/-- the least j with n ≤ 4^j -/
def jOf (n : Nat) : Nat := if n ≤ 1 then 0 else if n ≤ 4 then 1 else if n ≤ 16 then 2 else if n ≤ 64 then 3 else if n ≤ 256 then 4 else if n ≤ 1024 then 5 else if n ≤ 4096 then 6 else if n ≤ 16384 then 7 else 8
/-- the network's size for n numbers -/
def bOf (n : Nat) : Nat := 2 ^ jOf n
theorem jOf_le (n : Nat) : jOf n ≤ 8 := by unfold jOf; (repeat' split) <;> omega
theorem jOf_big (n : Nat) (h : n ≤ 65536) : n ≤ 2 ^ jOf n * 2 ^ jOf n := by unfold jOf; (repeat' split) <;> simp <;> omega
theorem jOf_of (n j : Nat) (hj : j ≤ 8) (h : n ≤ 2 ^ j * 2 ^ j) (hl : j = 0 ∨ 2 ^ (j - 1) * 2 ^ (j - 1) < n) : jOf n = j := by
  rcases (show j = 0 ∨ j = 1 ∨ j = 2 ∨ j = 3 ∨ j = 4 ∨ j = 5 ∨ j = 6 ∨ j = 7 ∨ j = 8 by omega) with rfl | rfl | rfl | rfl | rfl | rfl | rfl | rfl | rfl <;>
    simp at h hl <;> unfold jOf <;> (repeat' split) <;> omega
theorem info86 : (Tryd.prog.info? 86).map (·.size) = some 3 := by kernel_rfl
set_option maxHeartbeats 1000000 in
theorem made_any (seed : ByteArray) (ad : Option Addr) (sn sc n : Nat) (hn : n ≤ 65536) (w : World) :
    Calls Tryd.prog 68 #[.string seed, .slice ad sn sc, .int .i64 n] w fun e w' => e = .returned (.agg #[.string seed, .slice ad sn sc, .int .i64 (bOf n : Nat)]) ∧ Below w.heap.size w w' := by
  go_enter Tryd.func68, Tryd.ntmps68
  go_wp2_with fail
  go_loopw [7] (fun c wr => ∃ j b : Nat, j ≤ 8 ∧ b = 2 ^ j ∧ c = .int .i64 b ∧ (j = 0 ∨ 2 ^ (j - 1) * 2 ^ (j - 1) < n) ∧ Below w.heap.size w wr ∧ wr.heap[w.heap.size]? = some (.cells #[.string default, .slice none 0 0, .int .i64 0] 86 (0, 0))) (fun c _ => 256 - (intOf c).toNat)
  case atStart => exact ⟨0, 1, by omega, rfl, rfl, .inl rfl, (Below.refl _ _).alloc (Nat.le_refl _) _, heap_alloc_new _ _⟩
  case round =>
    obtain ⟨j, b, hj, hb2, rfl, hl, hb, hrow⟩ := hrel
    have HB := Lib.hid hb
    have HR := Lib.hid hrow
    have hb256 : b ≤ 256 := by rw [hb2]; exact Nat.pow_le_pow_right (by decide) hj
    have hbb : b * b ≤ 256 * 256 := Nat.mul_le_mul hb256 hb256
    have H2 := Lib.hid hb2
    clear hb hrow hb2
    by_cases hlt : b * b < n
    · have hlt' : ((b : Int) * (b : Int)) < (n : Int) := by
        rw [show ((b : Int) * (b : Int)) = ((b * b : Nat) : Int) from rfl]; omega
      go_wp2_with fail
      go_roundw
      case rel =>
        have hj7 : j < 8 := by
          rcases (show j < 8 ∨ j = 8 by omega) with h | rfl
          · exact h
          · rw [H2.out] at hlt; omega
        exact ⟨j + 1, 2 ^ (j + 1), by omega, rfl, by rw [Nat.pow_succ, ← H2.out]; go_num, .inr (by rw [Nat.add_sub_cancel, ← H2.out]; exact hlt), HB.out, HR.out⟩
      case measure =>
        have hb1 : 0 < b := by rw [H2.out]; exact Nat.two_pow_pos j
        have hb7 : b < 256 := by
          rcases Nat.lt_or_ge b 256 with h | h
          · exact h
          · have := Nat.mul_le_mul h h; omega
        simp [intOf]; omega
    · have hlt' : ¬ ((b : Int) * (b : Int)) < (n : Int) := by
        rw [show ((b : Int) * (b : Int)) = ((b * b : Nat) : Int) from rfl]; omega
      go_wp2_with ((with_reducible show wpList _ _ _ ((⟨_, Op.store 86 (.tmp 6) _, _, _, _, _⟩ : Oper) :: _) _ _); refine wpList_store_row rfl 86 (.tmp 6) (.tmp 18) rfl _ #[.string seed, .slice ad sn sc, .int .i64 b] rfl rfl _ _ HR.out info86 rfl (by simp [Value.oneCell']) ?_)
      have hrow : (wr.setRow w.heap.size #[.string seed, .slice ad sn sc, .int .i64 b]).heap[w.heap.size]? = some (.cells #[.string seed, .slice ad sn sc, .int .i64 b] 86 (0, 0)) := setRow_heap _ _ _ _ _ _ HR.out
      have hjo : jOf n = j := jOf_of n j hj (by rw [← H2.out]; omega) hl
      refine bodyPost_ret (v := .agg #[.string seed, .slice ad sn sc, .int .i64 b]) (results_cell_row rfl _ _ w.heap.size _ _ _ _ rfl hrow Tryd.underlying86 rfl info86) rfl ⟨?_, below_setRow HB.out (Nat.le_refl _) _⟩
      rw [bOf, hjo, ← H2.out]
end Go.Proofs.YtfkpeabkcdhcfaaDoor
