/-
  Walk of the reference's Xor.
-/
import Derived.Test.YtfkpeabkcdhcfaaDoorX8
import Derived.Test.YtfkpeabkcdhcfaaDoorF4
namespace Go.Proofs.YtfkpeabkcdhcfaaDoor
open Go.RowKit
set_option maxRecDepth 100000
theorem xor_step (a b : Nat) : a ^^^ b = 2 * ((a / 2) ^^^ (b / 2)) + (a % 2 + b % 2) % 2 := by
  have h1 : (a ^^^ b) / 2 = a / 2 ^^^ b / 2 := Nat.xor_div_two
  have h2 : (a ^^^ b) % 2 = (a % 2) ^^^ (b % 2) := by
    have := Nat.xor_mod_two_pow (a := a) (b := b) (n := 1)
    simpa using this
  have h3 : (a % 2) ^^^ (b % 2) = (a % 2 + b % 2) % 2 := xor_two (by omega) (by omega)
  omega
/-- what the loop of Xor keeps -/
structure XorI (a0 b0 a b o bt : Nat) : Prop where
  val : o + bt * (a ^^^ b) = a0 ^^^ b0
  ha : a * bt ≤ 65535
  hb : b * bt ≤ 65535
  pos : 1 ≤ bt
  bd : bt ≤ 131072
  oa : a ≤ 65535
  ob : b ≤ 65535
theorem XorI.step {a0 b0 a b o bt : Nat} (h : XorI a0 b0 a b o bt) (hp : 0 < a ∨ 0 < b) : bt ≤ 65535 ∧ XorI a0 b0 (a / 2) (b / 2) (if a % 2 ≠ b % 2 then o + bt else o) (2 * bt) := by
  obtain ⟨h1, h2, h3, h4, h5, h6, h7⟩ := h
  have hbt : bt ≤ 65535 := by
    rcases hp with hp | hp
    · have := Nat.mul_le_mul_right bt hp; omega
    · have := Nat.mul_le_mul_right bt hp; omega
  have e1 : a / 2 * (2 * bt) ≤ a * bt := by
    rw [← Nat.mul_assoc]
    exact Nat.mul_le_mul_right bt (by omega)
  have e2 : b / 2 * (2 * bt) ≤ b * bt := by
    rw [← Nat.mul_assoc]
    exact Nat.mul_le_mul_right bt (by omega)
  refine ⟨hbt, ?_, by omega, by omega, by omega, by omega, by omega, by omega⟩
  have hx := xor_step a b
  rw [hx, Nat.mul_add, ← Nat.mul_assoc, Nat.mul_comm bt 2] at h1
  by_cases hne : a % 2 ≠ b % 2
  · rw [if_pos hne]
    have : (a % 2 + b % 2) % 2 = 1 := by omega
    rw [this, Nat.mul_one] at h1
    omega
  · rw [if_neg hne]
    have : (a % 2 + b % 2) % 2 = 0 := by omega
    rw [this, Nat.mul_zero] at h1
    omega
set_option maxHeartbeats 1000000 in
theorem rxor_any (a0 b0 : Nat) (ha : a0 ≤ 65535) (hb : b0 ≤ 65535) (w : World) : Calls Tryd.prog 106 #[.int .i64 a0, .int .i64 b0] w fun e w' => e = .returned (.int .i64 (a0 ^^^ b0 : Nat)) ∧ w = w' := by
  have hx0 : a0 ^^^ b0 < 65536 := Nat.xor_lt_two_pow (n := 16) (by omega) (by omega)
  go_enter Tryd.func106, Tryd.ntmps106
  go_wp2_with fail
  go_loopw [0, 1, 5, 6] (fun p q r s wr => ∃ a b o bt : Nat, p = .int .i64 a ∧ q = .int .i64 b ∧ r = .int .i64 o ∧ s = .int .i64 bt ∧ XorI a0 b0 a b o bt ∧ w = wr) (fun p q _ _ _ => (intOf p).toNat + (intOf q).toNat)
  case atStart => exact ⟨a0, b0, 0, 1, rfl, rfl, rfl, rfl, ⟨by omega, by omega, by omega, by omega, by omega, by omega, by omega⟩, rfl⟩
  case round =>
    obtain ⟨a, b, o, bt, rfl, rfl, rfl, rfl, hI, rfl⟩ := hrel
    by_cases hp : 0 < a ∨ 0 < b
    · obtain ⟨hbt, hS⟩ := hI.step hp
      have hoa := hI.oa
      have hob := hI.ob
      have hov : o ≤ 65535 := by have := hI.val; omega
      have HS := Lib.hid hS
      clear hS hI
      by_cases ha1 : 0 < a
      · by_cases hne : a % 2 = b % 2
        · have hne' : ((a : Int) % 2 != (b : Int) % 2) = false := by simp; omega
          go_wp2_with fail
          go_roundw
          case rel =>
            have hs := HS.out
            rw [if_neg (by omega)] at hs
            exact ⟨a / 2, b / 2, o, 2 * bt, by go_num, by go_num, rfl, by go_num, hs, trivial⟩
          case measure => simp [intOf]; omega
        · have hne' : ((a : Int) % 2 == (b : Int) % 2) = false := by simp; omega
          go_wp2_with fail
          go_roundw
          case rel =>
            have hs := HS.out
            rw [if_pos (by omega)] at hs
            exact ⟨a / 2, b / 2, o + bt, 2 * bt, by go_num, by go_num, by go_num, by go_num, hs, trivial⟩
          case measure => simp [intOf]; omega
      · have ha0 : ¬ 0 < a := ha1
        have hb1 : 0 < b := by omega
        by_cases hne : a % 2 = b % 2
        · have hne' : ((a : Int) % 2 != (b : Int) % 2) = false := by simp; omega
          go_wp2_with fail
          go_roundw
          case rel =>
            have hs := HS.out
            rw [if_neg (by omega)] at hs
            exact ⟨a / 2, b / 2, o, 2 * bt, by go_num, by go_num, rfl, by go_num, hs, trivial⟩
          case measure => simp [intOf]; omega
        · have hne' : ((a : Int) % 2 == (b : Int) % 2) = false := by simp; omega
          go_wp2_with fail
          go_roundw
          case rel =>
            have hs := HS.out
            rw [if_pos (by omega)] at hs
            exact ⟨a / 2, b / 2, o + bt, 2 * bt, by go_num, by go_num, by go_num, by go_num, hs, trivial⟩
          case measure => simp [intOf]; omega
    · obtain rfl : a = 0 := by omega
      obtain rfl : b = 0 := by omega
      have hv := hI.val
      go_wp2_with fail
      go_ret
      refine ⟨?_, rfl⟩
      rw [Nat.xor_self, Nat.mul_zero, Nat.add_zero] at hv
      rw [← hv]
      rfl
end Go.Proofs.YtfkpeabkcdhcfaaDoor
