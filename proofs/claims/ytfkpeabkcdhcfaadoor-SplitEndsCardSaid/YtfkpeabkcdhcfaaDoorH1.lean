/-
  Walks of package hash: RotateLeft32 and mix, each at the counts that the program uses: what they return; the world stands.
-/
import Derived.Test.YtfkpeabkcdhcfaaDoorProg
import Derived.Test.YtfkpeabkcdhcfaaDoorU
import Derived.WalkKit
import Derived.WalkLawsBesides
import Derived.WalkSpells
namespace Go.Proofs.YtfkpeabkcdhcfaaDoor
open Go.RowKit

theorem rot_count : ∀ n : Fin 32, n.val ≠ 0 → bits BinOp.and .u64 (IntKind.u64.wrap (-(n.val : Int))) 31 = 32 - (n.val : Int) := by decide +kernel

/-- bits.RotateLeft32(x, -n) -/
theorem rot_any (x : UInt32) (n : Nat) (h0 : 0 < n) (h1 : n < 32) (w : World) : Calls Tryd.prog 127 #[.int .u32 x.toNat, .int .i64 (-(n : Int))] w fun e w' => e = .returned (.int .u32 (rotr n x).toNat) ∧ w = w' := by
  have e := rot_count ⟨n, h1⟩ (by simp; omega)
  simp only at e
  go_enter Tryd.func127, Tryd.ntmps127
  go_wp2
  go_ret
  refine ⟨?_, rfl⟩
  have e1 := u32_shl x (32 - n) (by omega)
  have e2 := u32_shr x n h1
  rw [show 32 - (32 - n) = n by omega]
  simp only [Array.getD_eq_getD_getElem?, List.getElem?_toArray, List.getElem?_cons_succ, List.getElem?_cons_zero, Option.getD_some, e1, e2, u32_or]
  rfl

/-- hash.mix -/
theorem mix_any (x : UInt32) (i j k : Nat) (hi0 : 0 < i) (hi : i < 32) (hj0 : 0 < j) (hj : j < 32) (hk0 : 0 < k) (hk : k < 32) (w : World) :
    Calls Tryd.prog 121 #[.int .u32 x.toNat, .int .i64 (i : Int), .int .i64 (j : Int), .int .i64 (k : Int)] w fun e w' => e = .returned (.int .u32 (mix3 i j k x).toNat) ∧ w = w' := by
  go_enter Tryd.func121, Tryd.ntmps121
  go_wp2_with fail
  refine (rot_any x i hi0 hi _).mono ?_; rintro e w' ⟨rfl, rfl⟩
  go_wp2_with fail
  refine (rot_any x j hj0 hj _).mono ?_; rintro e w' ⟨rfl, rfl⟩
  go_wp2_with fail
  refine (rot_any x k hk0 hk _).mono ?_; rintro e w' ⟨rfl, rfl⟩
  go_wp2
  go_ret
  refine ⟨?_, rfl⟩
  simp only [Array.getD_eq_getD_getElem?, List.getElem?_toArray, List.getElem?_cons_succ, List.getElem?_cons_zero, Option.getD_some, u32_xor]
  rfl
end Go.Proofs.YtfkpeabkcdhcfaaDoor
