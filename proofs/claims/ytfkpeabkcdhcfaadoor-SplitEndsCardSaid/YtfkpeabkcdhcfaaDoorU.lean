/-
  Plain lemmas: the model's 32-bit operations on numbers as UInt32, and the plain functions of SHA-256 as package hash computes them.
-/
import Derived.WalkKit
namespace Go.Proofs.YtfkpeabkcdhcfaaDoor
open Go.RowKit

theorem bits32 (op : BinOp) (x y : UInt32) : bits op .u32 (x.toNat : Int) (y.toNat : Int) =
    (((match op with | .and => x.toBitVec &&& y.toBitVec | .or => x.toBitVec ||| y.toBitVec | .xor => x.toBitVec ^^^ y.toBitVec | _ => x.toBitVec &&& ~~~y.toBitVec).toNat : Nat) : Int) := by
  unfold bits
  have ex : BitVec.ofInt IntKind.u32.bits (x.toNat : Int) = x.toBitVec := by
    apply BitVec.eq_of_toNat_eq
    have h := x.toNat_lt
    simp only [BitVec.toNat_ofInt, IntKind.bits]
    show ((x.toNat : Int) % _).toNat = x.toNat
    omega
  have ey : BitVec.ofInt IntKind.u32.bits (y.toNat : Int) = y.toBitVec := by
    apply BitVec.eq_of_toNat_eq
    have h := y.toNat_lt
    simp only [BitVec.toNat_ofInt, IntKind.bits]
    show ((y.toNat : Int) % _).toNat = y.toNat
    omega
  rw [ex, ey, IntKind.wrap_u32]
  have key : ∀ z : BitVec 32, ((z.toNat : Nat) : Int) % 4294967296 = (z.toNat : Int) := by
    intro z; have := z.isLt; omega
  exact key _
theorem u32_and (x y : UInt32) : bits .and .u32 (x.toNat : Int) (y.toNat : Int) = ((x &&& y).toNat : Int) := bits32 .and x y
theorem u32_or (x y : UInt32) : bits .or .u32 (x.toNat : Int) (y.toNat : Int) = ((x ||| y).toNat : Int) := bits32 .or x y
theorem u32_xor (x y : UInt32) : bits .xor .u32 (x.toNat : Int) (y.toNat : Int) = ((x ^^^ y).toNat : Int) := bits32 .xor x y
theorem u32_add (x y : UInt32) : ((x.toNat : Int) + (y.toNat : Int)) % 4294967296 = ((x + y).toNat : Int) := by
  rw [UInt32.toNat_add]; omega
theorem u32_shl (x : UInt32) (n : Nat) (h : n < 32) : ((x.toNat : Int) * 2 ^ n) % 4294967296 = ((x <<< (UInt32.ofNat n)).toNat : Int) := by
  rw [UInt32.toNat_shiftLeft]
  have e : (UInt32.ofNat n).toNat % 32 = n := by simp [UInt32.toNat_ofNat']; omega
  rw [e, Nat.shiftLeft_eq]
  have : ((x.toNat * 2 ^ n : Nat) : Int) = (x.toNat : Int) * 2 ^ n := by simp
  rw [← this]
  omega
theorem u32_shr (x : UInt32) (n : Nat) (h : n < 32) : (x.toNat : Int) / 2 ^ n = ((x >>> (UInt32.ofNat n)).toNat : Int) := by
  rw [UInt32.toNat_shiftRight]
  have e : (UInt32.ofNat n).toNat % 32 = n := by simp [UInt32.toNat_ofNat']; omega
  rw [e, Nat.shiftRight_eq_div_pow]
  simp
theorem u32_of_u8 (c : UInt8) : ((c.toNat : Int)) = ((c.toUInt32.toNat : Nat) : Int) := by simp

/-- the rotation to the right -/
def rotr (n : Nat) (x : UInt32) : UInt32 := (x <<< UInt32.ofNat (32 - n)) ||| (x >>> UInt32.ofNat n)
def mix3 (i j k : Nat) (x : UInt32) : UInt32 := rotr i x ^^^ rotr j x ^^^ rotr k x

/-- the first j bytes of a word of a block, the first one being the highest -/
def wordAcc (bs : Nat → UInt8) (t : Nat) : Nat → UInt32
  | 0 => 0
  | j + 1 => (wordAcc bs t j <<< 8) ||| (bs (4 * t + j)).toUInt32
def word (bs : Nat → UInt8) (t : Nat) : UInt32 := wordAcc bs t 4
def sig0 (p : UInt32) : UInt32 := rotr 7 p ^^^ rotr 18 p ^^^ (p >>> 3)
def sig1 (q : UInt32) : UInt32 := rotr 17 q ^^^ rotr 19 q ^^^ (q >>> 10)
/-- the first t words of the schedule -/
def sched (bs : Nat → UInt8) : Nat → List UInt32
  | 0 => []
  | t + 1 =>
    let l := sched bs t
    l ++ [if t < 16 then word bs t else l.getD (t - 16) 0 + sig0 (l.getD (t - 15) 0) + l.getD (t - 7) 0 + sig1 (l.getD (t - 2) 0)]
theorem sched_length (bs : Nat → UInt8) (t : Nat) : (sched bs t).length = t := by
  induction t with
  | zero => rfl
  | succ t ih => simp [sched, ih]
end Go.Proofs.YtfkpeabkcdhcfaaDoor
