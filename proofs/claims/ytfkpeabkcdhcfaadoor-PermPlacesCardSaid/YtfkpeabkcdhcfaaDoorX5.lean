/-
  The plain law: a message hashed block by block is the stream fed byte by byte.
-/
import Derived.Test.YtfkpeabkcdhcfaaDoorX4
namespace Go.Proofs.YtfkpeabkcdhcfaaDoor
open Go.RowKit
/-- the bytes of block b of a message -/
def blkOf (M : List UInt8) (b : Nat) : Nat → UInt8 := fun i => M.getD (64 * b + i) 0
/-- the hash value behind b blocks -/
def sb (M : List UInt8) : Nat → S8
  | 0 => str0.s
  | b + 1 => compress (blkOf M b) (sb M b)
theorem compress_congr {f g : Nat → UInt8} (s : S8) (h : ∀ i, i < 64 → f i = g i) : compress f s = compress g s := by
  have hw : ∀ t j, t < 16 → j ≤ 4 → wordAcc f t j = wordAcc g t j := fun t j ht => by
    induction j with
    | zero => intro _; rfl
    | succ j ih => intro hj; rw [wordAcc, wordAcc, ih (by omega), h _ (by omega)]
  have hs : ∀ t, sched f t = sched g t := fun t => by
    induction t with
    | zero => rfl
    | succ t ih =>
      rw [sched, sched, ih]
      by_cases ht : t < 16
      · simp only [if_pos ht, word, hw t 4 ht (by omega)]
      · simp only [if_neg ht]
  unfold compress
  rw [hs]
theorem feed_blocks (M : List UInt8) : ∀ b, 64 * b ≤ M.length → (feed str0 (M.take (64 * b))).s = sb M b ∧ (feed str0 (M.take (64 * b))).n = 64 * b
  | 0, _ => by simp [feed, sb, str0]
  | b + 1, h => by
    obtain ⟨h1, h2⟩ := feed_blocks M b (by omega)
    have hl : (feed str0 (M.take (64 * b))).blk.length = 64 := feed0_len _
    have hsplit : M.take (64 * (b + 1)) = M.take (64 * b) ++ (M.drop (64 * b)).take 64 := by
      rw [show 64 * (b + 1) = 64 * b + 64 by omega, List.take_add]
    have hcl : ((M.drop (64 * b)).take 64).length = 64 := by simp; omega
    have hmod : (feed str0 (M.take (64 * b))).n % 64 = 0 := by rw [h2]; omega
    rw [hsplit, feed_append, feed_chunk _ _ hl (by rw [hcl]; omega) (by rw [hcl, hmod]; omega)]
    refine ⟨?_, by simp only [hcl, h2]; omega⟩
    simp only [hcl, hmod, if_pos]
    rw [h1, sb]
    refine compress_congr _ fun i hi => ?_
    simp only [bytesAt, put, blkOf, List.take_zero, List.nil_append, List.getD_eq_getElem?_getD]
    rw [List.getElem?_append_left (by rw [hcl]; exact hi), List.getElem?_take, if_pos hi, List.getElem?_drop]
theorem feed_all (M : List UInt8) (b : Nat) (h : M.length = 64 * b) : (feed str0 M).s = sb M b := by
  have := (feed_blocks M b (by omega)).1
  rwa [← h, List.take_length] at this
theorem padL_len (n : Nat) : (padL n).length = 9 + zc n := by simp [padL, be8]; omega
theorem msg_len (l : List UInt8) : ∃ b, (l ++ padL l.length).length = 64 * b := by
  refine ⟨(l ++ padL l.length).length / 64, ?_⟩
  rw [List.length_append, padL_len]
  unfold zc
  omega
/-- the hash value of a message -/
def hashOf (l : List UInt8) : S8 := (feed (feed str0 l) (padL (feed str0 l).n)).s
theorem hashOf_eq (l : List UInt8) : hashOf l = (feed str0 (l ++ padL l.length)).s := by
  have hn : (feed str0 l).n = l.length := by rw [feed_n]; simp [str0]
  rw [hashOf, hn, feed_append]
theorem of8_hash (s1 s2 : ByteArray) : of8 s1 s2 = hashOf (preS s1 s2 2) := rfl
end Go.Proofs.YtfkpeabkcdhcfaaDoor
