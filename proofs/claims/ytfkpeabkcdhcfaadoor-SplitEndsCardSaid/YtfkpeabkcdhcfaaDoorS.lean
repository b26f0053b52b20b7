/-
  Plain lemmas: a stream of package hash as a value (the hash value, the bytes of the last block, the length), fed byte by byte; what a chunk does that fits into the block.
-/
import Derived.Test.YtfkpeabkcdhcfaaDoorH3
import Derived.Lib.BufferWrite
import Derived.Lib.SlBuf
namespace Go.Proofs.YtfkpeabkcdhcfaaDoor
open Go.RowKit
def u8v (c : UInt8) : Value := .int .u8 (c.toNat : Int)
structure Str where
  s : S8
  blk : List UInt8
  n : Nat
def bytesAt (blk : List UInt8) : Nat → UInt8 := fun i => blk.getD i 0
def feed1 (st : Str) (c : UInt8) : Str :=
  ⟨if st.n % 64 = 63 then compress (bytesAt (st.blk.set (st.n % 64) c)) st.s else st.s, st.blk.set (st.n % 64) c, st.n + 1⟩
def feed (st : Str) (l : List UInt8) : Str := l.foldl feed1 st
theorem feed1_len (st : Str) (c : UInt8) : (feed1 st c).blk.length = st.blk.length := by simp [feed1]
theorem feed_len (l : List UInt8) : ∀ st : Str, (feed st l).blk.length = st.blk.length := by
  induction l with
  | nil => intro st; rfl
  | cons c l ih => intro st; show (feed (feed1 st c) l).blk.length = _; rw [ih, feed1_len]
theorem feed_n (l : List UInt8) : ∀ st : Str, (feed st l).n = st.n + l.length := by
  induction l with
  | nil => intro st; rfl
  | cons c l ih => intro st; show (feed (feed1 st c) l).n = _; rw [ih]; simp [feed1]; omega
theorem feed_append (st : Str) (a b : List UInt8) : feed st (a ++ b) = feed (feed st a) b := by simp [feed, List.foldl_append]
/-- the block behind a chunk -/
def put (blk : List UInt8) (at' : Nat) (l : List UInt8) : List UInt8 := blk.take at' ++ l ++ blk.drop (at' + l.length)
theorem put_cons (blk : List UInt8) (a : Nat) (c : UInt8) (l : List UInt8) (h : a + (l.length + 1) ≤ blk.length) : put (blk.set a c) (a + 1) l = put blk a (c :: l) := by
  unfold put
  apply List.ext_getElem?
  intro i
  simp only [List.getElem?_append, List.length_append, List.length_take, List.length_set, List.length_cons, List.getElem?_take, List.getElem?_drop, List.getElem?_set]
  rcases Nat.lt_trichotomy i a with hi | hi | hi
  · simp [show i < min (a + 1) blk.length + l.length by omega, show i < min (a + 1) blk.length by omega, show i < a + 1 by omega, show ¬ a = i by omega, show i < min a blk.length + (l.length + 1) by omega, show i < min a blk.length by omega, hi]
  · subst hi
    simp [show i < min (i + 1) blk.length + l.length by omega, show i < min (i + 1) blk.length by omega, show i < blk.length by omega, show i < min i blk.length + (l.length + 1) by omega, show ¬ i < min i blk.length by omega, show i - min i blk.length = 0 by omega]
  · by_cases h2 : i < a + 1 + l.length
    · simp [show i < min (a + 1) blk.length + l.length by omega, show ¬ i < min (a + 1) blk.length by omega, show i < min a blk.length + (l.length + 1) by omega, show ¬ i < min a blk.length by omega]
      rw [show i - min a blk.length = (i - min (a + 1) blk.length) + 1 by omega, List.getElem?_cons_succ]
    · simp [show ¬ i < min (a + 1) blk.length + l.length by omega, show ¬ i < min a blk.length + (l.length + 1) by omega]
      rw [if_neg (by omega)]
      congr 1
      omega
theorem feed_chunk (l : List UInt8) : ∀ st : Str, st.blk.length = 64 → 0 < l.length → st.n % 64 + l.length ≤ 64 →
    feed st l = ⟨if st.n % 64 + l.length = 64 then compress (bytesAt (put st.blk (st.n % 64) l)) st.s else st.s, put st.blk (st.n % 64) l, st.n + l.length⟩ := by
  induction l with
  | nil => intro st _ h; simp at h
  | cons c l ih =>
    intro st hb _ hfit
    show feed (feed1 st c) l = _
    simp only [List.length_cons] at hfit ⊢
    by_cases hl : l.length = 0
    · have : l = [] := List.length_eq_zero_iff.1 hl
      subst this
      have hp : st.blk.set (st.n % 64) c = put st.blk (st.n % 64) [c] := by
        have := put_cons st.blk (st.n % 64) c [] (by simp; omega)
        rw [← this]; simp [put]
      simp only [feed, List.foldl, feed1, hp, List.length_nil, Nat.zero_add]
      by_cases h63 : st.n % 64 = 63
      · simp [h63]
      · simp [h63]
    · have hm : (st.n + 1) % 64 = st.n % 64 + 1 := by omega
      have h63 : ¬ st.n % 64 = 63 := by omega
      rw [ih (feed1 st c) (by rw [feed1_len]; exact hb) (by omega) (by simp only [feed1, hm]; omega)]
      simp only [feed1, hm, if_neg h63, put_cons st.blk (st.n % 64) c l (by omega)]
      rw [show st.n % 64 + 1 + l.length = st.n % 64 + (l.length + 1) by omega, show st.n + 1 + l.length = st.n + (l.length + 1) by omega]
/-- a stream as the cells of its struct -/
def strmL (st : Str) : List Value := st.s.all.toList ++ st.blk.map u8v ++ [.int .u64 (st.n : Int)]
def strm (st : Str) : Array Value := (strmL st).toArray
theorem strm_size (st : Str) (h : st.blk.length = 64) : (strm st).size = 73 := by simp [strm, strmL, S8.all, st8, h]
theorem strm_n (st : Str) (h : st.blk.length = 64) : (strm st)[72]? = some (.int .u64 (st.n : Int)) := by
  simp [strm, strmL, S8.all, st8, h]
theorem strm_blk (st : Str) (h : st.blk.length = 64) (i : Nat) (hi : i < 64) : (strm st)[8 + i]? = some (.int .u8 ((bytesAt st.blk i).toNat : Int)) := by
  have hi' : i < st.blk.length := by omega
  have h8 : st.s.all.toList.length = 8 := rfl
  rw [strm, strmL, List.getElem?_toArray, List.append_assoc, List.getElem?_append_right (by rw [h8]; omega), h8, show 8 + i - 8 = i by omega,
    List.getElem?_append_left (by rw [List.length_map]; exact hi'), List.getElem?_map, List.getElem?_eq_getElem hi']
  simp only [bytesAt, List.getD_eq_getElem?_getD, List.getElem?_eq_getElem hi']
  rfl
theorem strm_s (st : Str) (j : Nat) (v : Value) (hv : st.s.all.toList[j]? = some v) : (strm st)[j]? = some v := by
  have hj : j < 8 := by have := (List.getElem?_eq_some_iff.1 hv).1; simpa [S8.all, st8] using this
  simp only [strm, strmL, List.getElem?_toArray, List.append_assoc]
  rw [List.getElem?_append_left (by simp [S8.all, st8]; exact hj)]
  exact hv
theorem strm_set_n (st : Str) (h : st.blk.length = 64) (m : Nat) : (strm st).setIfInBounds 72 (.int .u64 (m : Int)) = strm ⟨st.s, st.blk, m⟩ := by
  apply Array.ext'
  simp [strm, strmL, S8.all, st8, h]
theorem strm_set_blk (st : Str) (h : st.blk.length = 64) (a : Nat) (l : List UInt8) (hl : a + l.length ≤ 64) :
    ((strm st).toList.take (8 + a) ++ l.map u8v ++ (strm st).toList.drop (8 + a + l.length)).toArray = strm ⟨st.s, put st.blk a l, st.n⟩ := by
  apply congrArg List.toArray
  show (strmL st).take (8 + a) ++ l.map u8v ++ (strmL st).drop (8 + a + l.length) = strmL ⟨st.s, put st.blk a l, st.n⟩
  have h8 : st.s.all.toList.length = 8 := rfl
  simp only [strmL, put, List.append_assoc, List.take_append, List.drop_append, h8, List.length_map, List.map_append, List.map_take, List.map_drop]
  rw [List.take_of_length_le (by rw [h8]; omega), List.drop_eq_nil_of_le (by rw [h8]; omega)]
  rw [show 8 + a - 8 = a by omega, show 8 + a + l.length - 8 = a + l.length by omega, h]
  rw [show a - 64 = 0 by omega, show a + l.length - 64 = 0 by omega]
  simp
end Go.Proofs.YtfkpeabkcdhcfaaDoor
