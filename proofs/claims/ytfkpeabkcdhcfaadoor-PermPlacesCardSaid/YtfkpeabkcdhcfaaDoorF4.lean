/-
  The plain law: what the statements say of the places.
-/
import Derived.Test.YtfkpeabkcdhcfaaDoorM6
import Derived.Test.YtfkpeabkcdhcfaaDoorP1
namespace Go.Proofs.YtfkpeabkcdhcfaaDoor
theorem placeN_lt (seed : ByteArray) (l : List Int) {n i : Nat} (hn : n ≤ 65536) (hi : i < n) : placeN seed l n i < n := (good_net seed l n).perm.place_lt (big_net n hn) hi
theorem placeN_inj (seed : ByteArray) (l : List Int) {n i j : Nat} (hn : n ≤ 65536) (hi : i < n) (hj : j < n) (h : placeN seed l n i = placeN seed l n j) : i = j := (good_net seed l n).perm.place_inj (big_net n hn) hi hj h
theorem backPlaceN_lt (seed : ByteArray) (l : List Int) {n i : Nat} (hn : n ≤ 65536) (hi : i < n) : backPlaceN seed l n i < n := (good_net seed l n).perm.symm.place_lt (big_net n hn) hi
theorem back_placeN (seed : ByteArray) (l : List Int) {n i : Nat} (hn : n ≤ 65536) (hi : i < n) : backPlaceN seed l n (placeN seed l n i) = i := (good_net seed l n).perm.place_back (big_net n hn) hi
theorem place_backN (seed : ByteArray) (l : List Int) {n i : Nat} (hn : n ≤ 65536) (hi : i < n) : placeN seed l n (backPlaceN seed l n i) = i := (good_net seed l n).perm.symm.place_back (big_net n hn) hi
theorem placeN_less (seed : ByteArray) (l : List Int) {n m i : Nat} (hn : n ≤ 65536) (hm : m ≤ n) (hb : bOf m = bOf n) (hi : i < m) (h : placeN seed l n i < m) : placeN seed l m i = placeN seed l n i := by
  unfold placeN at h ⊢
  rw [hb]
  exact (good_net seed l n).perm.place_less (big_net n hn) hm hi h
theorem upto_get (seed : ByteArray) (l : List Int) (n k i : Nat) (hi : i < k) : (upto seed l n k)[i]? = some ((placeN seed l n i : Nat) : Int) := by
  simp [upto, hi]
theorem upto_getD (seed : ByteArray) (l : List Int) (n k i : Nat) (hi : i < k) : (upto seed l n k).getD i 0 = ((placeN seed l n i : Nat) : Int) := by
  rw [List.getD_eq_getElem?_getD, upto_get seed l n k i hi]; rfl
theorem bOf_cases (n : Nat) : (n ≤ 1 ∧ bOf n = 1) ∨ (1 < n ∧ n ≤ 4 ∧ bOf n = 2) ∨ (4 < n ∧ n ≤ 16 ∧ bOf n = 4) ∨ (16 < n ∧ n ≤ 64 ∧ bOf n = 8) ∨ (64 < n ∧ n ≤ 256 ∧ bOf n = 16) ∨ (256 < n ∧ n ≤ 1024 ∧ bOf n = 32) ∨
    (1024 < n ∧ n ≤ 4096 ∧ bOf n = 64) ∨ (4096 < n ∧ n ≤ 16384 ∧ bOf n = 128) ∨ (16384 < n ∧ bOf n = 256) := by
  have e : bOf n = 2 ^ jOf n := rfl
  unfold jOf at e
  by_cases h1 : n ≤ 1
  · rw [if_pos h1] at e; left; exact ⟨h1, e⟩
  rw [if_neg h1] at e; right
  by_cases h2 : n ≤ 4
  · rw [if_pos h2] at e; left; exact ⟨by omega, h2, e⟩
  rw [if_neg h2] at e; right
  by_cases h3 : n ≤ 16
  · rw [if_pos h3] at e; left; exact ⟨by omega, h3, e⟩
  rw [if_neg h3] at e; right
  by_cases h4 : n ≤ 64
  · rw [if_pos h4] at e; left; exact ⟨by omega, h4, e⟩
  rw [if_neg h4] at e; right
  by_cases h5 : n ≤ 256
  · rw [if_pos h5] at e; left; exact ⟨by omega, h5, e⟩
  rw [if_neg h5] at e; right
  by_cases h6 : n ≤ 1024
  · rw [if_pos h6] at e; left; exact ⟨by omega, h6, e⟩
  rw [if_neg h6] at e; right
  by_cases h7 : n ≤ 4096
  · rw [if_pos h7] at e; left; exact ⟨by omega, h7, e⟩
  rw [if_neg h7] at e; right
  by_cases h8 : n ≤ 16384
  · rw [if_pos h8] at e; left; exact ⟨by omega, h8, e⟩
  rw [if_neg h8] at e; right
  exact ⟨by omega, e⟩
theorem bOf_half (n : Nat) (h1 : 2 ≤ n) : bOf n * bOf n / 4 < n ∧ bOf n ≤ 256 := by
  rcases bOf_cases n with ⟨_, e⟩ | ⟨_, _, e⟩ | ⟨_, _, e⟩ | ⟨_, _, e⟩ | ⟨_, _, e⟩ | ⟨_, _, e⟩ | ⟨_, _, e⟩ | ⟨_, _, e⟩ | ⟨_, e⟩ <;> rw [e] <;> omega
theorem bOf_same (n m : Nat) (h1 : 2 ≤ n) (h3 : bOf n * bOf n / 4 < m) (h4 : m ≤ n) : bOf m = bOf n := by
  rcases bOf_cases n with ⟨_, e⟩ | ⟨_, _, e⟩ | ⟨_, _, e⟩ | ⟨_, _, e⟩ | ⟨_, _, e⟩ | ⟨_, _, e⟩ | ⟨_, _, e⟩ | ⟨_, _, e⟩ | ⟨_, e⟩ <;> rw [e] at h3 ⊢ <;>
    rcases bOf_cases m with ⟨_, f⟩ | ⟨_, _, f⟩ | ⟨_, _, f⟩ | ⟨_, _, f⟩ | ⟨_, _, f⟩ | ⟨_, _, f⟩ | ⟨_, _, f⟩ | ⟨_, _, f⟩ | ⟨_, f⟩ <;> rw [f] <;> omega
/-- a step of the draws of a network of two bits -/
def dstep (f : Nat → Nat → Nat) (k : Nat) (p : Nat × Nat) : Nat × Nat := (p.2, (p.1 + f k p.2) % 2)
def dgo (f : Nat → Nat → Nat) (p : Nat × Nat) : Nat → Nat × Nat
  | 0 => p
  | i + 1 => dstep f i (dgo f p i)
theorem xor_two {a b : Nat} (ha : a < 2) (hb : b < 2) : a ^^^ b = (a + b) % 2 := by
  rcases (show a = 0 ∨ a = 1 by omega) with rfl | rfl <;> rcases (show b = 0 ∨ b = 1 by omega) with rfl | rfl <;> rfl
theorem dgo_fgo (f : Nat → Nat → Nat) (hf : ∀ k r, f k r < 2) (p : Nat × Nat) (hp : In 2 p) : ∀ i, dgo f p i = fgo f p i
  | 0 => rfl
  | i + 1 => by
    have h := fgo_in (j := 1) hf hp i
    rw [dgo, fgo, dgo_fgo f hf p hp i, dstep, fstep, xor_two h.1 (hf _ _)]
theorem bOf_four : bOf 4 = 2 := rfl
theorem placeN_four (seed : ByteArray) (l : List Int) (x : Nat) (hx : x < 4) :
    placeN seed l 4 x = 2 * (dgo (rndN seed l 2) (x / 2, x % 2) 4).1 + (dgo (rndN seed l 2) (x / 2, x % 2) 4).2 := by
  have hr : ∀ k r, rndN seed l 2 k r < 2 := fun k r => rndN_lt seed l 2 k r (by decide)
  have hin : In 2 (x / 2, x % 2) := cut_in (b := 2) hx
  have h := First.place (g := mixN (rndN seed l (bOf 4)) (bOf 4)) (n := 4) (i := x) (x := mixN (rndN seed l (bOf 4)) (bOf 4) x) ⟨mixN_lt (j := 1) hr hx, 0, rfl, fun _ hj => absurd hj (Nat.not_lt_zero _)⟩
  unfold placeN
  rw [h, bOf_four, mixN, ← dgo_fgo _ hr _ hin, joinN, Nat.mul_comm]
/-- the sum of the places -/
theorem sum_places (seed : ByteArray) (l : List Int) (n : Nat) (hn : n ≤ 65536) : sumTo (placeN seed l n) n = sumTo (fun i => i) n :=
  sum_perm n _ (fun _ hi => placeN_lt seed l hn hi) (fun _ _ hi hj h => placeN_inj seed l hn hi hj h)
end Go.Proofs.YtfkpeabkcdhcfaaDoor
