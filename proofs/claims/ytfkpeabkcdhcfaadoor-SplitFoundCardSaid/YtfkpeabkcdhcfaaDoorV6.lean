/-
  The draws of all nodes of splits of at most twelve parts: no first word is near 2^48.
  The draws of all splits of at most twelve parts are accepted at the first try.
-/
import Derived.Test.YtfkpeabkcdhcfaaDoorG1
import Derived.Test.YtfkpeabkcdhcfaaDoorG2
import Derived.Test.YtfkpeabkcdhcfaaDoorG3
import Derived.Test.YtfkpeabkcdhcfaaDoorT14
namespace Go.Proofs.YtfkpeabkcdhcfaaDoor
def nodes12 : List (Nat × Nat) := [(0, 2), (1, 2), (2, 2), (3, 2), (4, 2), (5, 2), (6, 2), (7, 2), (8, 2), (9, 2), (10, 2), (0, 3), (2, 3), (3, 3), (5, 3), (6, 3), (7, 3), (8, 3), (9, 3), (0, 4), (3, 4), (4, 4), (0, 5), (4, 5), (5, 5), (0, 6), (5, 6), (6, 6), (0, 7), (0, 8), (0, 9), (0, 10), (0, 11), (0, 12)]
theorem far_seed0 : ∀ x ∈ nodes12, Far [128] x.1 x.2 0 1 := by
  intro x hx
  simp only [nodes12, List.mem_cons, List.not_mem_nil, or_false] at hx
  rcases hx with rfl | rfl | rfl | rfl | rfl | rfl | rfl | rfl | rfl | rfl | rfl | rfl | rfl | rfl | rfl | rfl | rfl | rfl | rfl | rfl | rfl | rfl | rfl | rfl | rfl | rfl | rfl | rfl | rfl | rfl | rfl | rfl | rfl | rfl
  · exact far_0_0_2
  · exact far_0_1_2
  · exact far_0_2_2
  · exact far_0_3_2
  · exact far_0_4_2
  · exact far_0_5_2
  · exact far_0_6_2
  · exact far_0_7_2
  · exact far_0_8_2
  · exact far_0_9_2
  · exact far_0_10_2
  · exact far_0_0_3
  · exact far_0_2_3
  · exact far_0_3_3
  · exact far_0_5_3
  · exact far_0_6_3
  · exact far_0_7_3
  · exact far_0_8_3
  · exact far_0_9_3
  · exact far_0_0_4
  · exact far_0_3_4
  · exact far_0_4_4
  · exact far_0_0_5
  · exact far_0_4_5
  · exact far_0_5_5
  · exact far_0_0_6
  · exact far_0_5_6
  · exact far_0_6_6
  · exact far_0_0_7
  · exact far_0_0_8
  · exact far_0_0_9
  · exact far_0_0_10
  · exact far_0_0_11
  · exact far_0_0_12
theorem far_seed1 : ∀ x ∈ nodes12, Far [129, 1, 115] x.1 x.2 0 1 := by
  intro x hx
  simp only [nodes12, List.mem_cons, List.not_mem_nil, or_false] at hx
  rcases hx with rfl | rfl | rfl | rfl | rfl | rfl | rfl | rfl | rfl | rfl | rfl | rfl | rfl | rfl | rfl | rfl | rfl | rfl | rfl | rfl | rfl | rfl | rfl | rfl | rfl | rfl | rfl | rfl | rfl | rfl | rfl | rfl | rfl | rfl
  · exact far_1_0_2
  · exact far_1_1_2
  · exact far_1_2_2
  · exact far_1_3_2
  · exact far_1_4_2
  · exact far_1_5_2
  · exact far_1_6_2
  · exact far_1_7_2
  · exact far_1_8_2
  · exact far_1_9_2
  · exact far_1_10_2
  · exact far_1_0_3
  · exact far_1_2_3
  · exact far_1_3_3
  · exact far_1_5_3
  · exact far_1_6_3
  · exact far_1_7_3
  · exact far_1_8_3
  · exact far_1_9_3
  · exact far_1_0_4
  · exact far_1_3_4
  · exact far_1_4_4
  · exact far_1_0_5
  · exact far_1_4_5
  · exact far_1_5_5
  · exact far_1_0_6
  · exact far_1_5_6
  · exact far_1_6_6
  · exact far_1_0_7
  · exact far_1_0_8
  · exact far_1_0_9
  · exact far_1_0_10
  · exact far_1_0_11
  · exact far_1_0_12
theorem far_seed2 : ∀ x ∈ nodes12, Far [129, 6, 115, 101, 101, 100, 32, 50] x.1 x.2 0 1 := by
  intro x hx
  simp only [nodes12, List.mem_cons, List.not_mem_nil, or_false] at hx
  rcases hx with rfl | rfl | rfl | rfl | rfl | rfl | rfl | rfl | rfl | rfl | rfl | rfl | rfl | rfl | rfl | rfl | rfl | rfl | rfl | rfl | rfl | rfl | rfl | rfl | rfl | rfl | rfl | rfl | rfl | rfl | rfl | rfl | rfl | rfl
  · exact far_2_0_2
  · exact far_2_1_2
  · exact far_2_2_2
  · exact far_2_3_2
  · exact far_2_4_2
  · exact far_2_5_2
  · exact far_2_6_2
  · exact far_2_7_2
  · exact far_2_8_2
  · exact far_2_9_2
  · exact far_2_10_2
  · exact far_2_0_3
  · exact far_2_2_3
  · exact far_2_3_3
  · exact far_2_5_3
  · exact far_2_6_3
  · exact far_2_7_3
  · exact far_2_8_3
  · exact far_2_9_3
  · exact far_2_0_4
  · exact far_2_3_4
  · exact far_2_4_4
  · exact far_2_0_5
  · exact far_2_4_5
  · exact far_2_5_5
  · exact far_2_0_6
  · exact far_2_5_6
  · exact far_2_6_6
  · exact far_2_0_7
  · exact far_2_0_8
  · exact far_2_0_9
  · exact far_2_0_10
  · exact far_2_0_11
  · exact far_2_0_12
end Go.Proofs.YtfkpeabkcdhcfaaDoor
namespace Go.Proofs.YtfkpeabkcdhcfaaDoor
open Go.RowKit
/-- a word that is far from 2^48 is accepted -/
theorem acc_far {seed : ByteArray} {l : List Int} {t n c : Nat} (ht : t ≤ 1000) (h0 : 0 < n) (hn : n ≤ c * 65536) (h : wordOf seed l (t : Nat) / 65536 + c < 4294967296) : Acc seed l n :=
  ⟨t, ht, by have := lim_gt n h0; omega⟩
theorem range_bound {lo hi : Int} {n : Nat} {t : Int} (h : NodeOk lo hi n t) (D : Nat) (hD : hi - lo ≤ D) : 0 < rangeOf lo hi n t ∧ rangeOf lo hi n t ≤ n / 2 * D + 1 := by
  obtain ⟨h1, h2, h3, h4, h5, h6⟩ := h
  have e1 : (n : Int) * lo = (n / 2 : Nat) * lo + (n - n / 2 : Nat) * lo := by rw [← Int.add_mul]; congr 1; omega
  have e2 : (n : Int) * hi = (n / 2 : Nat) * hi + (n - n / 2 : Nat) * hi := by rw [← Int.add_mul]; congr 1; omega
  have e3 : ((n / 2 : Nat) : Int) * lo ≤ (n / 2 : Nat) * hi := Int.mul_le_mul_of_nonneg_left h4 (by omega)
  have e4 : ((n - n / 2 : Nat) : Int) * lo ≤ (n - n / 2 : Nat) * hi := Int.mul_le_mul_of_nonneg_left h4 (by omega)
  have e5 : ((n / 2 : Nat) : Int) * hi ≤ (n / 2 : Nat) * lo + (n / 2 : Nat) * D := by
    rw [← Int.mul_add]; exact Int.mul_le_mul_of_nonneg_left (by omega) (by omega)
  have e6 : (((n / 2 * D : Nat) : Nat) : Int) = (n / 2 : Nat) * (D : Int) := by rw [Int.natCast_mul]
  unfold rangeOf
  omega
theorem nodes12_closed : ∀ x ∈ nodes12, x.1 + x.2 ≤ 12 ∧ 2 ≤ x.2 ∧ (2 ≤ x.2 / 2 → (x.1, x.2 / 2) ∈ nodes12) ∧ (2 ≤ x.2 - x.2 / 2 → (x.1 + x.2 / 2, x.2 - x.2 / 2) ∈ nodes12) := by decide +kernel
theorem nodes12_root : ∀ N : Fin 13, 2 ≤ N.val → (0, N.val) ∈ nodes12 := by decide +kernel
def seedK (k : Nat) : ByteArray := [sEmpty, sOne, sSix].getD k sEmpty
theorem seed0_is : SeedIs (seedK 0) [128] := ⟨by
  show encInt (0 : Nat) ++ [] = _
  rw [enc_small 0 (by decide)]; rfl, by decide, by decide⟩
theorem seed1_is : SeedIs (seedK 1) [129, 1, 115] := ⟨by
  show encInt (1 : Nat) ++ [115] = _
  rw [enc_small 1 (by decide)]; rfl, by decide, by decide⟩
theorem seed2_is : SeedIs (seedK 2) [129, 6, 115, 101, 101, 100, 32, 50] := ⟨by
  show encInt (6 : Nat) ++ [115, 101, 101, 100, 32, 50] = _
  rw [enc_small 6 (by decide)]; rfl, by decide, by decide⟩
theorem far_any (k : Nat) (p : List Int) (hp : p.length ≤ 3) (hb : ∀ x ∈ p, 0 ≤ x ∧ x < 100) (a n : Nat) (hx : (a, n) ∈ nodes12) (hk : k < 3) : wordOf (seedK k) (p ++ [(a : Int), (n : Int)]) (0 : Nat) / 65536 + 1 < 4294967296 := by
  have hc := nodes12_closed _ hx
  dsimp only at hc
  rcases (show k = 0 ∨ k = 1 ∨ k = 2 by omega) with rfl | rfl | rfl
  · exact far_word seed0_is (by omega) (by omega) (by omega) (by omega) (far_seed0 _ hx) p hp hb
  · exact far_word seed1_is (by omega) (by omega) (by omega) (by omega) (far_seed1 _ hx) p hp hb
  · exact far_word seed2_is (by omega) (by omega) (by omega) (by omega) (far_seed2 _ hx) p hp hb
/-- the nodes of a split of at most twelve parts -/
def In12 (lo hi : Int) (a n : Nat) (t : Int) : Prop := NodeOk lo hi n t ∧ a + n ≤ 12 ∧ (2 ≤ n → (a, n) ∈ nodes12)
theorem drawn12 (k : Nat) (hk : k < 3) (p : List Int) (hp : p.length ≤ 3) (hb : ∀ x ∈ p, 0 ≤ x ∧ x < 100) (lo hi : Int) (hd : hi - lo ≤ 10000) : Drawn (seedK k) p lo hi (In12 lo hi) := by
  refine ⟨?_, ?_, ?_, ?_⟩
  · rintro a n t ⟨h1, h2, _⟩; exact ⟨h1, by omega⟩
  · rintro a n t ⟨h1, h2, h3⟩ hn
    have hc := nodes12_closed _ (h3 hn)
    exact ⟨(h1.left (seed := seedK k) (l := p) (a := a)).1, by omega, hc.2.2.1⟩
  · rintro a n t ⟨h1, h2, h3⟩ hn
    have hc := nodes12_closed _ (h3 hn)
    exact ⟨(h1.left (seed := seedK k) (l := p) (a := a)).2, by omega, hc.2.2.2⟩
  · rintro a n t ⟨h1, h2, h3⟩ hn
    have hr := range_bound h1 10000 hd
    have hm : n / 2 * 10000 ≤ 6 * 10000 := Nat.mul_le_mul_right _ (by omega)
    exact acc_far (t := 0) (c := 1) (by omega) hr.1 (by omega) (far_any k p hp hb a n (h3 hn) hk)
theorem in12_root {lo hi : Int} {N : Nat} {t : Int} (h : NodeOk lo hi N t) (hN : N ≤ 12) : In12 lo hi 0 N t := ⟨h, by omega, fun h2 => nodes12_root ⟨N, by omega⟩ h2⟩
theorem mSeed_k (l : List Int) : ∃ k, k < 3 ∧ mSeed l = seedK k := ⟨(atI l 0 3).toNat, by have := atI_bd l 0 3 (by omega); omega, rfl⟩
/-- a split made of numbers: its draws are accepted -/
theorem drawnM (l : List Int) (lo hi : Int) (hd : hi - lo ≤ 10000) : Drawn (mSeed l) (mPath l) lo hi (In12 lo hi) := by
  obtain ⟨k, hk, e⟩ := mSeed_k l
  rw [e]
  exact drawn12 k hk (mPath l) (mPath_len l) (mPath_bd l) lo hi hd
end Go.Proofs.YtfkpeabkcdhcfaaDoor
