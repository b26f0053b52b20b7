/-
  The draws of the great splits are accepted at the first or the second try.
-/
import Derived.Test.YtfkpeabkcdhcfaaDoorG4
import Derived.Test.YtfkpeabkcdhcfaaDoorV6
namespace Go.Proofs.YtfkpeabkcdhcfaaDoor
open Go.RowKit
/-- at one of the first two tries the word is far from 2^48 -/
def Soon (a n c : Nat) : Prop := ∃ t : Nat, t ≤ 1 ∧ wordOf sG [((a : Nat) : Int), ((n : Nat) : Int)] (t : Nat) / 65536 + c < 4294967296
theorem Soon.less {a n c d : Nat} (h : Soon a n c) (hd : d ≤ c) : Soon a n d := by
  obtain ⟨t, h1, h2⟩ := h
  exact ⟨t, h1, by omega⟩
/-- a level: the first parts of node i are within i of i times the number of parts -/
theorem lv_soon {n0 R c m : Nat} (hlo : 256 ≤ n0) (hhi : n0 + R < 65536) (hm : m * (n0 + R + 1) < 65536) (hc : c ≤ 4294967296) (hz : gCh n0 R 1 0 0 1 3 c = true) (hl : ∀ i, 1 ≤ i → i ≤ m → gCh n0 R (2 * i + 1) i 0 3 3 c = true) (i a n : Nat) (hi : i ≤ m) (hn1 : n0 < n) (hn2 : n ≤ n0 + R) (h1 : i * n ≤ a + i) (h2 : a ≤ i * n + i) : Soon a n c := by
  obtain ⟨r, rfl⟩ : ∃ r, n = n0 + r + 1 := ⟨n - n0 - 1, by omega⟩
  have hcls : ∀ r, r < R → InG 3 (n0 + r + 1) := fun r hr => by show 256 ≤ n0 + r + 1 ∧ n0 + r + 1 < 65536; omega
  rcases Nat.eq_zero_or_pos i with rfl | i0
  · obtain rfl : a = 0 := by omega
    have := gCh_word (n0 := n0) (R := R) (C := 1) (i := 0) (a0 := 0) (by omega) (by omega) hcls (fun r d hr hd => by show 0 * _ + 0 + d = 0; omega) hc hz r 0 (by omega) (by omega)
    rw [show 0 * (n0 + r) + 0 + 0 = 0 by omega] at this
    exact this
  · have e1 : i * (n0 + r + 1) = i * (n0 + r) + i := Nat.mul_succ _ _
    have hcl : ∀ r d, r < R → d < 2 * i + 1 → InG 3 (i * (n0 + r) + 0 + d) := fun r d hr hd => by
      have k1 : 1 * 256 ≤ i * (n0 + r) := Nat.mul_le_mul i0 (by omega)
      have k2 : i * (n0 + r) + 2 * i ≤ m * (n0 + R + 1) := by
        have k3 : i * (n0 + r) + 2 * i = i * (n0 + r + 2) := by rw [Nat.mul_add i (n0 + r) 2, Nat.mul_comm i 2]
        rw [k3]; exact Nat.mul_le_mul hi (by omega)
      show 256 ≤ i * (n0 + r) + 0 + d ∧ i * (n0 + r) + 0 + d < 65536
      omega
    have := gCh_word (n0 := n0) (R := R) (C := 2 * i + 1) (i := i) (a0 := 0) (by omega) (by omega) hcls hcl hc (hl i i0 hi) r (a - i * (n0 + r)) (by omega) (by omega)
    rw [show i * (n0 + r) + 0 + (a - i * (n0 + r)) = a by omega] at this
    exact this
theorem lv_at {n0 R c lo k : Nat} (h : gLv n0 R c lo k = true) (i : Nat) (h1 : lo ≤ i) (h2 : i < lo + k) : gCh n0 R (2 * i + 1) i 0 3 3 c = true := by
  have := vAll_at _ lo k h (i - lo) (by omega)
  rw [show lo + (i - lo) = i by omega] at this
  exact this
theorem few_soon {n0 kn : Nat} (h : GFar n0 kn 2049) (hn : InG kn (n0 + 1)) (a : Nat) (ha : a < 65536) : Soon a (n0 + 1) 2049 := gFar_word hn (by omega) h a ha
theorem lvl1 (i a n : Nat) (hi : i ≤ 1) (hn1 : 30000 ≤ n) (hn2 : n ≤ 32768) (h1 : i * n ≤ a + i) (h2 : a ≤ i * n + i) : Soon a n 262145 := by
  refine lv_soon (n0 := 29999) (R := 2769) (m := 1) (by omega) (by omega) (by omega) (by omega) lv1_z (fun i h1 h2 => ?_) i a n hi (by omega) (by omega) h1 h2
  rcases (show (1 ≤ i ∧ i < 2) by omega) with h
  · exact lv_at lv1_1 i h.1 h.2
theorem lvl2 (i a n : Nat) (hi : i ≤ 3) (hn1 : 15000 ≤ n) (hn2 : n ≤ 16384) (h1 : i * n ≤ a + i) (h2 : a ≤ i * n + i) : Soon a n 131073 := by
  refine lv_soon (n0 := 14999) (R := 1385) (m := 3) (by omega) (by omega) (by omega) (by omega) lv2_z (fun i h1 h2 => ?_) i a n hi (by omega) (by omega) h1 h2
  rcases (show (1 ≤ i ∧ i < 4) by omega) with h
  · exact lv_at lv2_1 i h.1 h.2
theorem lvl3 (i a n : Nat) (hi : i ≤ 7) (hn1 : 7500 ≤ n) (hn2 : n ≤ 8192) (h1 : i * n ≤ a + i) (h2 : a ≤ i * n + i) : Soon a n 65537 := by
  refine lv_soon (n0 := 7499) (R := 693) (m := 7) (by omega) (by omega) (by omega) (by omega) lv3_z (fun i h1 h2 => ?_) i a n hi (by omega) (by omega) h1 h2
  rcases (show (1 ≤ i ∧ i < 8) by omega) with h
  · exact lv_at lv3_1 i h.1 h.2
theorem lvl4 (i a n : Nat) (hi : i ≤ 15) (hn1 : 3750 ≤ n) (hn2 : n ≤ 4096) (h1 : i * n ≤ a + i) (h2 : a ≤ i * n + i) : Soon a n 32769 := by
  refine lv_soon (n0 := 3749) (R := 347) (m := 15) (by omega) (by omega) (by omega) (by omega) lv4_z (fun i h1 h2 => ?_) i a n hi (by omega) (by omega) h1 h2
  rcases (show (1 ≤ i ∧ i < 9) ∨ (9 ≤ i ∧ i < 16) by omega) with h | h
  · exact lv_at lv4_1 i h.1 h.2
  · exact lv_at lv4_9 i h.1 h.2
theorem lvl5 (i a n : Nat) (hi : i ≤ 31) (hn1 : 1875 ≤ n) (hn2 : n ≤ 2048) (h1 : i * n ≤ a + i) (h2 : a ≤ i * n + i) : Soon a n 16385 := by
  refine lv_soon (n0 := 1874) (R := 174) (m := 31) (by omega) (by omega) (by omega) (by omega) lv5_z (fun i h1 h2 => ?_) i a n hi (by omega) (by omega) h1 h2
  rcases (show (1 ≤ i ∧ i < 9) ∨ (9 ≤ i ∧ i < 17) ∨ (17 ≤ i ∧ i < 25) ∨ (25 ≤ i ∧ i < 32) by omega) with h | h | h | h
  · exact lv_at lv5_1 i h.1 h.2
  · exact lv_at lv5_9 i h.1 h.2
  · exact lv_at lv5_17 i h.1 h.2
  · exact lv_at lv5_25 i h.1 h.2
theorem lvl6 (i a n : Nat) (hi : i ≤ 63) (hn1 : 937 ≤ n) (hn2 : n ≤ 1024) (h1 : i * n ≤ a + i) (h2 : a ≤ i * n + i) : Soon a n 8193 := by
  refine lv_soon (n0 := 936) (R := 88) (m := 63) (by omega) (by omega) (by omega) (by omega) lv6_z (fun i h1 h2 => ?_) i a n hi (by omega) (by omega) h1 h2
  rcases (show (1 ≤ i ∧ i < 9) ∨ (9 ≤ i ∧ i < 17) ∨ (17 ≤ i ∧ i < 25) ∨ (25 ≤ i ∧ i < 33) ∨ (33 ≤ i ∧ i < 41) ∨ (41 ≤ i ∧ i < 49) ∨ (49 ≤ i ∧ i < 57) ∨ (57 ≤ i ∧ i < 64) by omega) with h | h | h | h | h | h | h | h
  · exact lv_at lv6_1 i h.1 h.2
  · exact lv_at lv6_9 i h.1 h.2
  · exact lv_at lv6_17 i h.1 h.2
  · exact lv_at lv6_25 i h.1 h.2
  · exact lv_at lv6_33 i h.1 h.2
  · exact lv_at lv6_41 i h.1 h.2
  · exact lv_at lv6_49 i h.1 h.2
  · exact lv_at lv6_57 i h.1 h.2
theorem lvl7 (i a n : Nat) (hi : i ≤ 127) (hn1 : 468 ≤ n) (hn2 : n ≤ 512) (h1 : i * n ≤ a + i) (h2 : a ≤ i * n + i) : Soon a n 4097 := by
  refine lv_soon (n0 := 467) (R := 45) (m := 127) (by omega) (by omega) (by omega) (by omega) lv7_z (fun i h1 h2 => ?_) i a n hi (by omega) (by omega) h1 h2
  rcases (show (1 ≤ i ∧ i < 9) ∨ (9 ≤ i ∧ i < 17) ∨ (17 ≤ i ∧ i < 25) ∨ (25 ≤ i ∧ i < 33) ∨ (33 ≤ i ∧ i < 41) ∨ (41 ≤ i ∧ i < 49) ∨ (49 ≤ i ∧ i < 57) ∨ (57 ≤ i ∧ i < 65) ∨ (65 ≤ i ∧ i < 73) ∨ (73 ≤ i ∧ i < 81) ∨ (81 ≤ i ∧ i < 89) ∨ (89 ≤ i ∧ i < 97) ∨ (97 ≤ i ∧ i < 105) ∨ (105 ≤ i ∧ i < 113) ∨ (113 ≤ i ∧ i < 121) ∨ (121 ≤ i ∧ i < 128) by omega) with h | h | h | h | h | h | h | h | h | h | h | h | h | h | h | h
  · exact lv_at lv7_1 i h.1 h.2
  · exact lv_at lv7_9 i h.1 h.2
  · exact lv_at lv7_17 i h.1 h.2
  · exact lv_at lv7_25 i h.1 h.2
  · exact lv_at lv7_33 i h.1 h.2
  · exact lv_at lv7_41 i h.1 h.2
  · exact lv_at lv7_49 i h.1 h.2
  · exact lv_at lv7_57 i h.1 h.2
  · exact lv_at lv7_65 i h.1 h.2
  · exact lv_at lv7_73 i h.1 h.2
  · exact lv_at lv7_81 i h.1 h.2
  · exact lv_at lv7_89 i h.1 h.2
  · exact lv_at lv7_97 i h.1 h.2
  · exact lv_at lv7_105 i h.1 h.2
  · exact lv_at lv7_113 i h.1 h.2
  · exact lv_at lv7_121 i h.1 h.2
theorem lvl0 (n : Nat) (h1 : 60000 ≤ n) (h2 : n ≤ 65536) : Soon 0 n 524289 := by
  rcases (show n < 65536 ∨ n = 65536 by omega) with h | rfl
  · have := gCh_word (n0 := 59999) (R := 5536) (C := 1) (i := 0) (a0 := 0) (ka := 1) (kn := 3) (by omega) (by omega) (fun r hr => by show 256 ≤ 59999 + r + 1 ∧ 59999 + r + 1 < 65536; omega) (fun r d hr hd => by show 0 * _ + 0 + d = 0; omega) (by omega) lv0_a (n - 60000) 0 (by omega) (by omega)
    rw [show 59999 + (n - 60000) + 1 = n by omega, show 0 * (59999 + (n - 60000)) + 0 + 0 = 0 by omega] at this
    exact this
  · have := gCh_word (n0 := 65535) (R := 1) (C := 1) (i := 0) (a0 := 0) (ka := 1) (kn := 4) (by omega) (by omega) (fun r hr => by show 65536 ≤ 65535 + r + 1 ∧ 65535 + r + 1 < 16777216; omega) (fun r d hr hd => by show 0 * _ + 0 + d = 0; omega) (by omega) lv0_b 0 0 (by omega) (by omega)
    exact this
def fewN : List Nat := [2, 3, 4, 7, 8, 14, 15, 16, 29, 30, 31, 32, 58, 59, 60, 61, 62, 63, 64, 117, 118, 119, 120, 121, 122, 123, 124, 125, 126, 127, 128, 234, 235, 236, 237, 238, 239, 240, 241, 242, 243, 244, 245, 246, 247, 248, 249, 250, 251, 252, 253, 254, 255, 256]
theorem few_all : ∀ n ∈ fewN, ∀ a, a < 65536 → Soon a n 2049 := by
  intro n hn a ha
  simp only [fewN, List.mem_cons, List.not_mem_nil, or_false] at hn
  rcases hn with rfl | rfl | rfl | rfl | rfl | rfl | rfl | rfl | rfl | rfl | rfl | rfl | rfl | rfl | rfl | rfl | rfl | rfl | rfl | rfl | rfl | rfl | rfl | rfl | rfl | rfl | rfl | rfl | rfl | rfl | rfl | rfl | rfl | rfl | rfl | rfl | rfl | rfl | rfl | rfl | rfl | rfl | rfl | rfl | rfl | rfl | rfl | rfl | rfl | rfl | rfl | rfl | rfl | rfl
  · exact few_soon gn_2 (by show 0 < _ ∧ _ < 256; omega) a ha
  · exact few_soon gn_3 (by show 0 < _ ∧ _ < 256; omega) a ha
  · exact few_soon gn_4 (by show 0 < _ ∧ _ < 256; omega) a ha
  · exact few_soon gn_7 (by show 0 < _ ∧ _ < 256; omega) a ha
  · exact few_soon gn_8 (by show 0 < _ ∧ _ < 256; omega) a ha
  · exact few_soon gn_14 (by show 0 < _ ∧ _ < 256; omega) a ha
  · exact few_soon gn_15 (by show 0 < _ ∧ _ < 256; omega) a ha
  · exact few_soon gn_16 (by show 0 < _ ∧ _ < 256; omega) a ha
  · exact few_soon gn_29 (by show 0 < _ ∧ _ < 256; omega) a ha
  · exact few_soon gn_30 (by show 0 < _ ∧ _ < 256; omega) a ha
  · exact few_soon gn_31 (by show 0 < _ ∧ _ < 256; omega) a ha
  · exact few_soon gn_32 (by show 0 < _ ∧ _ < 256; omega) a ha
  · exact few_soon gn_58 (by show 0 < _ ∧ _ < 256; omega) a ha
  · exact few_soon gn_59 (by show 0 < _ ∧ _ < 256; omega) a ha
  · exact few_soon gn_60 (by show 0 < _ ∧ _ < 256; omega) a ha
  · exact few_soon gn_61 (by show 0 < _ ∧ _ < 256; omega) a ha
  · exact few_soon gn_62 (by show 0 < _ ∧ _ < 256; omega) a ha
  · exact few_soon gn_63 (by show 0 < _ ∧ _ < 256; omega) a ha
  · exact few_soon gn_64 (by show 0 < _ ∧ _ < 256; omega) a ha
  · exact few_soon gn_117 (by show 0 < _ ∧ _ < 256; omega) a ha
  · exact few_soon gn_118 (by show 0 < _ ∧ _ < 256; omega) a ha
  · exact few_soon gn_119 (by show 0 < _ ∧ _ < 256; omega) a ha
  · exact few_soon gn_120 (by show 0 < _ ∧ _ < 256; omega) a ha
  · exact few_soon gn_121 (by show 0 < _ ∧ _ < 256; omega) a ha
  · exact few_soon gn_122 (by show 0 < _ ∧ _ < 256; omega) a ha
  · exact few_soon gn_123 (by show 0 < _ ∧ _ < 256; omega) a ha
  · exact few_soon gn_124 (by show 0 < _ ∧ _ < 256; omega) a ha
  · exact few_soon gn_125 (by show 0 < _ ∧ _ < 256; omega) a ha
  · exact few_soon gn_126 (by show 0 < _ ∧ _ < 256; omega) a ha
  · exact few_soon gn_127 (by show 0 < _ ∧ _ < 256; omega) a ha
  · exact few_soon gn_128 (by show 0 < _ ∧ _ < 256; omega) a ha
  · exact few_soon gn_234 (by show 0 < _ ∧ _ < 256; omega) a ha
  · exact few_soon gn_235 (by show 0 < _ ∧ _ < 256; omega) a ha
  · exact few_soon gn_236 (by show 0 < _ ∧ _ < 256; omega) a ha
  · exact few_soon gn_237 (by show 0 < _ ∧ _ < 256; omega) a ha
  · exact few_soon gn_238 (by show 0 < _ ∧ _ < 256; omega) a ha
  · exact few_soon gn_239 (by show 0 < _ ∧ _ < 256; omega) a ha
  · exact few_soon gn_240 (by show 0 < _ ∧ _ < 256; omega) a ha
  · exact few_soon gn_241 (by show 0 < _ ∧ _ < 256; omega) a ha
  · exact few_soon gn_242 (by show 0 < _ ∧ _ < 256; omega) a ha
  · exact few_soon gn_243 (by show 0 < _ ∧ _ < 256; omega) a ha
  · exact few_soon gn_244 (by show 0 < _ ∧ _ < 256; omega) a ha
  · exact few_soon gn_245 (by show 0 < _ ∧ _ < 256; omega) a ha
  · exact few_soon gn_246 (by show 0 < _ ∧ _ < 256; omega) a ha
  · exact few_soon gn_247 (by show 0 < _ ∧ _ < 256; omega) a ha
  · exact few_soon gn_248 (by show 0 < _ ∧ _ < 256; omega) a ha
  · exact few_soon gn_249 (by show 0 < _ ∧ _ < 256; omega) a ha
  · exact few_soon gn_250 (by show 0 < _ ∧ _ < 256; omega) a ha
  · exact few_soon gn_251 (by show 0 < _ ∧ _ < 256; omega) a ha
  · exact few_soon gn_252 (by show 0 < _ ∧ _ < 256; omega) a ha
  · exact few_soon gn_253 (by show 0 < _ ∧ _ < 256; omega) a ha
  · exact few_soon gn_254 (by show 0 < _ ∧ _ < 256; omega) a ha
  · exact few_soon gn_255 (by show 0 < _ ∧ _ < 256; omega) a ha
  · exact few_soon gn_256 (by show 256 ≤ _ ∧ _ < 65536; omega) a ha
theorem mem_few (n : Nat) (h : (2 ≤ n ∧ n ≤ 4) ∨ (7 ≤ n ∧ n ≤ 8) ∨ (14 ≤ n ∧ n ≤ 16) ∨ (29 ≤ n ∧ n ≤ 32) ∨ (58 ≤ n ∧ n ≤ 64) ∨ (117 ≤ n ∧ n ≤ 128) ∨ (234 ≤ n ∧ n ≤ 256)) : n ∈ fewN := by
  have key : ∀ k : Fin 257, ((2 ≤ k.val ∧ k.val ≤ 4) ∨ (7 ≤ k.val ∧ k.val ≤ 8) ∨ (14 ≤ k.val ∧ k.val ≤ 16) ∨ (29 ≤ k.val ∧ k.val ≤ 32) ∨ (58 ≤ k.val ∧ k.val ≤ 64) ∨ (117 ≤ k.val ∧ k.val ≤ 128) ∨ (234 ≤ k.val ∧ k.val ≤ 256)) → k.val ∈ fewN := by decide +kernel
  exact key ⟨n, by omega⟩ h
/-- the nodes of the great splits -/
structure Great (a n : Nat) : Prop where
  fit : a + n ≤ 65536
  lev : ∃ j i, j ≤ 16 ∧ i < 2 ^ j ∧ 60000 / 2 ^ j ≤ n ∧ n ≤ 2 ^ (16 - j) ∧ i * n ≤ a + i ∧ a ≤ i * n + i
theorem Great.root {N : Nat} (h1 : 60000 ≤ N) (h2 : N ≤ 65536) : Great 0 N := ⟨by omega, 0, 0, by omega, by decide, by simpa using h1, by simpa using h2, by simp, by simp⟩
theorem Great.half {a n : Nat} (h : Great a n) (hn : 2 ≤ n) : Great a (n / 2) ∧ Great (a + n / 2) (n - n / 2) := by
  obtain ⟨hf, j, i, hj, hi, hlo, hhi, h1, h2⟩ := h
  have hj15 : j ≤ 15 := by
    rcases (show j ≤ 15 ∨ j = 16 by omega) with h | rfl
    · exact h
    · have : n ≤ 1 := hhi
      omega
  obtain ⟨X, hX⟩ : ∃ X, X = i * (n / 2) := ⟨_, rfl⟩
  have hp : 2 ^ (j + 1) = 2 * 2 ^ j := by rw [Nat.pow_succ]; omega
  have hq : 2 ^ (16 - j) = 2 * 2 ^ (16 - (j + 1)) := by rw [show 16 - j = (16 - (j + 1)) + 1 by omega, Nat.pow_succ]; omega
  have hl : 60000 / 2 ^ (j + 1) = 60000 / 2 ^ j / 2 := by rw [Nat.pow_succ, Nat.div_div_eq_div_mul]
  have e1 : 2 * i * (n / 2) = 2 * X := by rw [hX, Nat.mul_assoc]
  rcases (show n = 2 * (n / 2) ∨ n = 2 * (n / 2) + 1 by omega) with hev | hod
  · have e0 : i * n = 2 * X := by rw [hX]; conv => lhs; rw [hev]
                                  rw [Nat.mul_left_comm]
    have e2 : (2 * i + 1) * (n - n / 2) = 2 * X + n / 2 := by rw [show n - n / 2 = n / 2 by omega, Nat.add_mul, e1, Nat.one_mul]
    exact ⟨⟨by omega, j + 1, 2 * i, by omega, by omega, by omega, by omega, by omega, by omega⟩, ⟨by omega, j + 1, 2 * i + 1, by omega, by omega, by omega, by omega, by omega, by omega⟩⟩
  · have e0 : i * n = 2 * X + i := by rw [hX]; conv => lhs; rw [hod]
                                      rw [Nat.mul_add, Nat.mul_left_comm, Nat.mul_one]
    have e2 : (2 * i + 1) * (n - n / 2) = 2 * X + 2 * i + n / 2 + 1 := by rw [show n - n / 2 = n / 2 + 1 by omega, Nat.mul_add, Nat.add_mul, e1, Nat.one_mul, Nat.mul_one]; omega
    exact ⟨⟨by omega, j + 1, 2 * i, by omega, by omega, by omega, by omega, by omega, by omega⟩, ⟨by omega, j + 1, 2 * i + 1, by omega, by omega, by omega, by omega, by omega, by omega⟩⟩
theorem few_less (a n : Nat) (ha : a < 65536) (h : n ∈ fewN) (h' : n ≤ 256) : Soon a n (8 * n + 1) := (few_all n h a ha).less (Nat.succ_le_succ (Nat.mul_le_mul_left 8 h'))
set_option maxRecDepth 20000 in
theorem pows : ∀ j : Fin 17, (2 ^ j.val, 60000 / 2 ^ j.val, 2 ^ (16 - j.val)) = [(1, 60000, 65536), (2, 30000, 32768), (4, 15000, 16384), (8, 7500, 8192), (16, 3750, 4096), (32, 1875, 2048), (64, 937, 1024), (128, 468, 512), (256, 234, 256), (512, 117, 128), (1024, 58, 64), (2048, 29, 32), (4096, 14, 16), (8192, 7, 8), (16384, 3, 4), (32768, 1, 2), (65536, 0, 1)].getD j.val (0, 0, 0) := by decide +kernel
theorem Great.soon {a n : Nat} (h : Great a n) (hn : 2 ≤ n) : Soon a n (8 * n + 1) := by
  obtain ⟨hf, j, i, hj, hi, hlo, hhi, h1, h2⟩ := h
  have ha : a < 65536 := by clear hi hlo hhi h1 h2; omega
  have hp := pows ⟨j, by clear hi hlo hhi h1 h2; omega⟩
  obtain ⟨A, hA⟩ : ∃ A, A = 2 ^ j := ⟨_, rfl⟩
  obtain ⟨B, hB⟩ : ∃ B, B = 60000 / 2 ^ j := ⟨_, rfl⟩
  obtain ⟨C, hC⟩ : ∃ C, C = 2 ^ (16 - j) := ⟨_, rfl⟩
  dsimp only at hp
  rw [← hA] at hi
  rw [← hB] at hlo
  rw [← hC] at hhi
  rw [← hB, ← hC, ← hA] at hp
  clear hA hB hC
  have few : n ≤ 256 → ((2 ≤ n ∧ n ≤ 4) ∨ (7 ≤ n ∧ n ≤ 8) ∨ (14 ≤ n ∧ n ≤ 16) ∨ (29 ≤ n ∧ n ≤ 32) ∨ (58 ≤ n ∧ n ≤ 64) ∨ (117 ≤ n ∧ n ≤ 128) ∨ (234 ≤ n ∧ n ≤ 256)) → Soon a n (8 * n + 1) := fun h' h => few_less a n ha (mem_few n h) h'
  have less : ∀ c m, Soon a n c → n ≤ m → 8 * m + 1 ≤ c → Soon a n (8 * n + 1) := fun c m hs h3 h4 => hs.less (Nat.le_trans (Nat.succ_le_succ (Nat.mul_le_mul_left 8 h3)) h4)
  obtain ⟨k, rfl⟩ : ∃ k : Fin 17, k.val = j := ⟨⟨j, by omega⟩, rfl⟩
  match k, hp with
  | ⟨0, _⟩, hp =>
    obtain ⟨rfl, rfl, rfl⟩ : A = 1 ∧ B = 60000 ∧ C = 65536 := by simpa using hp
    obtain rfl : i = 0 := by omega
    obtain rfl : a = 0 := by omega
    exact less 524289 65536 (lvl0 n hlo hhi) hhi (by omega)
  | ⟨1, _⟩, hp =>
    obtain ⟨rfl, rfl, rfl⟩ : A = 2 ∧ B = 30000 ∧ C = 32768 := by simpa using hp
    exact less 262145 32768 (lvl1 i a n (by omega) hlo hhi h1 h2) hhi (by omega)
  | ⟨2, _⟩, hp =>
    obtain ⟨rfl, rfl, rfl⟩ : A = 4 ∧ B = 15000 ∧ C = 16384 := by simpa using hp
    exact less 131073 16384 (lvl2 i a n (by omega) hlo hhi h1 h2) hhi (by omega)
  | ⟨3, _⟩, hp =>
    obtain ⟨rfl, rfl, rfl⟩ : A = 8 ∧ B = 7500 ∧ C = 8192 := by simpa using hp
    exact less 65537 8192 (lvl3 i a n (by omega) hlo hhi h1 h2) hhi (by omega)
  | ⟨4, _⟩, hp =>
    obtain ⟨rfl, rfl, rfl⟩ : A = 16 ∧ B = 3750 ∧ C = 4096 := by simpa using hp
    exact less 32769 4096 (lvl4 i a n (by omega) hlo hhi h1 h2) hhi (by omega)
  | ⟨5, _⟩, hp =>
    obtain ⟨rfl, rfl, rfl⟩ : A = 32 ∧ B = 1875 ∧ C = 2048 := by simpa using hp
    exact less 16385 2048 (lvl5 i a n (by omega) hlo hhi h1 h2) hhi (by omega)
  | ⟨6, _⟩, hp =>
    obtain ⟨rfl, rfl, rfl⟩ : A = 64 ∧ B = 937 ∧ C = 1024 := by simpa using hp
    exact less 8193 1024 (lvl6 i a n (by omega) hlo hhi h1 h2) hhi (by omega)
  | ⟨7, _⟩, hp =>
    obtain ⟨rfl, rfl, rfl⟩ : A = 128 ∧ B = 468 ∧ C = 512 := by simpa using hp
    exact less 4097 512 (lvl7 i a n (by omega) hlo hhi h1 h2) hhi (by omega)
  | ⟨8, _⟩, hp =>
    obtain ⟨rfl, rfl, rfl⟩ : A = 256 ∧ B = 234 ∧ C = 256 := by simpa using hp
    exact few (by omega) (by omega)
  | ⟨9, _⟩, hp =>
    obtain ⟨rfl, rfl, rfl⟩ : A = 512 ∧ B = 117 ∧ C = 128 := by simpa using hp
    exact few (by omega) (by omega)
  | ⟨10, _⟩, hp =>
    obtain ⟨rfl, rfl, rfl⟩ : A = 1024 ∧ B = 58 ∧ C = 64 := by simpa using hp
    exact few (by omega) (by omega)
  | ⟨11, _⟩, hp =>
    obtain ⟨rfl, rfl, rfl⟩ : A = 2048 ∧ B = 29 ∧ C = 32 := by simpa using hp
    exact few (by omega) (by omega)
  | ⟨12, _⟩, hp =>
    obtain ⟨rfl, rfl, rfl⟩ : A = 4096 ∧ B = 14 ∧ C = 16 := by simpa using hp
    exact few (by omega) (by omega)
  | ⟨13, _⟩, hp =>
    obtain ⟨rfl, rfl, rfl⟩ : A = 8192 ∧ B = 7 ∧ C = 8 := by simpa using hp
    exact few (by omega) (by omega)
  | ⟨14, _⟩, hp =>
    obtain ⟨rfl, rfl, rfl⟩ : A = 16384 ∧ B = 3 ∧ C = 4 := by simpa using hp
    exact few (by omega) (by omega)
  | ⟨15, _⟩, hp =>
    obtain ⟨rfl, rfl, rfl⟩ : A = 32768 ∧ B = 1 ∧ C = 2 := by simpa using hp
    exact few (by omega) (by omega)
  | ⟨16, _⟩, hp =>
    obtain ⟨rfl, rfl, rfl⟩ : A = 65536 ∧ B = 0 ∧ C = 1 := by simpa using hp
    omega
  | ⟨k + 17, h⟩, _ => exact absurd h (by omega)
/-- the nodes of a great split -/
def InGreat (lo hi : Int) (a n : Nat) (t : Int) : Prop := NodeOk lo hi n t ∧ Great a n
theorem drawnG (lo hi : Int) (hd : hi - lo ≤ 1048576) : Drawn sG [] lo hi (InGreat lo hi) := by
  refine ⟨?_, ?_, ?_, ?_⟩
  · rintro a n t ⟨h1, h2⟩; exact ⟨h1, by have := h2.fit; omega⟩
  · rintro a n t ⟨h1, h2⟩ hn
    exact ⟨(h1.left (seed := sG) (l := []) (a := a)).1, (h2.half hn).1⟩
  · rintro a n t ⟨h1, h2⟩ hn
    exact ⟨(h1.left (seed := sG) (l := []) (a := a)).2, (h2.half hn).2⟩
  · rintro a n t ⟨h1, h2⟩ hn
    have hr := range_bound h1 1048576 hd
    obtain ⟨t', ht, hw⟩ := h2.soon hn
    have hb : n / 2 * 1048576 + 1 ≤ (8 * n + 1) * 65536 := by
      have : n / 2 * 1048576 = n / 2 * 16 * 65536 := by rw [Nat.mul_assoc]
      omega
    exact acc_far (t := t') (c := 8 * n + 1) (by omega) hr.1 (by omega) hw
end Go.Proofs.YtfkpeabkcdhcfaaDoor
