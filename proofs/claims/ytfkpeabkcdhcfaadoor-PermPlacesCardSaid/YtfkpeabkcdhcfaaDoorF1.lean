/-
  The plain law: a network of rounds on pairs of numbers is a permutation of the numbers below b*b; the way back undoes it.
-/
namespace Go.Proofs.YtfkpeabkcdhcfaaDoor
def fstep (f : Nat → Nat → Nat) (k : Nat) (p : Nat × Nat) : Nat × Nat := (p.2, p.1 ^^^ f k p.2)
def bstep (f : Nat → Nat → Nat) (k : Nat) (p : Nat × Nat) : Nat × Nat := (p.2 ^^^ f k p.1, p.1)
def fgo (f : Nat → Nat → Nat) (p : Nat × Nat) : Nat → Nat × Nat
  | 0 => p
  | i + 1 => fstep f i (fgo f p i)
/-- i steps back, from the round 3 on -/
def bgo (f : Nat → Nat → Nat) (p : Nat × Nat) : Nat → Nat × Nat
  | 0 => p
  | i + 1 => bstep f (3 - i) (bgo f p i)
def joinN (b : Nat) (p : Nat × Nat) : Nat := p.1 * b + p.2
def mixN (f : Nat → Nat → Nat) (b x : Nat) : Nat := joinN b (fgo f (x / b, x % b) 4)
def backN (f : Nat → Nat → Nat) (b x : Nat) : Nat := joinN b (bgo f (x / b, x % b) 4)
theorem xor_xor (a c : Nat) : (a ^^^ c) ^^^ c = a := by rw [Nat.xor_assoc, Nat.xor_self, Nat.xor_zero]
theorem b_f (f : Nat → Nat → Nat) (k : Nat) (p : Nat × Nat) : bstep f k (fstep f k p) = p := by simp [bstep, fstep, xor_xor]
theorem f_b (f : Nat → Nat → Nat) (k : Nat) (p : Nat × Nat) : fstep f k (bstep f k p) = p := by simp [bstep, fstep, xor_xor]
theorem bgo_fgo (f : Nat → Nat → Nat) (p : Nat × Nat) : bgo f (fgo f p 4) 4 = p := by simp [bgo, fgo, b_f]
theorem fgo_bgo (f : Nat → Nat → Nat) (p : Nat × Nat) : fgo f (bgo f p 4) 4 = p := by simp [bgo, fgo, f_b]
/-- both numbers are less than b -/
def In (b : Nat) (p : Nat × Nat) : Prop := p.1 < b ∧ p.2 < b
theorem fstep_in {f : Nat → Nat → Nat} {j k : Nat} (hf : ∀ k r, f k r < 2 ^ j) {p : Nat × Nat} (h : In (2 ^ j) p) : In (2 ^ j) (fstep f k p) := ⟨h.2, Nat.xor_lt_two_pow h.1 (hf _ _)⟩
theorem bstep_in {f : Nat → Nat → Nat} {j k : Nat} (hf : ∀ k r, f k r < 2 ^ j) {p : Nat × Nat} (h : In (2 ^ j) p) : In (2 ^ j) (bstep f k p) := ⟨Nat.xor_lt_two_pow h.2 (hf _ _), h.1⟩
theorem fgo_in {f : Nat → Nat → Nat} {j : Nat} (hf : ∀ k r, f k r < 2 ^ j) {p : Nat × Nat} (h : In (2 ^ j) p) : ∀ i, In (2 ^ j) (fgo f p i)
  | 0 => h
  | i + 1 => fstep_in hf (fgo_in hf h i)
theorem bgo_in {f : Nat → Nat → Nat} {j : Nat} (hf : ∀ k r, f k r < 2 ^ j) {p : Nat × Nat} (h : In (2 ^ j) p) : ∀ i, In (2 ^ j) (bgo f p i)
  | 0 => h
  | i + 1 => bstep_in hf (bgo_in hf h i)
theorem cut_in {b x : Nat} (h : x < b * b) : In b (x / b, x % b) := by
  have hb : 0 < b := Nat.pos_of_ne_zero (fun h0 => by subst h0; simp at h)
  exact ⟨(Nat.div_lt_iff_lt_mul hb).2 h, Nat.mod_lt _ hb⟩
theorem join_lt {b : Nat} {p : Nat × Nat} (h : In b p) : joinN b p < b * b := by
  have h1 : (p.1 + 1) * b ≤ b * b := Nat.mul_le_mul_right b h.1
  have h2 : (p.1 + 1) * b = p.1 * b + b := Nat.succ_mul _ _
  have h3 := h.2
  unfold joinN; omega
theorem join_cut (b x : Nat) : joinN b (x / b, x % b) = x := by
  unfold joinN
  show x / b * b + x % b = x
  rw [Nat.mul_comm]; exact Nat.div_add_mod x b
theorem cut_join {b : Nat} {p : Nat × Nat} (h : In b p) : (joinN b p / b, joinN b p % b) = p := by
  have hb : 0 < b := Nat.lt_of_le_of_lt (Nat.zero_le _) h.2
  unfold joinN
  have e1 : (p.1 * b + p.2) / b = p.1 := by
    rw [Nat.mul_comm, Nat.mul_add_div hb, Nat.div_eq_of_lt h.2, Nat.add_zero]
  have e2 : (p.1 * b + p.2) % b = p.2 := by
    rw [Nat.mul_comm, Nat.mul_add_mod, Nat.mod_eq_of_lt h.2]
  rw [e1, e2]
theorem mixN_lt {f : Nat → Nat → Nat} {j x : Nat} (hf : ∀ k r, f k r < 2 ^ j) (h : x < 2 ^ j * 2 ^ j) : mixN f (2 ^ j) x < 2 ^ j * 2 ^ j := join_lt (fgo_in hf (cut_in h) 4)
theorem backN_lt {f : Nat → Nat → Nat} {j x : Nat} (hf : ∀ k r, f k r < 2 ^ j) (h : x < 2 ^ j * 2 ^ j) : backN f (2 ^ j) x < 2 ^ j * 2 ^ j := join_lt (bgo_in hf (cut_in h) 4)
theorem back_mix {f : Nat → Nat → Nat} {j x : Nat} (hf : ∀ k r, f k r < 2 ^ j) (h : x < 2 ^ j * 2 ^ j) : backN f (2 ^ j) (mixN f (2 ^ j) x) = x := by
  unfold backN mixN
  rw [cut_join (fgo_in hf (cut_in h) 4), bgo_fgo, join_cut]
theorem mix_back {f : Nat → Nat → Nat} {j x : Nat} (hf : ∀ k r, f k r < 2 ^ j) (h : x < 2 ^ j * 2 ^ j) : mixN f (2 ^ j) (backN f (2 ^ j) x) = x := by
  unfold backN mixN
  rw [cut_join (bgo_in hf (cut_in h) 4), fgo_bgo, join_cut]
end Go.Proofs.YtfkpeabkcdhcfaaDoor
