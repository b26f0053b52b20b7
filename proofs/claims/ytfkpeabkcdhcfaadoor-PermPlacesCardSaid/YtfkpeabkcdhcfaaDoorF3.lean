/-
  The plain law: the rounds that are left of a walk.
-/
import Derived.Test.YtfkpeabkcdhcfaaDoorF2
namespace Go.Proofs.YtfkpeabkcdhcfaaDoor
/-- x lies on the walk from i, all behind it was not less than n -/
def On (g : Nat → Nat) (n i x : Nat) : Prop := ∃ k, iter g (k + 1) i = x ∧ ∀ j, j < k → n ≤ iter g (j + 1) i
theorem On.start (g : Nat → Nat) (n i : Nat) : On g n i (g i) := ⟨0, rfl, fun _ hj => absurd hj (Nat.not_lt_zero _)⟩
theorem On.step {g : Nat → Nat} {n i x : Nat} (h : On g n i x) (hn : n ≤ x) : On g n i (g x) := by
  obtain ⟨k, h1, h2⟩ := h
  refine ⟨k + 1, by rw [← h1]; rfl, fun j hj => ?_⟩
  rcases Nat.lt_or_ge j k with h3 | h3
  · exact h2 j h3
  · have : j = k := by omega
    subst this
    rw [h1]; exact hn
theorem On.stop {g : Nat → Nat} {n i x : Nat} (h : On g n i x) (hn : x < n) : x = place g n i := by
  obtain ⟨k, h1, h2⟩ := h
  exact (place_step h1 h2 hn).symm
theorem On.lt {M : Nat} {g h : Nat → Nat} (p : Perm M g h) {n i x : Nat} (hi : i < M) (ho : On g n i x) : x < M := by
  obtain ⟨k, h1, _⟩ := ho
  rw [← h1]; exact p.iter_lt hi _
theorem On.comes {M : Nat} {g h : Nat → Nat} (p : Perm M g h) {n i x : Nat} (hn : n ≤ M) (hi : i < n) (ho : On g n i x) : ∃ m, iter g m x < n := by
  obtain ⟨k, h1, h2⟩ := ho
  obtain ⟨K, _, h3, _⟩ := p.first hn hi
  have hk : k ≤ K := by
    rcases Nat.lt_or_ge K k with h4 | h4
    · have := h2 K h4; omega
    · exact h4
  refine ⟨K - k, ?_⟩
  rw [← h1, ← iter_add, show k + 1 + (K - k) = K + 1 by omega]
  exact h3
/-- the rounds that are left -/
noncomputable def left (g : Nat → Nat) (n x : Nat) : Nat := open Classical in if h : ∃ k, iter g k x < n ∧ ∀ j, j < k → ¬ iter g j x < n then h.choose else 0
theorem left_spec {g : Nat → Nat} {n x : Nat} (h : ∃ m, iter g m x < n) : iter g (left g n x) x < n ∧ ∀ j, j < left g n x → ¬ iter g j x < n := by
  obtain ⟨m, hm⟩ := h
  obtain ⟨k, _, h2, h3⟩ := least (P := fun k => iter g k x < n) m hm
  have hex : ∃ k, iter g k x < n ∧ ∀ j, j < k → ¬ iter g j x < n := ⟨k, h2, h3⟩
  unfold left
  rw [dif_pos hex]
  exact hex.choose_spec
theorem left_step {g : Nat → Nat} {n x : Nat} (h : ∃ m, iter g m x < n) (hx : n ≤ x) : left g n (g x) < left g n x := by
  have h1 := left_spec h
  have h0 : left g n x ≠ 0 := fun e => by
    have h2 := h1.1
    rw [e] at h2
    have h3 : x < n := h2
    omega
  have h4 : iter g (left g n x - 1) (g x) < n := by
    rw [← iter_succ', show left g n x - 1 + 1 = left g n x by omega]; exact h1.1
  have h5 := left_spec ⟨_, h4⟩
  rcases Nat.lt_or_ge (left g n (g x)) (left g n x) with h6 | h6
  · exact h6
  · exact absurd h4 (h5.2 _ (by omega))
theorem Perm.mix {f : Nat → Nat → Nat} {j : Nat} (hf : ∀ k r, f k r < 2 ^ j) : Perm (2 ^ j * 2 ^ j) (mixN f (2 ^ j)) (backN f (2 ^ j)) :=
  ⟨fun _ h => mixN_lt hf h, fun _ h => backN_lt hf h, fun _ h => back_mix hf h, fun _ h => mix_back hf h⟩
end Go.Proofs.YtfkpeabkcdhcfaaDoor
