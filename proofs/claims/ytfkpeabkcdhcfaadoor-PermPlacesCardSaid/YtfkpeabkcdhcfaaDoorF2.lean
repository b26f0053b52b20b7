/-
  The plain law: a walk along a permutation of the numbers below M that starts below n comes back below n; where it comes back is again a permutation; the sum of a permutation.
-/
import Derived.Test.YtfkpeabkcdhcfaaDoorF1
namespace Go.Proofs.YtfkpeabkcdhcfaaDoor
/-- the pigeonhole -/
theorem php : ∀ (m : Nat) (h : Nat → Nat), (∀ i, i ≤ m → h i < m) → ∃ i j, i < j ∧ j ≤ m ∧ h i = h j := by
  intro m
  induction m with
  | zero => intro h hh; exact absurd (hh 0 (Nat.le_refl _)) (Nat.not_lt_zero _)
  | succ m ih =>
    intro h hh
    by_cases hex : ∃ i, i ≤ m ∧ h i = h (m + 1)
    · obtain ⟨i, hi, he⟩ := hex
      exact ⟨i, m + 1, by omega, Nat.le_refl _, he⟩
    · have hno : ∀ i, i ≤ m → h i ≠ h (m + 1) := fun i hi he => hex ⟨i, hi, he⟩
      obtain ⟨i, j, hij, hj, he⟩ := ih (fun i => if h i = m then h (m + 1) else h i) (fun i hi => by
        have h1 := hh i (by omega)
        have h2 := hh (m + 1) (Nat.le_refl _)
        have h3 := hno i hi
        show (if h i = m then h (m + 1) else h i) < m
        split <;> omega)
      have he' : (if h i = m then h (m + 1) else h i) = (if h j = m then h (m + 1) else h j) := he
      have h3 := hno i (by omega)
      have h4 := hno j hj
      refine ⟨i, j, hij, by omega, ?_⟩
      split at he' <;> split at he' <;> omega
def iter (g : Nat → Nat) : Nat → Nat → Nat
  | 0, x => x
  | k + 1, x => g (iter g k x)
theorem iter_succ' (g : Nat → Nat) : ∀ k x, iter g (k + 1) x = iter g k (g x)
  | 0, _ => rfl
  | k + 1, x => by
    show g (iter g (k + 1) x) = g (iter g k (g x))
    rw [iter_succ' g k x]
theorem iter_add (g : Nat → Nat) (a x : Nat) : ∀ k, iter g (a + k) x = iter g k (iter g a x)
  | 0 => rfl
  | k + 1 => by
    show g (iter g (a + k) x) = g (iter g k (iter g a x))
    rw [iter_add g a x k]
/-- g and h undo each other below M -/
structure Perm (M : Nat) (g h : Nat → Nat) : Prop where
  g_lt : ∀ x, x < M → g x < M
  h_lt : ∀ x, x < M → h x < M
  hg : ∀ x, x < M → h (g x) = x
  gh : ∀ x, x < M → g (h x) = x
theorem Perm.symm {M : Nat} {g h : Nat → Nat} (p : Perm M g h) : Perm M h g := ⟨p.h_lt, p.g_lt, p.gh, p.hg⟩
theorem Perm.iter_lt {M : Nat} {g h : Nat → Nat} (p : Perm M g h) {x : Nat} (hx : x < M) : ∀ k, iter g k x < M
  | 0 => hx
  | k + 1 => p.g_lt _ (p.iter_lt hx k)
theorem Perm.iter_inv {M : Nat} {g h : Nat → Nat} (p : Perm M g h) {x : Nat} (hx : x < M) : ∀ k, iter h k (iter g k x) = x
  | 0 => rfl
  | k + 1 => by
    rw [iter_succ' h]
    show iter h k (h (g (iter g k x))) = x
    rw [p.hg _ (p.iter_lt hx k), p.iter_inv hx k]
theorem Perm.cycle {M : Nat} {g h : Nat → Nat} (p : Perm M g h) {x : Nat} (hx : x < M) : ∃ m, 0 < m ∧ m ≤ M ∧ iter g m x = x := by
  obtain ⟨i, j, hij, hj, he⟩ := php M (fun k => iter g k x) (fun k _ => p.iter_lt hx k)
  have he' : iter g i x = iter g j x := he
  refine ⟨j - i, by omega, by omega, ?_⟩
  have e : j = (j - i) + i := by omega
  rw [e, iter_add] at he'
  have h1 := p.iter_inv hx i
  have h2 := p.iter_inv (p.iter_lt hx (j - i)) i
  rw [← he', h1] at h2
  exact h2.symm
/-- x is the first number below n on the walk from i -/
def First (g : Nat → Nat) (n i x : Nat) : Prop := x < n ∧ ∃ k, iter g (k + 1) i = x ∧ ∀ j, j < k → n ≤ iter g (j + 1) i
theorem First.unique {g : Nat → Nat} {n i x y : Nat} (hx : First g n i x) (hy : First g n i y) : x = y := by
  obtain ⟨h1, k, h2, h3⟩ := hx
  obtain ⟨h4, m, h5, h6⟩ := hy
  rcases Nat.lt_trichotomy k m with h | h | h
  · have := h6 k h; omega
  · subst h; omega
  · have := h3 m h; omega
/-- the way back from where a walk ends -/
theorem First.back {M : Nat} {g h : Nat → Nat} (p : Perm M g h) {n i x : Nat} (hn : n ≤ M) (hi : i < n) (hx : First g n i x) : First h n x i := by
  obtain ⟨h1, k, h2, h3⟩ := hx
  refine ⟨hi, k, ?_, ?_⟩
  · rw [← h2]; exact p.iter_inv (show i < M by omega) (k + 1)
  · intro j hj
    have e : iter h (j + 1) x = iter g (k - j) i := by
      rw [← h2, show k + 1 = (k - j) + (j + 1) by omega, iter_add g (k - j) i (j + 1)]
      exact p.iter_inv (p.iter_lt (show i < M by omega) _) (j + 1)
    rw [e]
    have := h3 (k - j - 1) (by omega)
    rw [show k - j - 1 + 1 = k - j by omega] at this
    exact this
theorem First.inj {M : Nat} {g h : Nat → Nat} (p : Perm M g h) {n i j x : Nat} (hn : n ≤ M) (hi : i < n) (hj : j < n) (hx : First g n i x) (hy : First g n j x) : i = j :=
  (First.back p hn hi hx).unique (First.back p hn hj hy)
theorem least {P : Nat → Prop} : ∀ m, P m → ∃ k, k ≤ m ∧ P k ∧ ∀ j, j < k → ¬ P j := by
  intro m
  induction m using Nat.strongRecOn with
  | _ m ih =>
    intro hm
    by_cases h : ∃ j, j < m ∧ P j
    · obtain ⟨j, hj, hp⟩ := h
      obtain ⟨k, h1, h2, h3⟩ := ih j hj hp
      exact ⟨k, by omega, h2, h3⟩
    · exact ⟨m, Nat.le_refl _, hm, fun j hj hp => h ⟨j, hj, hp⟩⟩
/-- the walk comes back -/
theorem Perm.first {M : Nat} {g h : Nat → Nat} (p : Perm M g h) {n i : Nat} (hn : n ≤ M) (hi : i < n) : ∃ k, k < M ∧ iter g (k + 1) i < n ∧ ∀ j, j < k → n ≤ iter g (j + 1) i := by
  obtain ⟨m, hm, hM, hc⟩ := p.cycle (show i < M by omega)
  obtain ⟨k, h1, h2, h3⟩ := least (P := fun k => iter g (k + 1) i < n) (m - 1) (by
    show iter g (m - 1 + 1) i < n
    rw [show m - 1 + 1 = m by omega, hc]; exact hi)
  exact ⟨k, by omega, h2, fun j hj => by have := h3 j hj; omega⟩
/-- the place of i -/
noncomputable def place (g : Nat → Nat) (n i : Nat) : Nat := open Classical in if h : ∃ x, First g n i x then h.choose else 0
theorem First.place {g : Nat → Nat} {n i x : Nat} (h : First g n i x) : place g n i = x := by
  have hex : ∃ x, First g n i x := ⟨x, h⟩
  unfold Go.Proofs.YtfkpeabkcdhcfaaDoor.place
  rw [dif_pos hex]
  exact hex.choose_spec.unique h
theorem Perm.place_first {M : Nat} {g h : Nat → Nat} (p : Perm M g h) {n i : Nat} (hn : n ≤ M) (hi : i < n) : First g n i (place g n i) := by
  obtain ⟨k, _, h2, h3⟩ := p.first hn hi
  have hf : First g n i (iter g (k + 1) i) := ⟨h2, k, rfl, h3⟩
  rw [hf.place]; exact hf
theorem Perm.place_lt {M : Nat} {g h : Nat → Nat} (p : Perm M g h) {n i : Nat} (hn : n ≤ M) (hi : i < n) : place g n i < n := (p.place_first hn hi).1
theorem Perm.place_inj {M : Nat} {g h : Nat → Nat} (p : Perm M g h) {n i j : Nat} (hn : n ≤ M) (hi : i < n) (hj : j < n) (he : place g n i = place g n j) : i = j := by
  have h1 := p.place_first hn hi
  rw [he] at h1
  exact h1.inj p hn hi hj (p.place_first hn hj)
theorem Perm.place_back {M : Nat} {g h : Nat → Nat} (p : Perm M g h) {n i : Nat} (hn : n ≤ M) (hi : i < n) : place h n (place g n i) = i := ((p.place_first hn hi).back p hn hi).place
/-- a number below a lesser bound is the same for both -/
theorem Perm.place_less {M : Nat} {g h : Nat → Nat} (p : Perm M g h) {n m i : Nat} (hn : n ≤ M) (hm : m ≤ n) (hi : i < m) (hlt : place g n i < m) : place g m i = place g n i := by
  obtain ⟨_, k, h2, h3⟩ := p.place_first hn (show i < n by omega)
  exact First.place ⟨hlt, k, h2, fun j hj => by have := h3 j hj; omega⟩
/-- a step of the walk -/
theorem place_step {g : Nat → Nat} {n i k x : Nat} (hx : iter g (k + 1) i = x) (hb : ∀ j, j < k → n ≤ iter g (j + 1) i) (hlt : x < n) : place g n i = x := First.place ⟨hlt, k, hx, hb⟩
/-- the sum of the first n -/
def sumTo (c : Nat → Nat) : Nat → Nat
  | 0 => 0
  | n + 1 => sumTo c n + c n
theorem sumTo_congr {c d : Nat → Nat} : ∀ n, (∀ i, i < n → c i = d i) → sumTo c n = sumTo d n
  | 0, _ => rfl
  | n + 1, h => by
    rw [sumTo, sumTo, sumTo_congr n (fun i hi => h i (by omega)), h n (Nat.lt_succ_self n)]
theorem sumTo_swap (c : Nat → Nat) (v i0 : Nat) : ∀ n, i0 < n → sumTo (fun i => if i = i0 then v else c i) n + c i0 = sumTo c n + v
  | 0, h => absurd h (Nat.not_lt_zero _)
  | n + 1, h => by
    show sumTo _ n + (if n = i0 then v else c n) + c i0 = sumTo c n + c n + v
    by_cases he : n = i0
    · subst he
      rw [if_pos rfl, sumTo_congr n (fun i hi => show (if i = n then v else c i) = c i from if_neg (by omega))]
      omega
    · have := sumTo_swap c v i0 n (by omega)
      rw [if_neg he]; omega
theorem sum_perm : ∀ (n : Nat) (c : Nat → Nat), (∀ i, i < n → c i < n) → (∀ i j, i < n → j < n → c i = c j → i = j) → sumTo c n = sumTo (fun i => i) n := by
  intro n
  induction n with
  | zero => intros; rfl
  | succ n ih =>
    intro c hc hi
    by_cases hn : c n = n
    · show sumTo c n + c n = sumTo _ n + n
      rw [hn, ih c (fun i h => by
        have h1 := hc i (by omega)
        have h2 : c i ≠ n := fun h3 => by have := hi i n (by omega) (by omega) (by omega); omega
        omega) (fun i j h1 h2 => hi i j (by omega) (by omega))]
    · -- some i0 < n has c i0 = n
      have hex : ∃ i0, i0 < n ∧ c i0 = n := by
        by_cases h : ∃ i0, i0 < n ∧ c i0 = n
        · exact h
        · exfalso
          obtain ⟨i, j, hij, hj, he⟩ := php n c (fun i hi' => by
            have h1 := hc i (by omega)
            rcases Nat.lt_or_ge i n with h2 | h2
            · have h3 : c i ≠ n := fun h4 => h ⟨i, h2, h4⟩
              omega
            · have : i = n := by omega
              subst this; omega)
          have := hi i j (by omega) (by omega) he
          omega
      obtain ⟨i0, h0, he0⟩ := hex
      have key := ih (fun i => if i = i0 then c n else c i) (fun i h => by
        show (if i = i0 then c n else c i) < n
        have h1 := hc i (by omega)
        have h2 := hc n (by omega)
        by_cases he : i = i0
        · rw [if_pos he]; omega
        · rw [if_neg he]
          have h3 : c i ≠ n := fun h4 => he (hi i i0 (by omega) (by omega) (by omega))
          omega) (fun i j h1 h2 he => by
        have he' : (if i = i0 then c n else c i) = (if j = i0 then c n else c j) := he
        by_cases a : i = i0 <;> by_cases b : j = i0
        · omega
        · rw [if_pos a, if_neg b] at he'
          have := hi n j (by omega) (by omega) he'; omega
        · rw [if_neg a, if_pos b] at he'
          have := hi i n (by omega) (by omega) he'; omega
        · rw [if_neg a, if_neg b] at he'
          exact hi i j (by omega) (by omega) he')
      have hs := sumTo_swap c (c n) i0 n h0
      show sumTo c n + c n = sumTo _ n + n
      omega
end Go.Proofs.YtfkpeabkcdhcfaaDoor
