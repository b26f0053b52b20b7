/-
  Made: a valid split made of numbers (out of the printed walk).
-/
import Derived.Test.YtfkpeabkcdhcfaaDoorT11
import Derived.Test.YtfkpeabkcdhcfaaDoorPSplitEndsx2
namespace Go.Proofs.YtfkpeabkcdhcfaaDoor
open Go.RowKit Go.Proofs.YtfkpeabkcdhcfaaDoorW.PrintWords Go.Proofs.YtfkpeabkcdhcfaaDoorW.PrintLast Go.Proofs.YtfkpeabkcdhcfaaDoorW.PrintMore
set_option maxRecDepth 100000
def sEmpty : ByteArray := ⟨#[]⟩
def sOne : ByteArray := ⟨#[115]⟩
def sSix : ByteArray := ⟨#[115, 101, 101, 100, 32, 50]⟩
def mSeed (l : List Int) : ByteArray := [sEmpty, sOne, sSix].getD (atI l 0 3).toNat sEmpty
def mN (l : List Int) : Nat := (atI l 1 13).toNat
def mLo (l : List Int) : Int := atI l 2 7 - 2
def mHi (l : List Int) : Int := mLo l + atI l 3 12
def mPathN (l : List Int) (k : Nat) : List Int := (List.range k).map fun i => atI l (5 + i) 100
def mPath (l : List Int) : List Int := mPathN l (atI l 4 4).toNat
def mTotal (l : List Int) : Int := mN l * mLo l + atI l 9 (mN l * (mHi l - mLo l) + 1)
theorem around_f (n most : Int) (hn : I64 n) (hm : I64 most) : PSplitEnds.dioramaref01_Around.f n most = some (aroundI n most) := by
  unfold PSplitEnds.dioramaref01_Around.f aroundI
  obtain ⟨hn1, hn2⟩ := hn
  obtain ⟨hm1, hm2⟩ := hm
  by_cases h1 : n < 0
  · rw [if_pos h1]
    by_cases h2 : most < 1
    · rw [if_pos h2, if_pos h2]
    · rw [if_neg h2, if_neg h2, if_neg (by omega), if_pos h1]
      rw [show wrap64 (-(wrap64 (n + 1))) = -(n + 1) by unfold wrap64; omega, Int.tmod_eq_emod_of_nonneg (by omega)]
  · rw [if_neg h1]
    by_cases h2 : most < 1
    · rw [if_pos h2, if_pos h2]
    · rw [if_neg h2, if_neg h2, if_neg (by omega), if_neg h1, Int.tmod_eq_emod_of_nonneg (by omega)]
theorem at_f (l : List Int) (i : Nat) (most : Int) (hm : I64 most) (h64 : Int64s l) : PSplitEnds.dioramaref01_At.f l i most = some (atI l i most) := by
  unfold PSplitEnds.dioramaref01_At.f atI
  rw [if_neg (by omega)]
  by_cases h : i < l.length
  · have h6 : I64 (l.getD i 0) := h64 _ (by rw [List.getD_eq_getElem?_getD, List.getElem?_eq_getElem h]; exact List.getElem_mem h)
    rw [if_neg (by omega), if_pos (by omega), if_pos (by omega), if_pos h]
    rw [show rd l (i : Int) = l.getD i 0 by unfold rd; rw [Int.toNat_natCast], around_f _ _ h6 hm]
    rfl
  · rw [if_pos (by omega), if_neg h]
theorem made_l (l : List Int) (h64 : Int64s l) (s : ByteArray) (x2 n lo hi : Int) (hn : 0 ≤ n ∧ n < 13) (hlo : -2 ≤ lo ∧ lo ≤ 10) (hh : 0 ≤ hi - lo ∧ hi - lo < 12) :
    ∀ (d i k : Nat), i + d = (atI l 4 4).toNat → d < k → PSplitEnds.dioramaref07_Made.l0 k l i s (mPathN l i) x2 n lo hi = some (s, mPath l, n * lo + atI l 9 (n * (hi - lo) + 1), n, lo, hi) := by
  have hb4 := atI_bd l 4 4 (by omega)
  have hm1 : 0 ≤ n * (hi - lo) ∧ n * (hi - lo) ≤ 132 := by
    have h1 : n * (hi - lo) ≤ 12 * (hi - lo) := Int.mul_le_mul_of_nonneg_right (by omega) hh.1
    exact ⟨Int.mul_nonneg hn.1 hh.1, by omega⟩
  have hm2 : -24 ≤ n * lo ∧ n * lo ≤ 120 := by
    have h1 : n * lo ≤ n * 10 := Int.mul_le_mul_of_nonneg_left (by omega) hn.1
    have h2 : n * (-2) ≤ n * lo := Int.mul_le_mul_of_nonneg_left (by omega) hn.1
    omega
  have hb9 := atI_bd l 9 (n * (hi - lo) + 1) (by omega)
  intro d
  induction d with
  | zero =>
    intro i k hi' hk
    obtain ⟨k, rfl⟩ : ∃ m, k = m + 1 := ⟨k - 1, by omega⟩
    simp only [PSplitEnds.dioramaref07_Made.l0]
    rw [show PSplitEnds.dioramaref01_At.f l 4 4 = _ from at_f l 4 4 (by constructor <;> omega) h64]
    simp only [Option.bind_some]
    rw [if_neg (by omega)]
    rw [show wrap64 (hi - lo) = hi - lo by unfold wrap64; omega, show wrap64 (n * (hi - lo)) = n * (hi - lo) by unfold wrap64; omega, show wrap64 (n * (hi - lo) + 1) = n * (hi - lo) + 1 by unfold wrap64; omega]
    rw [show PSplitEnds.dioramaref01_At.f l 9 (n * (hi - lo) + 1) = _ from at_f l 9 _ (by constructor <;> omega) h64]
    simp only [Option.bind_some]
    rw [show wrap64 (n * lo) = n * lo by unfold wrap64; omega, show wrap64 (n * lo + atI l 9 (n * (hi - lo) + 1)) = n * lo + atI l 9 (n * (hi - lo) + 1) by unfold wrap64; omega]
    rw [show i = (atI l 4 4).toNat by omega]
    rfl
  | succ d ih =>
    intro i k hi' hk
    obtain ⟨k, rfl⟩ : ∃ m, k = m + 1 := ⟨k - 1, by omega⟩
    simp only [PSplitEnds.dioramaref07_Made.l0]
    rw [show PSplitEnds.dioramaref01_At.f l 4 4 = _ from at_f l 4 4 (by constructor <;> omega) h64]
    simp only [Option.bind_some]
    rw [if_pos (by omega)]
    rw [show wrap64 (5 + (i : Int)) = ((5 + i : Nat) : Int) by unfold wrap64; omega, at_f l (5 + i) _ (by constructor <;> omega) h64]
    simp only [Option.bind_some]
    rw [if_pos (by simp [mPathN]; omega), show wrap64 ((i : Int) + 1) = ((i + 1 : Nat) : Int) by unfold wrap64; omega]
    rw [show mPathN l i ++ [atI l (5 + i) 100] = mPathN l (i + 1) by simp [mPathN, List.range_succ]]
    exact ih (i + 1) k (by omega) (by omega)
theorem made_f (l : List Int) (h64 : Int64s l) : PSplitEnds.dioramaref07_Made.f 10 l = some (mSeed l, mPath l, mTotal l, ((mN l : Nat) : Int), mLo l, mHi l) := by
  have b0 := atI_bd l 0 3 (by omega)
  have b1 := atI_bd l 1 13 (by omega)
  have b2 := atI_bd l 2 7 (by omega)
  have b3 := atI_bd l 3 12 (by omega)
  have b4 := atI_bd l 4 4 (by omega)
  unfold PSplitEnds.dioramaref07_Made.f
  simp only [Option.bind_some]
  have a0 := at_f l 0 3 (by constructor <;> omega) h64
  have a1 := at_f l 1 13 (by constructor <;> omega) h64
  have a2 := at_f l 2 7 (by constructor <;> omega) h64
  have a3 := at_f l 3 12 (by constructor <;> omega) h64
  rw [show PSplitEnds.dioramaref01_At.f l 0 3 = _ from a0]
  simp only [Option.bind_some]
  rw [if_pos b0.1, if_pos (by simp; omega), show PSplitEnds.dioramaref01_At.f l 1 13 = _ from a1]
  simp only [Option.bind_some]
  rw [show PSplitEnds.dioramaref01_At.f l 2 7 = _ from a2]
  simp only [Option.bind_some]
  rw [show PSplitEnds.dioramaref01_At.f l 3 12 = _ from a3]
  simp only [Option.bind_some]
  rw [show wrap64 (atI l 2 7 - 2) = atI l 2 7 - 2 by unfold wrap64; omega, show wrap64 (atI l 2 7 - 2 + atI l 3 12) = atI l 2 7 - 2 + atI l 3 12 by unfold wrap64; omega]
  have := made_l l h64 (rdOf ByteArray.empty [(⟨#[]⟩ : ByteArray), (⟨#[115]⟩ : ByteArray), (⟨#[115, 101, 101, 100, 32, 50]⟩ : ByteArray)] (atI l 0 3)) 0 (atI l 1 13) (atI l 2 7 - 2) (atI l 2 7 - 2 + atI l 3 12) (by omega) (by omega) (by omega) (atI l 4 4).toNat 0 10 (by omega) (by omega)
  refine (show _ = _ from this).trans ?_
  have hn : ((mN l : Nat) : Int) = atI l 1 13 := by unfold mN; omega
  unfold mTotal
  rw [hn]
  rfl
theorem made7_any (v : Value) (l : List Int) (hl : l.length ≤ maxLen) (h64 : Int64s l) (w : World) (hr : ReadI v l w) (hcap : ∀ a n c, v = .slice a n c → n ≤ c) :
    Calls Tryd.prog 43 #[v] w fun e w' => ∃ v', e = .returned (.agg (spV (mSeed l) v' (mTotal l) (mN l) (mLo l) (mHi l))) ∧ OwnI w.heap.size v' (mPath l) w' ∧ Below w.heap.size w w' := by
  unfold maxLen at hl
  have key : ∀ (A : Option Addr) (c : Nat), v = .slice A l.length c → Kd.C (Kd.int .i64) w A l.length l → Calls Tryd.prog 43 #[v] w fun e w' => ∃ v', e = .returned (.agg (spV (mSeed l) v' (mTotal l) (mN l) (mLo l) (mHi l))) ∧ OwnI w.heap.size v' (mPath l) w' ∧ Below w.heap.size w w' := by
    intro A c hv hC
    subst hv
    refine (PSplitEnds.dioramaref07_Made.calls 10 A c l _ _ _ _ _ _ w hC (hcap _ _ _ rfl) (made_f l h64)).mono ?_
    rintro e w' ⟨v', rfl, ⟨_, inner, ho, hp⟩, hb⟩
    refine ⟨v', rfl, ?_, hb⟩
    have hi : inner = (mPath l).map (Value.int .i64) := by
      have hlen : inner.length = (mPath l).length * 1 := hp.1
      apply List.ext_getElem?
      intro j
      rw [List.getElem?_map]
      by_cases hj : j < (mPath l).length
      · have h1 : (inner.drop (j * 1)).take 1 = [.int .i64 (mPath l)[j]] := hp.2 j _ (List.getElem?_eq_getElem hj)
        rw [Nat.mul_one] at h1
        have h2 : ((inner.drop j).take 1)[0]? = some (.int .i64 (mPath l)[j]) := by rw [h1]; rfl
        rw [List.getElem?_take, if_pos (by omega), List.getElem?_drop, Nat.add_zero] at h2
        rw [h2, List.getElem?_eq_getElem hj]; rfl
      · rw [List.getElem?_eq_none (by omega), List.getElem?_eq_none (by omega)]; rfl
    rw [hi] at ho
    exact ho
  rcases hr with ⟨rfl, rfl⟩ | ⟨ad, cap, rfl, hc⟩
  · exact key none 0 rfl ⟨rfl, by simp, fun h => absurd h (by simp)⟩
  · refine key (some ad) cap rfl ⟨rfl, by omega, fun _ => ⟨ad, rfl, fun j p hj => ⟨[.int .i64 p], rfl, ?_, fun i u hu => ?_⟩⟩⟩
    · exact rfl
    · rcases i with _ | i
      · have hu' : u = .int .i64 p := by simpa using hu.symm
        subst hu'
        have := hc j (.int .i64 p) (by rw [List.getElem?_map, hj]; rfl)
        rw [show j * (Kd.int .i64).sz + 0 = j from by show j * 1 + 0 = j; omega]
        exact this
      · simp at hu
end Go.Proofs.YtfkpeabkcdhcfaaDoor
