/-
  Walk of SplitFound: Find leads from each unit of each part back to it.
-/
import Derived.Test.YtfkpeabkcdhcfaaDoorV6
import Derived.Test.YtfkpeabkcdhcfaaDoorT17
namespace Go.Proofs.YtfkpeabkcdhcfaaDoor
open Go.RowKit
set_option maxRecDepth 100000
theorem sumL_take (P : List Int) (k : Nat) : sumL (P.take (k + 1)) = sumL (P.take k) + P.getD k 0 := by
  induction P generalizing k with
  | nil => simp [sumL]
  | cons p P ih =>
    cases k with
    | zero => simp [sumL]
    | succ k =>
      have := ih k
      simp only [List.take_succ_cons, sumL, List.getD_cons_succ] at this ⊢
      omega
theorem sumL_bd (b c : Int) : ∀ (P : List Int), (∀ x ∈ P, b ≤ x ∧ x ≤ c) → b * P.length ≤ sumL P ∧ sumL P ≤ c * P.length
  | [], _ => by simp [sumL]
  | p :: P, h => by
    have h1 := sumL_bd b c P (fun x hx => h x (by simp [hx]))
    have h2 := h p (by simp)
    simp only [sumL, List.length_cons]
    rw [Int.natCast_add, Int.mul_add, Int.mul_add]
    omega
theorem before_val (seed : ByteArray) (l : List Int) (lo hi : Int) (N : Nat) (t : Int) (hok : NodeOk lo hi N t) (k : Nat) (hk : k ≤ N) : (if (k : Int) = (N : Int) then t else (downOf seed l lo hi (toF (k : Int)) 0 N t 0).2.2.2) = sumL ((partsOf seed l lo hi 0 N t).take k) := by
  split
  · have : k = N := by omega
    subst this
    rw [List.take_of_length_le (by rw [partsOf_len]; omega), (partsOf_sum seed l lo hi 0 k t hok).1]
  · rw [downOf_to seed l lo hi k 0 N t 0 (by omega) (by omega), Nat.sub_zero]
    simp
theorem part_val (seed : ByteArray) (l : List Int) (lo hi : Int) (N : Nat) (t : Int) (k : Nat) (hk : k < N) : (downOf seed l lo hi (toF (k : Int)) 0 N t 0).2.2.1 = (partsOf seed l lo hi 0 N t).getD k 0 := by
  rw [downOf_to seed l lo hi k 0 N t 0 (by omega) (by omega), Nat.sub_zero]
theorem getD_mem (P : List Int) (k : Nat) (h : k < P.length) : P.getD k 0 ∈ P := by
  rw [List.getD_eq_getElem?_getD, List.getElem?_eq_getElem h]; exact List.getElem_mem h
theorem sumL_nonneg : ∀ P : List Int, (∀ x ∈ P, 0 ≤ x) → 0 ≤ sumL P
  | [], _ => by simp [sumL]
  | p :: P, h => by
    have h1 := sumL_nonneg P (fun x hx => h x (by simp [hx]))
    have h2 := h p (by simp)
    simp only [sumL]
    omega
theorem sumL_take_le (P : List Int) (h : ∀ x ∈ P, 0 ≤ x) (k : Nat) : sumL (P.take k) ≤ sumL P := by
  have e : sumL P = sumL (P.take k) + sumL (P.drop k) := by rw [← sumL_app, List.take_append_drop]
  have := sumL_nonneg (P.drop k) (fun x hx => h x (List.mem_of_mem_drop hx))
  omega
/-- the way to a unit of a part -/
theorem find_val (seed : ByteArray) (l : List Int) (hi : Int) (N : Nat) (t : Int) (hok : NodeOk 0 hi N t) (k : Nat) (hk : k < N) (j : Int) (hj0 : 0 ≤ j) (hj1 : j < (partsOf seed l 0 hi 0 N t).getD k 0) :
    downOf seed l 0 hi (findF (sumL ((partsOf seed l 0 hi 0 N t).take k) + j)) 0 N t 0 = (k, 1, (partsOf seed l 0 hi 0 N t).getD k 0, sumL ((partsOf seed l 0 hi 0 N t).take k)) ∧ 0 ≤ sumL ((partsOf seed l 0 hi 0 N t).take k) ∧ sumL ((partsOf seed l 0 hi 0 N t).take k) + j < t := by
  have hps := partsOf_sum seed l 0 hi 0 N t hok
  have hn : ∀ x ∈ partsOf seed l 0 hi 0 N t, 0 ≤ x := fun x hx => (hps.2 x hx).1
  have h0 := sumL_nonneg ((partsOf seed l 0 hi 0 N t).take k) (fun x hx => hn x (List.mem_of_mem_take hx))
  have h1 := sumL_take_le (partsOf seed l 0 hi 0 N t) hn (k + 1)
  rw [sumL_take, hps.1] at h1
  obtain ⟨m, hm0, hmN, hm1, hm2, hm3⟩ := downOf_unit seed l 0 hi (sumL ((partsOf seed l 0 hi 0 N t).take k) + j) 0 N t 0 (by omega) (by omega) (by omega)
  rw [Nat.sub_zero] at hm2 hm3
  have e : m = k := unit_part (partsOf seed l 0 hi 0 N t) (sumL ((partsOf seed l 0 hi 0 N t).take k) + j) m k hn (by omega) (by omega) (by omega) (by omega)
  subst e
  refine ⟨?_, h0, by omega⟩
  rw [hm1, downOf_to seed l 0 hi m 0 N t 0 (by omega) (by omega), Nat.sub_zero, Int.zero_add]
/-- what is asked of a great split -/
theorem great_found (l : List Int) (x : Int) (hx0 : 0 ≤ x) (hx1 : x < qTotal l) (w : World) (h0 : 0 < w.heap.size) (hK : HoldK w) :
    ∃ (k : Nat) (b u p : Int), k ≤ 65536 ∧ 0 ≤ b ∧ b ≤ 68719607808 ∧ 0 ≤ u ∧ u < p ∧ b + u = x ∧
      (∀ W, Below w.heap.size w W → Calls Tryd.prog 53 #[.agg #[.string ⟨#[103]⟩, .slice none 0 0, .int .i64 (qTotal l), .int .i64 (qN l), .int .i64 (qLo l), .int .i64 (qHi l)], .int .i64 x] W fun e w' => e = .returned (.tuple #[.int .i64 k, .int .i64 u, .int .i64 0]) ∧ Below W.heap.size W w') ∧
      (∀ W, Below w.heap.size w W → Calls Tryd.prog 51 #[.agg #[.string ⟨#[103]⟩, .slice none 0 0, .int .i64 (qTotal l), .int .i64 (qN l), .int .i64 (qLo l), .int .i64 (qHi l)], .int .i64 k] W fun e w' => e = .returned (.tuple #[.int .i64 b, .int .i64 0]) ∧ Below W.heap.size W w') ∧
      (∀ W, Below w.heap.size w W → Calls Tryd.prog 39 #[.agg #[.string ⟨#[103]⟩, .slice none 0 0, .int .i64 (qTotal l), .int .i64 (qN l), .int .i64 (qLo l), .int .i64 (qHi l)], .int .i64 k] W fun e w' => e = .returned (.tuple #[.int .i64 p, .int .i64 0]) ∧ Below W.heap.size W w') := by
  have hD := drawnG (qLo l) (qHi l) (by have := qLo_bd l; have := qHi_bd l; omega)
  have hI := qTotal_ok l
  have hN := qN_bd l
  have hlo := qLo_bd l
  have hhi := qHi_bd l
  have htl := qTotal_lt l
  have hnet : ∀ W, Below w.heap.size w W → Net sG (.slice none 0 0) [] W := fun W hb =>
    ⟨by decide, by simp, fun n hn => by simp at hn, Nat.lt_of_lt_of_le h0 hb.size, hK.later h0 hb, .inl ⟨rfl, rfl⟩⟩
  have hps := (partsOf_sum sG [] (qLo l) (qHi l) 0 (qN l) (qTotal l) hI.1).2
  have hlen := partsOf_len sG [] (qLo l) (qHi l) 0 (qN l) (qTotal l)
  obtain ⟨k, _, hkN, e1, e2, e3⟩ := downOf_unit sG [] (qLo l) (qHi l) x 0 (qN l) (qTotal l) 0 (by omega) (by omega) (by omega)
  have hdt := downOf_to sG [] (qLo l) (qHi l) k 0 (qN l) (qTotal l) 0 (by omega) hkN
  rw [hdt] at e1
  rw [Nat.sub_zero, Int.zero_add] at e2 e3 e1
  have v0 := before_val sG [] (qLo l) (qHi l) (qN l) (qTotal l) hI.1 k (by omega)
  have v2 := part_val sG [] (qLo l) (qHi l) (qN l) (qTotal l) k (by omega)
  have hm := hps _ (getD_mem _ k (by rw [hlen]; omega))
  have hb0 := sumL_nonneg ((partsOf sG [] (qLo l) (qHi l) 0 (qN l) (qTotal l)).take k) (fun y hy => by have := hps y (List.mem_of_mem_take hy); omega)
  have k0 := fun W hb => before_any hD (ad := none) (sn := 0) (sc := 0) (qTotal l) (qN l) hI k (by omega) (by omega) (by decide) (by omega) rfl W (hnet W hb)
  have k1 := fun W hb => find_any hD (ad := none) (sn := 0) (sc := 0) (qTotal l) (qN l) hI (by omega) x hx0 hx1 (by decide) (by omega) rfl W (hnet W hb) (by rw [e1]; dsimp only; omega)
  have k2 := fun W hb => part_any hD (ad := none) (sn := 0) (sc := 0) (qTotal l) (qN l) hI k (by omega) (by omega) (by decide) (by omega) rfl W (hnet W hb)
  rw [v0] at k0
  rw [e1] at k1
  rw [v2] at k2
  exact ⟨k, _, x - sumL ((partsOf sG [] (qLo l) (qHi l) 0 (qN l) (qTotal l)).take k), _, by omega, hb0, by omega, by omega, by omega, by omega, k1, k0, k2⟩
set_option maxHeartbeats 4000000 in
theorem found_any (v : Value) (l : List Int) (y : Int) (hy : I64 y) (w : World) (hst : Start7 v l w) : Calls Tryd.prog 13 #[v, .int .i64 y] w fun e w' => e = .returned (.bool true) ∧ Below w.heap.size w w' := by
  have hok0 := mTotal_ok l
  obtain ⟨d, hd⟩ : ∃ d, d = mHi l - mLo l := ⟨_, rfl⟩
  obtain ⟨m, hm⟩ : ∃ m, m = (mN l : Int) * mLo l := ⟨_, rfl⟩
  obtain ⟨T, hT⟩ : ∃ T, T = mTotal l - m := ⟨_, rfl⟩
  have hdb : 0 ≤ d ∧ d ≤ 11 := by have := mHi_bd l; omega
  have hmd : (mN l : Int) * mHi l = m + mN l * d := by rw [hm, hd, ← Int.mul_add]; congr 1; omega
  have hok : NodeOk 0 d (mN l) T := by
    have h1 := hok0.t1
    have h2 := hok0.t2
    have h3 := mN_le l
    exact ⟨by omega, by omega, by omega, by omega, by simp; omega, by omega⟩
  have hmb : -24 ≤ m ∧ m ≤ 48 := by
    have h1 := mLo_bd l
    have h2 := mN_le l
    have h3 : (mN l : Int) * mLo l ≥ mN l * (-2) := Int.mul_le_mul_of_nonneg_left (by omega) (by omega)
    have h4 : (mN l : Int) * mLo l ≤ mN l * 4 := Int.mul_le_mul_of_nonneg_left (by omega) (by omega)
    omega
  have hTb : 0 ≤ T ∧ T ≤ 132 := by
    have h1 := hok.t1
    have h2 := hok.t2
    have h3 := mN_le l
    have h4 : (mN l : Int) * d ≤ mN l * 11 := Int.mul_le_mul_of_nonneg_left (by omega) (by omega)
    simp at h1
    omega
  have hD := drawnM l 0 d (by omega)
  have hI := in12_root hok (mN_le l)
  have hpl0 := partsOf_len (mSeed l) (mPath l) 0 d 0 (mN l) T
  have hps := partsOf_sum (mSeed l) (mPath l) 0 d 0 (mN l) T hok
  have hfv := fun k hk j h0 h1 => find_val (mSeed l) (mPath l) d (mN l) T hok k hk j h0 h1
  have HST := Lib.hid hst
  have HY := Lib.hid hy
  have hmk := made7_any v l hst.hl hst.h64 w hst.hr hst.cap
  have hs := mSeed_size l
  have hN := mN_le l
  have hpl := mPath_len l
  have hpo := mPath_ok l
  have hlob := mLo_bd l
  have hhib := mHi_bd l
  have hwd : wrap64 (mHi l - mLo l) = d := by rw [hd]; unfold wrap64; omega
  have hwm : wrap64 ((mN l : Int) * mLo l) = m := by rw [← hm]; unfold wrap64; omega
  have hwt : wrap64 (mTotal l - m) = T := by rw [← hT]; unfold wrap64; omega
  obtain ⟨s, hse⟩ : ∃ s, s = mSeed l := ⟨_, rfl⟩
  obtain ⟨N, hNe⟩ : ∃ N, N = mN l := ⟨_, rfl⟩
  obtain ⟨lo, hloe⟩ : ∃ lo, lo = mLo l := ⟨_, rfl⟩
  obtain ⟨hi, hhie⟩ : ∃ hi, hi = mHi l := ⟨_, rfl⟩
  obtain ⟨p, hpe⟩ : ∃ p, p = mPath l := ⟨_, rfl⟩
  obtain ⟨tot, hte⟩ : ∃ tot, tot = mTotal l := ⟨_, rfl⟩
  rw [← hse, ← hNe, ← hloe, ← hhie, ← hpe, ← hte] at hmk
  rw [← hhie, ← hloe] at hwd
  rw [← hNe, ← hloe] at hwm
  rw [← hte] at hwt
  rw [← hse] at hs
  rw [← hNe] at hN
  rw [← hpe] at hpl hpo
  rw [← hse, ← hNe, ← hpe] at hpl0 hps hfv
  rw [← hNe] at hI
  rw [← hse, ← hpe] at hD
  have HMK := Lib.hid hmk
  have HDD := Lib.hid hD
  have HI := Lib.hid hI
  have HPL := Lib.hid hpl0
  have HPS := Lib.hid hps
  have HFV := Lib.hid hfv
  have HWD := Lib.hid hwd
  have HWM := Lib.hid hwm
  have HWT := Lib.hid hwt
  clear hmk hst hse hNe hloe hhie hpe hte hD hI hpl0 hps hy hfv hok hok0 hd hm hT hmd hlob hhib hwd hwm hwt
  unfold spV at HMK
  go_enter Tryd.func13, Tryd.ntmps13
  go_wp2_with fail
  refine HMK.out.mono ?_
  rintro e w1 ⟨v1, rfl, hown1, hb1⟩
  obtain ⟨ad, sc, rfl⟩ := hown1.form
  obtain ⟨np, hnp⟩ : ∃ np, np = p.length := ⟨_, rfl⟩
  rw [← hnp] at hown1 ⊢
  have HO1 := Lib.hid hown1
  have HB1 := Lib.hid hb1
  have HNP := Lib.hid hnp
  clear hown1 hb1 hnp HMK
  go_wp2_with fail
  rw [HWM.out, HWD.out, HWT.out]
  obtain ⟨W2, hW2⟩ : ∃ W2, W2 = w1.alloc (.cells #[.string s, .slice ad np sc, .int .i64 T, .int .i64 N, .int .i64 0, .int .i64 d] 55) := ⟨_, rfl⟩
  have r0 : W2.heap[w1.heap.size]? = some (.cells #[.string s, .slice ad np sc, .int .i64 T, .int .i64 N, .int .i64 0, .int .i64 d] 55 (0, 0)) := by rw [hW2]; exact heap_alloc_new _ _
  have b2 : Below w1.heap.size w1 W2 := by rw [hW2]; exact (Below.refl _ _).alloc (Nat.le_refl _) _
  rw [← hW2]
  clear hW2
  refine (own_any s ad np sc T N 0 d W2).mono ?_
  rintro e w3 ⟨rfl, hb3⟩
  have HB3 := Lib.hid ((HB1.out.trans (b2.mono HB1.out.size)).trans (hb3.mono (by have := HB1.out.size; have := b2.size; omega)))
  have HO3 := Lib.hid ((HO1.out.later b2).later hb3)
  have HR3 := Lib.hid ((hb3.block _ (lt_of_block r0)).trans r0)
  clear hb3 r0 b2 HO1
  go_wp2_with fail
  have hnet3 : Net s (.slice ad np sc) p w3 := HST.out.net HB3.out hs (by omega) hpo (by have := HO3.out; exact this)
  refine (alls_any HDD.out T N HI.out (by omega) hs (by have := HNP.out; omega) HNP.out w3 hnet3).mono ?_
  rintro e w4 ⟨v4, rfl, hown4, hb4⟩
  have HB4 := Lib.hid (HB3.out.trans (hb4.mono HB3.out.size))
  have HO4 := Lib.hid (HO3.out.later hb4)
  have HR4 := Lib.hid ((hb4.block _ (lt_of_block HR3.out)).trans HR3.out)
  obtain ⟨A, hA⟩ : ∃ A, A = partsOf s p 0 d 0 N T := ⟨_, rfl⟩
  rw [← hA] at HPL HPS HFV hown4
  obtain ⟨ad4, sc4, rfl⟩ := hown4.form
  rw [HPL.out] at hown4 ⊢
  have HA4 := Lib.hid hown4
  clear hb4 hown4 hnet3 HB3 HO3 HR3 hA
  go_wp2_with fail
  go_loopw [8, 9] (fun s8 c wr => ∃ k : Nat, k ≤ N ∧ c = .int .i64 k ∧ s8 = .int .i64 (sumL (A.take k)) ∧ Below w4.heap.size w4 wr) (fun _ c _ => N - (intOf c).toNat)
  case atStart => exact ⟨0, by omega, rfl, by simp [sumL], Below.refl _ _⟩
  case round =>
    obtain ⟨k, hk, rfl, rfl, hbr⟩ := hrel
    have HBR := Lib.hid hbr
    clear hbr
    by_cases hlt : k < N
    · have hltI : (k : Int) < (N : Int) := by omega
      have hkA : k < A.length := by rw [HPL.out]; exact hlt
      obtain ⟨g4, cp4, e4⟩ := HA4.out.shape (by omega)
      simp only [Value.slice.injEq] at e4
      obtain ⟨rfl, -, rfl⟩ := e4
      have hst := sumL_take A k
      have hzb := HPS.out.2 _ (getD_mem A k hkA)
      have hfv := fun j h0 h1 => HFV.out k hlt j h0 h1
      have hcell := fun W (hW : Below w4.heap.size w4 W) => (HA4.out.later hW).cell k hkA
      have hxb := sumL_bd 0 11 (A.take k) (fun x hx => by have := HPS.out.2 x (List.mem_of_mem_take hx); omega)
      have hxl : (A.take k).length ≤ 12 := by rw [List.length_take]; omega
      obtain ⟨x, hx⟩ : ∃ x, x = sumL (A.take k) := ⟨_, rfl⟩
      obtain ⟨zi, hz⟩ : ∃ zi, zi = A.getD k 0 := ⟨_, rfl⟩
      obtain ⟨z, hzn⟩ : ∃ z : Nat, (z : Int) = zi := ⟨zi.toNat, by omega⟩
      rw [← hx] at hst hfv hxb ⊢
      rw [← hz, ← hzn] at hst hzb hfv hcell
      have HSX := Lib.hid hst
      have HFX := Lib.hid hfv
      have HCE := Lib.hid hcell
      have hx2 : 0 ≤ x ∧ x ≤ 132 := by omega
      have hzz : z ≤ 11 := by omega
      clear hst hfv hcell hx hz hzn hxb hxl hkA hzb
      go_wp2_with fail
      go_loopw [8, 10] (fun s8 c wi => ∃ j : Nat, j ≤ z ∧ c = .int .i64 j ∧ s8 = .int .i64 (x + j) ∧ Below w4.heap.size w4 wi) (fun _ c _ => z - (intOf c).toNat)
      case atStart => exact ⟨0, by omega, rfl, by simp, HBR.out⟩
      case round =>
        obtain ⟨j, hj, rfl, rfl, hbi⟩ := hrel
        have HBI := Lib.hid hbi
        clear hbi
        have ca := HCE.out _ HBI.out
        have hri := (HBI.out.block _ (lt_of_block HR4.out)).trans HR4.out
        by_cases hjz : j < z
        · have hjI : (j : Int) < (z : Int) := by omega
          have c0 : wr.cell? ⟨w1.heap.size, 0, none⟩ = some (.string s) := cell_of_row _ _ _ _ _ _ hri
          have c1 : wr.cell? ⟨w1.heap.size, 1, none⟩ = some (.slice ad np sc) := cell_of_row _ _ _ _ _ _ hri
          have c2 : wr.cell? ⟨w1.heap.size, 2, none⟩ = some (.int .i64 T) := cell_of_row _ _ _ _ _ _ hri
          have c3 : wr.cell? ⟨w1.heap.size, 3, none⟩ = some (.int .i64 N) := cell_of_row _ _ _ _ _ _ hri
          have c4 : wr.cell? ⟨w1.heap.size, 4, none⟩ = some (.int .i64 0) := cell_of_row _ _ _ _ _ _ hri
          have c5 : wr.cell? ⟨w1.heap.size, 5, none⟩ = some (.int .i64 d) := cell_of_row _ _ _ _ _ _ hri
          have hjf := HFX.out (j : Int) (by omega) (by omega)
          have HRI := Lib.hid hri
          clear hri
          go_wp2_with fail
          clear c0 c1 c2 c3 c4 c5
          refine (own_any s ad np sc T N 0 d wr).mono ?_
          rintro e w7 ⟨rfl, hb7⟩
          have HB7 := Lib.hid (HBI.out.trans (hb7.mono HBI.out.size))
          have HN7 := Lib.hid (show Net s (.slice ad np sc) p w7 from HST.out.net (HB4.out.trans (HB7.out.mono HB4.out.size)) hs (by omega) hpo (by have := HO4.out.later HB7.out; exact this))
          clear hb7 HRI
          have hfi := find_any HDD.out (ad := ad) (sn := np) (sc := sc) T N HI.out (by omega) (x + j) (by omega) hjf.2.2 hs (by have := HNP.out; omega) HNP.out w7 HN7.out (by rw [hjf.1]; dsimp only; omega)
          rw [hjf.1] at hfi
          dsimp only at hfi
          rw [show x + (j : Int) - x = j by omega] at hfi
          go_wp2_with fail
          refine hfi.mono ?_
          rintro e w8 ⟨rfl, hb8⟩
          have HB8 := Lib.hid (HB7.out.trans (hb8.mono HB7.out.size))
          clear hb8 HB7 HN7 hfi hjf ca
          have hwx : wrap64 (x + (j : Int) + 1) = x + ((j + 1 : Nat) : Int) := by unfold wrap64; omega
          have hwx' : IntKind.i64.wrap (x + (j : Int) + 1) = x + ((j + 1 : Nat) : Int) := by simp only [IntKind.wrap_i64]; omega
          go_wp2_with fail
          go_roundw
          case rel => exact ⟨j + 1, by omega, by go_num, by go_num, HB8.out⟩
          case measure => simp [intOf]; try omega
        · obtain rfl : j = z := by omega
          go_wp2_with fail
          go_roundw
          case rel => exact ⟨k + 1, by omega, by go_num, by rw [HSX.out], HBI.out⟩
          case measure => simp [intOf]; try omega
    · obtain rfl : k = N := by omega
      rw [List.take_of_length_le (by rw [HPL.out]; omega), HPS.out.1]
      have hrr := (HBR.out.block _ (lt_of_block HR4.out)).trans HR4.out
      have HRR := Lib.hid hrr
      clear hrr
      have HBW := Lib.hid (HB4.out.trans (HBR.out.mono HB4.out.size))
      have h0r : 0 < wr.heap.size := Nat.lt_of_lt_of_le HST.out.h0 HBW.out.size
      have hKr : HoldK wr := HST.out.hK.later HST.out.h0 HBW.out
      have hgr := great_any v l HST.out.hl HST.out.h64 wr (HST.out.hr.later HBW.out)
      have hgf := fun x h0 h1 => great_found l x h0 h1 wr h0r hKr
      have hqt := qTotal_lt l
      obtain ⟨N2, hN2⟩ : ∃ N2, N2 = qN l := ⟨_, rfl⟩
      obtain ⟨lo2, hlo2⟩ : ∃ lo2, lo2 = qLo l := ⟨_, rfl⟩
      obtain ⟨hi2, hhi2⟩ : ∃ hi2, hi2 = qHi l := ⟨_, rfl⟩
      obtain ⟨t2, ht2⟩ : ∃ t2, t2 = qTotal l := ⟨_, rfl⟩
      rw [← hN2, ← hlo2, ← hhi2, ← ht2] at hgr hgf
      rw [← ht2] at hqt
      have HGR := Lib.hid (show Calls Tryd.prog 56 #[v] wr fun e w' => e = .returned (.agg #[.string ⟨#[103]⟩, .slice none 0 0, .int .i64 t2, .int .i64 N2, .int .i64 lo2, .int .i64 hi2]) ∧ Below wr.heap.size wr w' from hgr)
      have HGF := Lib.hid hgf
      have HQT := Lib.hid hqt
      clear hN2 hlo2 hhi2 ht2 hgr hgf hqt h0r hKr
      go_wp2_with fail
      refine HGR.out.mono ?_
      rintro e w5 ⟨rfl, hb5⟩
      have HB5 := Lib.hid hb5
      clear hb5 HGR
      obtain ⟨W6, hW6⟩ : ∃ W6, W6 = w5.alloc (.cells #[.string ⟨#[103]⟩, .slice none 0 0, .int .i64 t2, .int .i64 N2, .int .i64 lo2, .int .i64 hi2] 43) := ⟨_, rfl⟩
      have r6 : W6.heap[w5.heap.size]? = some (.cells #[.string ⟨#[103]⟩, .slice none 0 0, .int .i64 t2, .int .i64 N2, .int .i64 lo2, .int .i64 hi2] 43 (0, 0)) := by rw [hW6]; exact heap_alloc_new _ _
      have b6 : Below wr.heap.size wr W6 := by rw [hW6]; exact HB5.out.alloc HB5.out.size _
      have HB6 := Lib.hid b6
      have HR6 := Lib.hid r6
      have HS6 := Lib.hid ((b6.block _ (lt_of_block HRR.out)).trans HRR.out)
      have HBW6 := Lib.hid (HBW.out.trans (b6.mono HBW.out.size))
      clear b6 r6
      by_cases ht0 : t2 = 0
      · subst ht0
        have c2 : W6.cell? ⟨w1.heap.size, 2, none⟩ = some (.int .i64 T) := cell_of_row _ _ _ _ _ _ HS6.out
        rw [hW6] at c2 HBW6
        go_wp2_with fail
        refine (lives7_any _ (Nat.lt_of_lt_of_le HST.out.h0 HBW6.out.size) (HST.out.hK.later HST.out.h0 HBW6.out)).mono ?_
        rintro e w13 ⟨rfl, hb13⟩
        go_wp2_with fail
        go_ret
        exact ⟨rfl, HBW6.out.trans (hb13.mono HBW6.out.size)⟩
      · have hqb := HQT.out
        have hqa := aroundI_lt y t2 (by omega)
        have har := around_any y t2 HY.out (by constructor <;> omega)
        obtain ⟨q, hq⟩ : ∃ q, q = aroundI y t2 := ⟨_, rfl⟩
        rw [← hq] at har hqa
        obtain ⟨k2, b, u, z, hk2, gb0, gb1, gu0, gu1, gbu, g53, g51, g39⟩ := HGF.out q hqa.1 hqa.2
        have HAR := Lib.hid har
        have H0 := Lib.hid g53
        have H1 := Lib.hid g51
        have H2 := Lib.hid g39
        have hwb : IntKind.i64.wrap (b + u) = q := by simp only [IntKind.wrap_i64]; omega
        have hwb' : wrap64 (b + u) = q := by unfold wrap64; omega
        have hu1 : ¬ u < 0 := by omega
        clear hq hqa har g53 g51 g39 hqb gbu gb0 gb1
        have c2 : W6.cell? ⟨w1.heap.size, 2, none⟩ = some (.int .i64 T) := cell_of_row _ _ _ _ _ _ HS6.out
        rw [hW6] at c2
        have ht0' : (t2 == 0) = false := by simp; exact ht0
        go_wp2_with fail
        rw [← hW6]
        clear hW6 c2 ht0'
        have d0 : W6.cell? ⟨w5.heap.size, 0, none⟩ = some (.string ⟨#[103]⟩) := cell_of_row _ _ _ _ _ _ HR6.out
        have d1 : W6.cell? ⟨w5.heap.size, 1, none⟩ = some (.slice none 0 0) := cell_of_row _ _ _ _ _ _ HR6.out
        have d2 : W6.cell? ⟨w5.heap.size, 2, none⟩ = some (.int .i64 t2) := cell_of_row _ _ _ _ _ _ HR6.out
        have d3 : W6.cell? ⟨w5.heap.size, 3, none⟩ = some (.int .i64 N2) := cell_of_row _ _ _ _ _ _ HR6.out
        have d4 : W6.cell? ⟨w5.heap.size, 4, none⟩ = some (.int .i64 lo2) := cell_of_row _ _ _ _ _ _ HR6.out
        have d5 : W6.cell? ⟨w5.heap.size, 5, none⟩ = some (.int .i64 hi2) := cell_of_row _ _ _ _ _ _ HR6.out
        refine (HAR.out W6).mono ?_
        rintro e w' ⟨rfl, rfl⟩
        go_wp2_with fail
        clear d0 d1 d2 d3 d4 d5
        refine (H0.out W6 HB6.out).mono ?_
        rintro e w7 ⟨rfl, hb7⟩
        have HB7 := Lib.hid (HB6.out.trans (hb7.mono HB6.out.size))
        have HR7 := Lib.hid ((hb7.block _ (lt_of_block HR6.out)).trans HR6.out)
        have HS7 := Lib.hid ((hb7.block _ (lt_of_block HS6.out)).trans HS6.out)
        clear hb7 HB6 HR6 HS6 H0
        have d0 : w7.cell? ⟨w5.heap.size, 0, none⟩ = some (.string ⟨#[103]⟩) := cell_of_row _ _ _ _ _ _ HR7.out
        have d1 : w7.cell? ⟨w5.heap.size, 1, none⟩ = some (.slice none 0 0) := cell_of_row _ _ _ _ _ _ HR7.out
        have d2 : w7.cell? ⟨w5.heap.size, 2, none⟩ = some (.int .i64 t2) := cell_of_row _ _ _ _ _ _ HR7.out
        have d3 : w7.cell? ⟨w5.heap.size, 3, none⟩ = some (.int .i64 N2) := cell_of_row _ _ _ _ _ _ HR7.out
        have d4 : w7.cell? ⟨w5.heap.size, 4, none⟩ = some (.int .i64 lo2) := cell_of_row _ _ _ _ _ _ HR7.out
        have d5 : w7.cell? ⟨w5.heap.size, 5, none⟩ = some (.int .i64 hi2) := cell_of_row _ _ _ _ _ _ HR7.out
        go_wp2_with fail
        clear d0 d1 d2 d3 d4 d5
        refine (H1.out w7 HB7.out).mono ?_
        rintro e w8 ⟨rfl, hb8⟩
        have HB8 := Lib.hid (HB7.out.trans (hb8.mono HB7.out.size))
        have HR8 := Lib.hid ((hb8.block _ (lt_of_block HR7.out)).trans HR7.out)
        have HS8 := Lib.hid ((hb8.block _ (lt_of_block HS7.out)).trans HS7.out)
        clear hb8 HB7 HR7 HS7 H1
        have d0 : w8.cell? ⟨w5.heap.size, 0, none⟩ = some (.string ⟨#[103]⟩) := cell_of_row _ _ _ _ _ _ HR8.out
        have d1 : w8.cell? ⟨w5.heap.size, 1, none⟩ = some (.slice none 0 0) := cell_of_row _ _ _ _ _ _ HR8.out
        have d2 : w8.cell? ⟨w5.heap.size, 2, none⟩ = some (.int .i64 t2) := cell_of_row _ _ _ _ _ _ HR8.out
        have d3 : w8.cell? ⟨w5.heap.size, 3, none⟩ = some (.int .i64 N2) := cell_of_row _ _ _ _ _ _ HR8.out
        have d4 : w8.cell? ⟨w5.heap.size, 4, none⟩ = some (.int .i64 lo2) := cell_of_row _ _ _ _ _ _ HR8.out
        have d5 : w8.cell? ⟨w5.heap.size, 5, none⟩ = some (.int .i64 hi2) := cell_of_row _ _ _ _ _ _ HR8.out
        go_wp2_with fail
        clear d0 d1 d2 d3 d4 d5
        refine (H2.out w8 HB8.out).mono ?_
        rintro e w9 ⟨rfl, hb9⟩
        have HB9 := Lib.hid (HB8.out.trans (hb9.mono HB8.out.size))
        have HS9 := Lib.hid ((hb9.block _ (lt_of_block HS8.out)).trans HS8.out)
        clear hb9 HB8 HR8 HS8 H2
        have c2 : w9.cell? ⟨w1.heap.size, 2, none⟩ = some (.int .i64 T) := cell_of_row _ _ _ _ _ _ HS9.out
        have HBX := Lib.hid (HB4.out.trans ((HBR.out.trans (HB9.out.mono HBR.out.size)).mono HB4.out.size))
        go_wp2_with fail
        refine (lives7_any _ (Nat.lt_of_lt_of_le HST.out.h0 HBX.out.size) (HST.out.hK.later HST.out.h0 HBX.out)).mono ?_
        rintro e w13 ⟨rfl, hb13⟩
        go_wp2_with fail
        go_ret
        exact ⟨rfl, HBX.out.trans (hb13.mono HBX.out.size)⟩
end Go.Proofs.YtfkpeabkcdhcfaaDoor
