/-
  Walk of SplitMoved: if both bounds grow by a number, and the total with them, each part grows by it.
-/
import Derived.Test.YtfkpeabkcdhcfaaDoorV6
import Derived.Test.YtfkpeabkcdhcfaaDoorT11
namespace Go.Proofs.YtfkpeabkcdhcfaaDoor
open Go.RowKit
set_option maxRecDepth 100000
theorem made_move (l : List Int) (m : Int) (hm : -1000 ≤ m ∧ m < 1000) : NodeOk (mLo l + m) (mHi l + m) (mN l) (mTotal l + (mN l : Int) * m) := by
  obtain ⟨h1, h2, h3, h4, h5, h6⟩ := mTotal_ok l
  have b1 := mLo_bd l
  have b2 := mHi_bd l
  refine ⟨h1, by omega, by omega, by omega, ?_, ?_⟩
  · rw [Int.mul_add]; omega
  · rw [Int.mul_add]; omega
set_option maxHeartbeats 4000000 in
theorem moved_any (v : Value) (l : List Int) (y : Int) (hy : I64 y) (w : World) (hst : Start7 v l w) : Calls Tryd.prog 15 #[v, .int .i64 y] w fun e w' => e = .returned (.bool true) ∧ Below w.heap.size w w' := by
  have har := around_any y 2000 hy (by constructor <;> omega)
  have hmb := aroundI_lt y 2000 (by omega)
  obtain ⟨m0, hm0⟩ : ∃ m0, m0 = aroundI y 2000 := ⟨_, rfl⟩
  rw [← hm0] at har hmb
  obtain ⟨m, hm⟩ : ∃ m, m = m0 - 1000 := ⟨_, rfl⟩
  have hmm : -1000 ≤ m ∧ m < 1000 := by omega
  have hmv := made_move l m hmm
  have hD := drawnM l (mLo l) (mHi l) (by have := mHi_bd l; omega)
  have hD2 := drawnM l (mLo l + m) (mHi l + m) (by have := mHi_bd l; omega)
  have hI := in12_root (mTotal_ok l) (mN_le l)
  have hI2 := in12_root hmv (mN_le l)
  have hpm := partsOf_move (mSeed l) (mPath l) (mLo l) (mHi l) m 0 (mN l) (mTotal l)
  have hpl0 := partsOf_len (mSeed l) (mPath l) (mLo l) (mHi l) 0 (mN l) (mTotal l)
  have hps := (partsOf_sum (mSeed l) (mPath l) (mLo l) (mHi l) 0 (mN l) (mTotal l) (mTotal_ok l)).2
  have hto := mTotal_ok l
  have HST := Lib.hid hst
  have hmk := made7_any v l hst.hl hst.h64 w hst.hr hst.cap
  have hs := mSeed_size l
  have hN := mN_le l
  have hlo := mLo_bd l
  have hhi := mHi_bd l
  have hpl := mPath_len l
  have hpo := mPath_ok l
  obtain ⟨s, hse⟩ : ∃ s, s = mSeed l := ⟨_, rfl⟩
  obtain ⟨N, hNe⟩ : ∃ N, N = mN l := ⟨_, rfl⟩
  obtain ⟨lo, hloe⟩ : ∃ lo, lo = mLo l := ⟨_, rfl⟩
  obtain ⟨hi, hhie⟩ : ∃ hi, hi = mHi l := ⟨_, rfl⟩
  obtain ⟨p, hpe⟩ : ∃ p, p = mPath l := ⟨_, rfl⟩
  obtain ⟨tot, hte⟩ : ∃ tot, tot = mTotal l := ⟨_, rfl⟩
  rw [← hse, ← hNe, ← hloe, ← hhie, ← hpe, ← hte] at hmk
  rw [← hse] at hs
  rw [← hNe] at hN
  rw [← hloe] at hlo hhi
  rw [← hhie] at hhi
  rw [← hpe] at hpl hpo
  rw [← hse, ← hNe, ← hloe, ← hhie, ← hpe, ← hte] at hpm hpl0 hps
  rw [← hNe, ← hloe, ← hhie, ← hte] at hI hI2 hto
  rw [← hse, ← hloe, ← hhie, ← hpe] at hD hD2
  have htb : -100000 ≤ tot ∧ tot ≤ 100000 := by
    have h1 := hto.t1
    have h2 := hto.t2
    have h3 : (N : Int) * lo ≥ N * (-2) := Int.mul_le_mul_of_nonneg_left (by omega) (by omega)
    have h4 : (N : Int) * hi ≤ N * 20 := Int.mul_le_mul_of_nonneg_left (by omega) (by omega)
    omega
  have hnm : -100000 ≤ (N : Int) * m ∧ (N : Int) * m ≤ 100000 := by
    have h3 : (N : Int) * m ≥ N * (-1000) := Int.mul_le_mul_of_nonneg_left (by omega) (by omega)
    have h4 : (N : Int) * m ≤ N * 1000 := Int.mul_le_mul_of_nonneg_left (by omega) (by omega)
    omega
  have HMK := Lib.hid hmk
  have HAR := Lib.hid har
  have HM := Lib.hid hm
  have HDD := Lib.hid hD
  have HD2 := Lib.hid hD2
  have HI := Lib.hid hI
  have HI2 := Lib.hid hI2
  have HPM := Lib.hid hpm
  have HPL := Lib.hid hpl0
  have HPS := Lib.hid hps
  have HWM := Lib.hid (show wrap64 ((N : Int) * m) = (N : Int) * m by unfold wrap64; omega)
  have HNM := Lib.hid hnm
  clear hmk hst hse hNe hloe hhie hpe hte har hm hD hD2 hI hI2 hpm hpl0 hps hto hmv hm0 hnm
  unfold spV at HMK
  go_enter Tryd.func15, Tryd.ntmps15
  go_wp2_with fail
  refine HMK.out.mono ?_
  rintro e w1 ⟨v1, rfl, hown1, hb1⟩
  obtain ⟨ad, sc, rfl⟩ := hown1.form
  obtain ⟨np, hnp⟩ : ∃ np, np = p.length := ⟨_, rfl⟩
  rw [← hnp] at hown1 ⊢
  have HO1 := Lib.hid hown1
  have HB1 := Lib.hid hb1
  have HNP := Lib.hid hnp
  clear hown1 hb1 hnp HMK
  go_wp2_with fail
  refine (HAR.out _).mono ?_
  rintro e w' ⟨rfl, rfl⟩
  rw [show m0 = m + 1000 by have := HM.out; omega]
  go_wp2_with fail
  rw [HWM.out, show wrap64 (tot + (N : Int) * m) = tot + (N : Int) * m by have := HNM.out; unfold wrap64; omega]
  obtain ⟨W3, hW3⟩ : ∃ W3, W3 = (w1.alloc (.cells #[.string s, .slice ad np sc, .int .i64 tot, .int .i64 N, .int .i64 lo, .int .i64 hi] 55)).alloc (.cells #[.string s, .slice ad np sc, .int .i64 (tot + (N : Int) * m), .int .i64 N, .int .i64 (lo + m), .int .i64 (hi + m)] 55) := ⟨_, rfl⟩
  have r1 : W3.heap[w1.heap.size + 1]? = some (.cells #[.string s, .slice ad np sc, .int .i64 (tot + (N : Int) * m), .int .i64 N, .int .i64 (lo + m), .int .i64 (hi + m)] 55 (0, 0)) := by rw [hW3]; exact heap_alloc2_new _ _ _
  have b3 : Below w1.heap.size w1 W3 := by rw [hW3]; exact ((Below.refl _ _).alloc (Nat.le_refl _) _).alloc (by simp) _
  rw [← hW3]
  clear hW3
  have HB3 := Lib.hid (HB1.out.trans (b3.mono HB1.out.size))
  have HO3 := Lib.hid (HO1.out.later b3)
  have HR1 := Lib.hid r1
  clear HO1 b3 r1
  refine (own_any s ad np sc tot N lo hi W3).mono ?_
  rintro e w4 ⟨rfl, hb4⟩
  have HB4 := Lib.hid (HB3.out.trans (hb4.mono HB3.out.size))
  have HO4 := Lib.hid (HO3.out.later hb4)
  have HR4 := Lib.hid ((hb4.block _ (lt_of_block HR1.out)).trans HR1.out)
  clear hb4 HB3 HO3 HR1
  go_wp2_with fail
  have hnet4 : Net s (.slice ad np sc) p w4 := HST.out.net HB4.out hs (by omega) hpo (by have := HO4.out; exact this)
  refine (alls_any HDD.out tot N HI.out (by omega) hs (by have := HNP.out; omega) HNP.out w4 hnet4).mono ?_
  rintro e w5 ⟨v5, rfl, hown5, hb5⟩
  have HB5 := Lib.hid (HB4.out.trans (hb5.mono HB4.out.size))
  have HO5 := Lib.hid (HO4.out.later hb5)
  have HR5 := Lib.hid ((hb5.block _ (lt_of_block HR4.out)).trans HR4.out)
  have HA5 := Lib.hid hown5
  clear hb5 hown5 hnet4 HB4 HO4 HR4
  have c0 : w5.cell? ⟨w1.heap.size + 1, 0, none⟩ = some (.string s) := cell_of_row _ _ _ _ _ _ HR5.out
  have c1 : w5.cell? ⟨w1.heap.size + 1, 1, none⟩ = some (.slice ad np sc) := cell_of_row _ _ _ _ _ _ HR5.out
  have c2 : w5.cell? ⟨w1.heap.size + 1, 2, none⟩ = some (.int .i64 (tot + (N : Int) * m)) := cell_of_row _ _ _ _ _ _ HR5.out
  have c3 : w5.cell? ⟨w1.heap.size + 1, 3, none⟩ = some (.int .i64 N) := cell_of_row _ _ _ _ _ _ HR5.out
  have c4 : w5.cell? ⟨w1.heap.size + 1, 4, none⟩ = some (.int .i64 (lo + m)) := cell_of_row _ _ _ _ _ _ HR5.out
  have c5 : w5.cell? ⟨w1.heap.size + 1, 5, none⟩ = some (.int .i64 (hi + m)) := cell_of_row _ _ _ _ _ _ HR5.out
  go_wp2_with fail
  refine (own_any s ad np sc (tot + (N : Int) * m) N (lo + m) (hi + m) w5).mono ?_
  rintro e w6 ⟨rfl, hb6⟩
  clear c0 c1 c2 c3 c4 c5
  have HB6 := Lib.hid (HB5.out.trans (hb6.mono HB5.out.size))
  have HO6 := Lib.hid (HO5.out.later hb6)
  have HA6 := Lib.hid (HA5.out.later hb6)
  clear hb6 HB5 HO5 HA5 HR5
  go_wp2_with fail
  have hnet6 : Net s (.slice ad np sc) p w6 := HST.out.net HB6.out hs (by omega) hpo (by have := HO6.out; exact this)
  refine (alls_any HD2.out (tot + (N : Int) * m) N HI2.out (by omega) hs (by have := HNP.out; omega) HNP.out w6 hnet6).mono ?_
  rw [HPM.out]
  rintro e w7 ⟨v7, rfl, hown7, hb7⟩
  have HB7 := Lib.hid (HB6.out.trans (hb7.mono HB6.out.size))
  have HA7 := Lib.hid (HA6.out.later hb7)
  obtain ⟨A, hA⟩ : ∃ A, A = partsOf s p lo hi 0 N tot := ⟨_, rfl⟩
  rw [← hA] at HPL HPS HA7 hown7
  obtain ⟨ad7, sc7, rfl⟩ := hown7.form
  obtain ⟨ad5, sc5, rfl⟩ := HA7.out.form
  rw [List.length_map, HPL.out] at hown7 ⊢
  rw [HPL.out] at HA7
  have HD7 := Lib.hid hown7
  clear hb7 hown7 hnet6 HB6 HO6 HA6 hA
  go_wp2_with fail
  go_loopw [12] (fun c wr => ∃ k : Nat, k ≤ N ∧ c = .int .i64 k ∧ Below w7.heap.size w7 wr) (fun c _ => N - (intOf c).toNat)
  case atStart => exact ⟨0, by omega, rfl, Below.refl _ _⟩
  case round =>
    obtain ⟨k, hk, rfl, hbr⟩ := hrel
    have HBR := Lib.hid hbr
    clear hbr
    by_cases hlt : k < N
    · have hkA : k < A.length := by rw [HPL.out]; exact hlt
      obtain ⟨g5, cp5, e5⟩ := HA7.out.shape (by omega)
      obtain ⟨g7, cp7, e7⟩ := HD7.out.shape (by rw [List.length_map]; omega)
      simp only [Value.slice.injEq] at e5 e7
      obtain ⟨rfl, -, rfl⟩ := e5
      obtain ⟨rfl, -, rfl⟩ := e7
      have ca := (HA7.out.later HBR.out).cell k hkA
      have cb := (HD7.out.later HBR.out).cell k (by rw [List.length_map]; exact hkA)
      have hab := HPS.out (A.getD k 0) (by rw [List.getD_eq_getElem?_getD, List.getElem?_eq_getElem hkA]; exact List.getElem_mem hkA)
      rw [show (A.map (· + m)).getD k 0 = A.getD k 0 + m by simp [List.getD_eq_getElem?_getD, List.getElem?_eq_getElem hkA]] at cb
      obtain ⟨x, hx⟩ : ∃ x, x = A.getD k 0 := ⟨_, rfl⟩
      rw [← hx] at ca cb hab
      have hltI : (k : Int) < (N : Int) := by omega
      have hwx : IntKind.i64.wrap (x + m) = x + m := by simp only [IntKind.wrap_i64]; omega
      clear hx hkA
      go_wp2_with fail
      go_quiet (fail)
      go_wp2_with fail
      go_roundw
      case rel => exact ⟨k + 1, by omega, by go_num, below_drewN HBR.out _⟩
      case measure => simp [intOf]; omega
    · obtain rfl : k = N := by omega
      have HB8 := Lib.hid (HB7.out.trans (HBR.out.mono HB7.out.size))
      clear HA7 HD7 HBR HB7
      go_wp2_with fail
      refine (lives7_any _ (Nat.lt_of_lt_of_le HST.out.h0 HB8.out.size) (HST.out.hK.later HST.out.h0 HB8.out)).mono ?_
      rintro e w13 ⟨rfl, hb13⟩
      go_wp2_with fail
      go_ret
      exact ⟨rfl, HB8.out.trans (hb13.mono HB8.out.size)⟩
end Go.Proofs.YtfkpeabkcdhcfaaDoor
