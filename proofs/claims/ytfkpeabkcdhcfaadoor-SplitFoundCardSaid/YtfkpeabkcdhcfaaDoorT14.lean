/-
  Walk of SplitEnds: with the least and the greatest total all parts are equal to a bound; with one part it is the total.
-/
import Derived.Test.YtfkpeabkcdhcfaaDoorT12
import Derived.Test.YtfkpeabkcdhcfaaDoorT13
namespace Go.Proofs.YtfkpeabkcdhcfaaDoor
open Go.RowKit
set_option maxRecDepth 100000
def CapOk (v : Value) : Prop := ∀ a n c, v = .slice a n c → n ≤ c
/-- what a law of package split knows of its start -/
structure Start7 (v : Value) (l : List Int) (w : World) : Prop where
  h0 : 0 < w.heap.size
  hK : HoldK w
  hr : ReadI v l w
  hl : l.length ≤ maxLen
  h64 : Int64s l
  cap : CapOk v
theorem mSeed_size (l : List Int) : (mSeed l).size ≤ 32 := by
  have h := atI_bd l 0 3 (by omega)
  unfold mSeed
  rcases (show (atI l 0 3).toNat = 0 ∨ (atI l 0 3).toNat = 1 ∨ (atI l 0 3).toNat = 2 by omega) with h | h | h <;> rw [h] <;> decide
theorem mN_le (l : List Int) : mN l ≤ 12 := by have h := atI_bd l 1 13 (by omega); unfold mN; omega
theorem mLo_bd (l : List Int) : -2 ≤ mLo l ∧ mLo l ≤ 4 := by have h := atI_bd l 2 7 (by omega); unfold mLo; omega
theorem mHi_bd (l : List Int) : mLo l ≤ mHi l ∧ mHi l ≤ mLo l + 11 := by have h := atI_bd l 3 12 (by omega); unfold mHi; omega
theorem mPath_len (l : List Int) : (mPath l).length ≤ 3 := by
  have h := atI_bd l 4 4 (by omega)
  simp [mPath, mPathN]; omega
theorem mPath_bd (l : List Int) : ∀ n ∈ mPath l, 0 ≤ n ∧ n < 100 := by
  intro n hn
  simp only [mPath, mPathN, List.mem_map] at hn
  obtain ⟨i, _, rfl⟩ := hn
  exact atI_bd l (5 + i) 100 (by omega)
theorem mPath_ok (l : List Int) : Ok64 (mPath l) := fun n hn => by have := mPath_bd l n hn; omega
theorem mTotal_ok (l : List Int) : NodeOk (mLo l) (mHi l) (mN l) (mTotal l) := by
  have h1 := mN_le l
  have h2 := mLo_bd l
  have h3 := mHi_bd l
  have e : 0 ≤ (mN l : Int) * (mHi l - mLo l) := Int.mul_nonneg (by omega) (by omega)
  have h4 := atI_bd l 9 (mN l * (mHi l - mLo l) + 1) (by omega)
  have e2 : (mN l : Int) * mHi l = mN l * mLo l + mN l * (mHi l - mLo l) := by rw [← Int.mul_add]; congr 1; omega
  unfold mTotal
  exact ⟨by omega, by omega, by omega, h3.1, by omega, by omega⟩
theorem Start7.net {v0 : Value} {l0 : List Int} {w w1 : World} (h : Start7 v0 l0 w) (hb : Below w.heap.size w w1) {s : ByteArray} (hs : s.size ≤ 32) {base : Nat} {v : Value} {l : List Int} (hl : l.length ≤ 6) (h64 : Ok64 l) (hown : OwnI base v l w1) : Net s v l w1 :=
  ⟨by omega, by omega, h64, Nat.lt_of_lt_of_le h.h0 hb.size, h.hK.later h.h0 hb, hown.read⟩
theorem own_setCell {base B j : Nat} {v : Value} {l : List Int} {W : World} {cs : Array Value} (h : OwnI base v l W) (hB : W.heap[B]? = some (.cells cs 55 (0, 0))) (x : Value) : OwnI base v l (W.setCell ⟨B, j, none⟩ x) := by
  refine ⟨h.1, ?_⟩
  rcases h.2 with h1 | ⟨g, cap, cur, h1, h2, h3, h4⟩
  · exact .inl h1
  · have hne : g ≠ B := fun e => by rw [e, hB] at h3; cases h3
    exact .inr ⟨g, cap, cur, h1, h2, (Below.heap_setCell _ _ _ _ (by exact hne)).trans h3, h4⟩
theorem set2of6 (w : World) (g : Nat) (a b c d e f r : Value) (t : TypeId) (h : w.heap[g]? = some (.cells #[a, b, c, d, e, f] t (0, 0))) :
    (w.setCell ⟨g, 2, none⟩ r).heap[g]? = some (.cells #[a, b, r, d, e, f] t (0, 0)) := by
  simp [World.setCell, Array.getElem?_modify, h]
set_option maxHeartbeats 4000000 in
theorem ends_any (v : Value) (l : List Int) (w : World) (hst : Start7 v l w) : Calls Tryd.prog 16 #[v] w fun e w' => e = .returned (.bool true) ∧ Below w.heap.size w w' := by
  have HST := Lib.hid hst
  have hmk := made7_any v l hst.hl hst.h64 w hst.hr hst.cap
  have hs := mSeed_size l
  have hN := mN_le l
  have hlo := mLo_bd l
  have hhi := mHi_bd l
  have hpl := mPath_len l
  have hpo := mPath_ok l
  obtain ⟨s, hse⟩ : ∃ s, s = mSeed l := ⟨_, rfl⟩
  obtain ⟨N, hNe⟩ : ∃ N, N = mN l := ⟨_, rfl⟩
  obtain ⟨lo, hloe⟩ : ∃ lo, lo = mLo l := ⟨_, rfl⟩
  obtain ⟨hi, hhie⟩ : ∃ hi, hi = mHi l := ⟨_, rfl⟩
  obtain ⟨p, hpe⟩ : ∃ p, p = mPath l := ⟨_, rfl⟩
  obtain ⟨tot, hte⟩ : ∃ tot, tot = mTotal l := ⟨_, rfl⟩
  rw [← hse, ← hNe, ← hloe, ← hhie, ← hpe, ← hte] at hmk
  rw [← hse] at hs
  rw [← hNe] at hN
  rw [← hloe] at hlo hhi
  rw [← hhie] at hhi
  rw [← hpe] at hpl hpo
  have HMK := Lib.hid hmk
  clear hmk hst hse hNe hloe hhie hpe hte
  have b1 := mul_bound N (by omega) lo (by omega) (by omega)
  have b2 := mul_bound N (by omega) hi (by omega) (by omega)
  have HWL := Lib.hid (show wrap64 ((N : Int) * lo) = (N : Int) * lo by unfold wrap64; omega)
  have HWH := Lib.hid (show wrap64 ((N : Int) * hi) = (N : Int) * hi by unfold wrap64; omega)
  clear b1 b2
  unfold spV at HMK
  go_enter Tryd.func16, Tryd.ntmps16
  go_wp2_with fail
  refine HMK.out.mono ?_
  rintro e w1 ⟨v1, rfl, hown1, hb1⟩
  obtain ⟨ad, sc, rfl⟩ := hown1.form
  obtain ⟨np, hnp⟩ : ∃ np, np = p.length := ⟨_, rfl⟩
  rw [← hnp] at hown1 ⊢
  have HO1 := Lib.hid hown1
  have HB1 := Lib.hid hb1
  have HNP := Lib.hid hnp
  clear hown1 hb1 hnp HMK
  go_wp2_with fail
  rw [HWL.out, HWH.out]
  obtain ⟨W3, hW3⟩ : ∃ W3, W3 = ((w1.alloc (.cells #[.string s, .slice ad np sc, .int .i64 tot, .int .i64 N, .int .i64 lo, .int .i64 hi] 55)).alloc (.cells #[.string s, .slice ad np sc, .int .i64 ((N : Int) * lo), .int .i64 N, .int .i64 lo, .int .i64 hi] 55)).alloc (.cells #[.string s, .slice ad np sc, .int .i64 ((N : Int) * hi), .int .i64 N, .int .i64 lo, .int .i64 hi] 55) := ⟨_, rfl⟩
  have r0 : W3.heap[w1.heap.size]? = some (.cells #[.string s, .slice ad np sc, .int .i64 tot, .int .i64 N, .int .i64 lo, .int .i64 hi] 55 (0, 0)) := by
    rw [hW3, Below.heap_alloc _ _ _ (by simp only [World.size_alloc]; omega)]; exact heap_alloc2_old _ _ _
  have r1 : W3.heap[w1.heap.size + 1]? = some (.cells #[.string s, .slice ad np sc, .int .i64 ((N : Int) * lo), .int .i64 N, .int .i64 lo, .int .i64 hi] 55 (0, 0)) := by
    rw [hW3, Below.heap_alloc _ _ _ (by simp only [World.size_alloc]; omega)]; exact heap_alloc2_new _ _ _
  have r2 : W3.heap[w1.heap.size + 1 + 1]? = some (.cells #[.string s, .slice ad np sc, .int .i64 ((N : Int) * hi), .int .i64 N, .int .i64 lo, .int .i64 hi] 55 (0, 0)) := by rw [hW3]; exact three_cell w1 _ _ _
  have b3 : Below w1.heap.size w1 W3 := by rw [hW3]; exact three_new w1 _ _ _ (Below.refl _ _)
  rw [← hW3]
  clear hW3
  have HB3 := Lib.hid (HB1.out.trans (b3.mono HB1.out.size))
  have HO3 := Lib.hid (HO1.out.later b3)
  clear HO1 b3
  have HR0 := Lib.hid r0
  have HR1 := Lib.hid r1
  have HR2 := Lib.hid r2
  clear r0 r1 r2
  refine (own_any s ad np sc ((N : Int) * lo) N lo hi W3).mono ?_
  rintro e w4 ⟨rfl, hb4⟩
  have HB4 := Lib.hid (HB3.out.trans (hb4.mono HB3.out.size))
  have HO4 := Lib.hid (HO3.out.later hb4)
  have HR04 := Lib.hid ((hb4.block _ (lt_of_block HR0.out)).trans HR0.out)
  have HR24 := Lib.hid ((hb4.block _ (lt_of_block HR2.out)).trans HR2.out)
  clear hb4 HB3 HO3 HR0 HR1 HR2
  go_wp2_with fail
  have hnet4 : Net s (.slice ad np sc) p w4 := HST.out.net HB4.out hs (by omega) hpo (by have := HO4.out; exact this)
  refine (alls_any (drawn_eq s p lo hi lo ⟨.inl rfl, hhi.1⟩) ((N : Int) * lo) N ⟨by omega, rfl⟩ (by omega) hs (by have := HNP.out; omega) HNP.out w4 hnet4).mono ?_
  rw [partsOf_eq s p lo hi lo ⟨.inl rfl, hhi.1⟩]
  rintro e w5 ⟨v5, rfl, hown5, hb5⟩
  have HB5 := Lib.hid (HB4.out.trans (hb5.mono HB4.out.size))
  have HO5 := Lib.hid (HO4.out.later hb5)
  have HR05 := Lib.hid ((hb5.block _ (lt_of_block HR04.out)).trans HR04.out)
  have HR25 := Lib.hid ((hb5.block _ (lt_of_block HR24.out)).trans HR24.out)
  have HA5 := Lib.hid hown5
  clear hb5 hown5 hnet4 HB4 HO4 HR04 HR24
  have c0 : w5.cell? ⟨w1.heap.size + 1 + 1, 0, none⟩ = some (.string s) := cell_of_row _ _ _ _ _ _ HR25.out
  have c1 : w5.cell? ⟨w1.heap.size + 1 + 1, 1, none⟩ = some (.slice ad np sc) := cell_of_row _ _ _ _ _ _ HR25.out
  have c2 : w5.cell? ⟨w1.heap.size + 1 + 1, 2, none⟩ = some (.int .i64 ((N : Int) * hi)) := cell_of_row _ _ _ _ _ _ HR25.out
  have c3 : w5.cell? ⟨w1.heap.size + 1 + 1, 3, none⟩ = some (.int .i64 N) := cell_of_row _ _ _ _ _ _ HR25.out
  have c4 : w5.cell? ⟨w1.heap.size + 1 + 1, 4, none⟩ = some (.int .i64 lo) := cell_of_row _ _ _ _ _ _ HR25.out
  have c5 : w5.cell? ⟨w1.heap.size + 1 + 1, 5, none⟩ = some (.int .i64 hi) := cell_of_row _ _ _ _ _ _ HR25.out
  go_wp2_with fail
  refine (own_any s ad np sc ((N : Int) * hi) N lo hi w5).mono ?_
  rintro e w6 ⟨rfl, hb6⟩
  clear c0 c1 c2 c3 c4 c5
  have HB6 := Lib.hid (HB5.out.trans (hb6.mono HB5.out.size))
  have HO6 := Lib.hid (HO5.out.later hb6)
  have HR06 := Lib.hid ((hb6.block _ (lt_of_block HR05.out)).trans HR05.out)
  have HA6 := Lib.hid (HA5.out.later hb6)
  clear hb6 HB5 HO5 HR05 HR25 HA5
  go_wp2_with fail
  have hnet6 : Net s (.slice ad np sc) p w6 := HST.out.net HB6.out hs (by omega) hpo (by have := HO6.out; exact this)
  refine (alls_any (drawn_eq s p lo hi hi ⟨.inr rfl, hhi.1⟩) ((N : Int) * hi) N ⟨by omega, rfl⟩ (by omega) hs (by have := HNP.out; omega) HNP.out w6 hnet6).mono ?_
  rw [partsOf_eq s p lo hi hi ⟨.inr rfl, hhi.1⟩]
  rintro e w7 ⟨v7, rfl, hown7, hb7⟩
  have HB7 := Lib.hid (HB6.out.trans (hb7.mono HB6.out.size))
  have HO7 := Lib.hid (HO6.out.later hb7)
  have HR07 := Lib.hid ((hb7.block _ (lt_of_block HR06.out)).trans HR06.out)
  have HA7 := Lib.hid (HA6.out.later hb7)
  obtain ⟨ad7, sc7, rfl⟩ := hown7.form
  obtain ⟨ad5, sc5, rfl⟩ := HA7.out.form
  rw [List.length_replicate] at hown7 HA7 ⊢
  rw [List.length_replicate]
  have HD7 := Lib.hid hown7
  clear hb7 hown7 hnet6 HB6 HO6 HR06 HA6
  have c3 : w7.cell? ⟨w1.heap.size, 3, none⟩ = some (.int .i64 N) := cell_of_row _ _ _ _ _ _ HR07.out
  have c4 : w7.cell? ⟨w1.heap.size, 4, none⟩ = some (.int .i64 lo) := cell_of_row _ _ _ _ _ _ HR07.out
  have c5 : w7.cell? ⟨w1.heap.size, 5, none⟩ = some (.int .i64 hi) := cell_of_row _ _ _ _ _ _ HR07.out
  go_wp2_with fail
  go_loopw [10] (fun c wr => ∃ k : Nat, k ≤ N ∧ c = .int .i64 k ∧ Below w7.heap.size w7 wr) (fun c _ => N - (intOf c).toNat)
  case atStart => exact ⟨0, by omega, rfl, Below.refl _ _⟩
  case round =>
    obtain ⟨k, hk, rfl, hbr⟩ := hrel
    have HBR := Lib.hid hbr
    clear hbr
    by_cases hlt : k < N
    · obtain ⟨g5, cp5, e5⟩ := HA7.out.shape (by rw [List.length_replicate]; omega)
      obtain ⟨g7, cp7, e7⟩ := HD7.out.shape (by rw [List.length_replicate]; omega)
      simp only [Value.slice.injEq] at e5 e7
      obtain ⟨rfl, -, rfl⟩ := e5
      obtain ⟨rfl, -, rfl⟩ := e7
      have ca : wr.cell? ⟨g5, k, none⟩ = some (.int .i64 lo) := by
        have := (HA7.out.later HBR.out).cell k (by rw [List.length_replicate]; exact hlt)
        rw [List.getD_eq_getElem?_getD, List.getElem?_replicate, if_pos hlt] at this
        exact this
      have cb : wr.cell? ⟨g7, k, none⟩ = some (.int .i64 hi) := by
        have := (HD7.out.later HBR.out).cell k (by rw [List.length_replicate]; exact hlt)
        rw [List.getD_eq_getElem?_getD, List.getElem?_replicate, if_pos hlt] at this
        exact this
      have hr := (HBR.out.block _ (lt_of_block HR07.out)).trans HR07.out
      have d3 : wr.cell? ⟨w1.heap.size, 3, none⟩ = some (.int .i64 N) := cell_of_row _ _ _ _ _ _ hr
      have d4 : wr.cell? ⟨w1.heap.size, 4, none⟩ = some (.int .i64 lo) := cell_of_row _ _ _ _ _ _ hr
      have d5 : wr.cell? ⟨w1.heap.size, 5, none⟩ = some (.int .i64 hi) := cell_of_row _ _ _ _ _ _ hr
      have hltI : (k : Int) < (N : Int) := by omega
      clear hr
      clear c3 c4 c5
      go_wp2_with fail
      go_quiet (fail)
      go_wp2_with fail
      go_roundw
      case rel => exact ⟨k + 1, by omega, by go_num, below_drewN HBR.out _⟩
      case measure => simp [intOf]; omega
    · obtain rfl : k = N := by omega
      have hr := (HBR.out.block _ (lt_of_block HR07.out)).trans HR07.out
      have d0 : wr.cell? ⟨w1.heap.size, 0, none⟩ = some (.string s) := cell_of_row _ _ _ _ _ _ hr
      have d1 : wr.cell? ⟨w1.heap.size, 1, none⟩ = some (.slice ad np sc) := cell_of_row _ _ _ _ _ _ hr
      have d2 : wr.cell? ⟨w1.heap.size, 2, none⟩ = some (.int .i64 tot) := cell_of_row _ _ _ _ _ _ hr
      have d3 : wr.cell? ⟨w1.heap.size, 3, none⟩ = some (.int .i64 k) := cell_of_row _ _ _ _ _ _ hr
      have d4 : wr.cell? ⟨w1.heap.size, 4, none⟩ = some (.int .i64 lo) := cell_of_row _ _ _ _ _ _ hr
      have d5 : wr.cell? ⟨w1.heap.size, 5, none⟩ = some (.int .i64 hi) := cell_of_row _ _ _ _ _ _ hr
      have HB8 := Lib.hid (HB7.out.trans (HBR.out.mono HB7.out.size))
      have HO8 := Lib.hid (HO7.out.later HBR.out)
      have HR08 := Lib.hid hr
      clear c3 c4 c5 HA7 HD7 HO7 HB7 HR07 HBR hr
      go_wp2_with fail
      obtain ⟨W9, hW9⟩ : ∃ W9, W9 = wr.alloc (.cells #[.string s, .slice ad np sc, .int .i64 tot, .int .i64 1, .int .i64 lo, .int .i64 hi] 55) := ⟨_, rfl⟩
      have b9 : Below wr.heap.size wr W9 := by rw [hW9]; exact (Below.refl _ _).alloc (Nat.le_refl _) _
      have r9 : W9.heap[wr.heap.size]? = some (.cells #[.string s, .slice ad np sc, .int .i64 tot, .int .i64 1, .int .i64 lo, .int .i64 hi] 55 (0, 0)) := by rw [hW9]; exact heap_alloc_new _ _
      change Code.wp Tryd.prog _ _ _ (wr.alloc (.cells #[.string s, .slice ad np sc, .int .i64 tot, .int .i64 1, .int .i64 lo, .int .i64 hi] 55))
      rw [← hW9]
      clear hW9 d0 d1 d2 d3 d4 d5
      have hr0 := (b9.block _ (lt_of_block HR08.out)).trans HR08.out
      have d4 : W9.cell? ⟨w1.heap.size, 4, none⟩ = some (.int .i64 lo) := cell_of_row _ _ _ _ _ _ hr0
      have d5 : W9.cell? ⟨w1.heap.size, 5, none⟩ = some (.int .i64 hi) := cell_of_row _ _ _ _ _ _ hr0
      have e2 : W9.cell? ⟨wr.heap.size, 2, none⟩ = some (.int .i64 tot) := cell_of_row _ _ _ _ _ _ r9
      have ef : W9.frozen? ⟨wr.heap.size, 2, none⟩ = false := frozen_of_row _ _ _ _ _ r9
      have HR9 := Lib.hid r9
      have HO9 := Lib.hid (HO8.out.later b9)
      have HB9 := Lib.hid (HB8.out.trans (b9.mono HB8.out.size))
      have hne : w1.heap.size ≠ wr.heap.size := by have := lt_of_block HR08.out; omega
      have hat := fun W (hW : Below w.heap.size w W) => ref_at v l 9 (hi - lo + 1) HST.out.hl (by omega) (by constructor <;> omega) HST.out.h64 W (HST.out.hr.later hW)
      have hab := atI_bd l 9 (hi - lo + 1) (by omega)
      obtain ⟨x9, hx9⟩ : ∃ x9, x9 = atI l 9 (hi - lo + 1) := ⟨_, rfl⟩
      rw [← hx9] at hat hab
      have HAT := Lib.hid (show ∀ W, Below w.heap.size w W → Calls Tryd.prog 58 #[v, .int .i64 9, .int .i64 (hi - lo + 1)] W fun e w'' => e = .returned (.int .i64 x9) ∧ W = w'' from hat)
      have hw1 : IntKind.i64.wrap (hi - lo) = hi - lo := by simp only [IntKind.wrap_i64]; omega
      have hw2 : IntKind.i64.wrap (hi - lo + 1) = hi - lo + 1 := by simp only [IntKind.wrap_i64]; omega
      have hw3 : IntKind.i64.wrap (lo + x9) = lo + x9 := by simp only [IntKind.wrap_i64]; omega
      clear hat hx9 b9 r9 hr0 HB8 HO8
      go_region_held3 (fun w' => w'.cell? ⟨w1.heap.size, 4, none⟩ = some (.int .i64 lo) ∧ w'.cell? ⟨w1.heap.size, 5, none⟩ = some (.int .i64 hi))
        (first
          | (refine ⟨?_, ?_⟩ <;> ((try rw [World.cell?_drew]); (repeat rw [World.cell?_setCell_far _ _ _ _ (by dsimp only; omega)]); assumption))
          | go_keep)
        (first | (go_at_call 58; (with_reducible refine (HAT.out _ (by first | exact HB9.out | exact HB9.out.drew)).mono ?_); rintro e w' ⟨rfl, rfl⟩))
      have r10 : (W9.setCell ⟨wr.heap.size, 2, none⟩ (.int .i64 (lo + x9))).drew.heap[wr.heap.size]? = some (.cells #[.string s, .slice ad np sc, .int .i64 (lo + x9), .int .i64 1, .int .i64 lo, .int .i64 hi] 55 (0, 0)) := set2of6 W9 wr.heap.size _ _ _ _ _ _ _ 55 HR9.out
      have hwr : w.heap.size ≤ wr.heap.size := by have := lt_of_block HR08.out; have := HB1.out.size; omega
      have b10 : Below w.heap.size w (W9.setCell ⟨wr.heap.size, 2, none⟩ (.int .i64 (lo + x9))).drew := (HB9.out.setCell (p := ⟨wr.heap.size, 2, none⟩) hwr _).drew
      have o10 : OwnI w.heap.size (.slice ad np sc) p (W9.setCell ⟨wr.heap.size, 2, none⟩ (.int .i64 (lo + x9))).drew := own_setCell (j := 2) HO9.out HR9.out (.int .i64 (lo + x9))
      obtain ⟨W10, hW10⟩ : ∃ W10, W10 = (W9.setCell ⟨wr.heap.size, 2, none⟩ (.int .i64 (lo + x9))).drew := ⟨_, rfl⟩
      rw [← hW10] at r10 b10 o10 ⊢
      clear hW10 d4 d5 e2 ef
      have f0 : W10.cell? ⟨wr.heap.size, 0, none⟩ = some (.string s) := cell_of_row _ _ _ _ _ _ r10
      have f1 : W10.cell? ⟨wr.heap.size, 1, none⟩ = some (.slice ad np sc) := cell_of_row _ _ _ _ _ _ r10
      have f2 : W10.cell? ⟨wr.heap.size, 2, none⟩ = some (.int .i64 (lo + x9)) := cell_of_row _ _ _ _ _ _ r10
      have f3 : W10.cell? ⟨wr.heap.size, 3, none⟩ = some (.int .i64 1) := cell_of_row _ _ _ _ _ _ r10
      have f4 : W10.cell? ⟨wr.heap.size, 4, none⟩ = some (.int .i64 lo) := cell_of_row _ _ _ _ _ _ r10
      have f5 : W10.cell? ⟨wr.heap.size, 5, none⟩ = some (.int .i64 hi) := cell_of_row _ _ _ _ _ _ r10
      have HR10 := Lib.hid r10
      have HB10 := Lib.hid b10
      have HO10 := Lib.hid o10
      clear r10 b10 o10 hw1 hw2 hw3
      go_wp2_with fail
      refine (own_any s ad np sc (lo + x9) 1 lo hi W10).mono ?_
      rintro e w11 ⟨rfl, hb11⟩
      clear f0 f1 f2 f3 f4 f5
      have HB11 := Lib.hid (HB10.out.trans (hb11.mono HB10.out.size))
      have HO11 := Lib.hid (HO10.out.later hb11)
      have HR11 := Lib.hid ((hb11.block _ (lt_of_block HR10.out)).trans HR10.out)
      clear hb11 HB10 HO10 HR10
      go_wp2_with fail
      have hnet11 : Net s (.slice ad np sc) p w11 := HST.out.net HB11.out hs (by omega) hpo (by have := HO11.out; exact this)
      have hpt := part_any (drawn_one s p lo hi (lo + x9)) (ad := ad) (sn := np) (sc := sc) (lo + x9) 1 ⟨rfl, rfl, rfl, by omega, by omega, by omega, by omega, by omega, by omega⟩ 0 (by omega) (by omega) hs (by have := HNP.out; omega) HNP.out w11 hnet11
      rw [downOf_one] at hpt
      refine (show Calls Tryd.prog 39 #[.agg (spV s (.slice ad np sc) (lo + x9) 1 lo hi), .int .i64 0] w11 (fun e w' => e = .returned (.tuple #[.int .i64 (lo + x9), .int .i64 0]) ∧ Below w11.heap.size w11 w') from hpt).mono ?_
      rintro e w12 ⟨rfl, hb12⟩
      have HB12 := Lib.hid (HB11.out.trans (hb12.mono HB11.out.size))
      have hr12 := (hb12.block _ (lt_of_block HR11.out)).trans HR11.out
      have f2 : w12.cell? ⟨wr.heap.size, 2, none⟩ = some (.int .i64 (lo + x9)) := cell_of_row _ _ _ _ _ _ hr12
      clear hb12 hpt hnet11 hr12
      go_wp2_with fail
      refine (lives7_any _ (Nat.lt_of_lt_of_le HST.out.h0 HB12.out.size) (HST.out.hK.later HST.out.h0 HB12.out)).mono ?_
      rintro e w13 ⟨rfl, hb13⟩
      go_wp2_with fail
      go_ret
      exact ⟨rfl, HB12.out.trans (hb13.mono HB12.out.size)⟩
end Go.Proofs.YtfkpeabkcdhcfaaDoor
