/-
  Walk of SplitSums: each part is between the bounds, the sum of all is the total, and Before is the sum of the parts before.
-/
import Derived.Test.YtfkpeabkcdhcfaaDoorV6
import Derived.Test.YtfkpeabkcdhcfaaDoorT17
namespace Go.Proofs.YtfkpeabkcdhcfaaDoor
open Go.RowKit
set_option maxRecDepth 100000
theorem sumL_take (P : List Int) (k : Nat) : sumL (P.take (k + 1)) = sumL (P.take k) + P.getD k 0 := by
  induction P generalizing k with
  | nil => simp [sumL]
  | cons p P ih =>
    cases k with
    | zero => simp [sumL]
    | succ k =>
      have := ih k
      simp only [List.take_succ_cons, sumL, List.getD_cons_succ] at this ⊢
      omega
theorem sumL_bd (b c : Int) : ∀ (P : List Int), (∀ x ∈ P, b ≤ x ∧ x ≤ c) → b * P.length ≤ sumL P ∧ sumL P ≤ c * P.length
  | [], _ => by simp [sumL]
  | p :: P, h => by
    have h1 := sumL_bd b c P (fun x hx => h x (by simp [hx]))
    have h2 := h p (by simp)
    simp only [sumL, List.length_cons]
    rw [Int.natCast_add, Int.mul_add, Int.mul_add]
    omega
theorem before_val (seed : ByteArray) (l : List Int) (lo hi : Int) (N : Nat) (t : Int) (hok : NodeOk lo hi N t) (k : Nat) (hk : k ≤ N) : (if (k : Int) = (N : Int) then t else (downOf seed l lo hi (toF (k : Int)) 0 N t 0).2.2.2) = sumL ((partsOf seed l lo hi 0 N t).take k) := by
  split
  · have : k = N := by omega
    subst this
    rw [List.take_of_length_le (by rw [partsOf_len]; omega), (partsOf_sum seed l lo hi 0 k t hok).1]
  · rw [downOf_to seed l lo hi k 0 N t 0 (by omega) (by omega), Nat.sub_zero]
    simp
theorem part_val (seed : ByteArray) (l : List Int) (lo hi : Int) (N : Nat) (t : Int) (k : Nat) (hk : k < N) : (downOf seed l lo hi (toF (k : Int)) 0 N t 0).2.2.1 = (partsOf seed l lo hi 0 N t).getD k 0 := by
  rw [downOf_to seed l lo hi k 0 N t 0 (by omega) (by omega), Nat.sub_zero]
theorem getD_mem (P : List Int) (k : Nat) (h : k < P.length) : P.getD k 0 ∈ P := by
  rw [List.getD_eq_getElem?_getD, List.getElem?_eq_getElem h]; exact List.getElem_mem h
/-- what is asked of a great split -/
theorem great_sums (l : List Int) (k : Nat) (hk : k < qN l) (w : World) (h0 : 0 < w.heap.size) (hK : HoldK w) :
    ∃ b p : Int, 0 ≤ b ∧ b ≤ 68719476736 ∧ qLo l ≤ p ∧ p ≤ qHi l ∧
      (∀ W, Below w.heap.size w W → Calls Tryd.prog 51 #[.agg #[.string ⟨#[103]⟩, .slice none 0 0, .int .i64 (qTotal l), .int .i64 (qN l), .int .i64 (qLo l), .int .i64 (qHi l)], .int .i64 k] W fun e w' => e = .returned (.tuple #[.int .i64 b, .int .i64 0]) ∧ Below W.heap.size W w') ∧
      (∀ W, Below w.heap.size w W → Calls Tryd.prog 51 #[.agg #[.string ⟨#[103]⟩, .slice none 0 0, .int .i64 (qTotal l), .int .i64 (qN l), .int .i64 (qLo l), .int .i64 (qHi l)], .int .i64 ((k : Int) + 1)] W fun e w' => e = .returned (.tuple #[.int .i64 (b + p), .int .i64 0]) ∧ Below W.heap.size W w') ∧
      (∀ W, Below w.heap.size w W → Calls Tryd.prog 39 #[.agg #[.string ⟨#[103]⟩, .slice none 0 0, .int .i64 (qTotal l), .int .i64 (qN l), .int .i64 (qLo l), .int .i64 (qHi l)], .int .i64 k] W fun e w' => e = .returned (.tuple #[.int .i64 p, .int .i64 0]) ∧ Below W.heap.size W w') := by
  have hD := drawnG (qLo l) (qHi l) (by have := qLo_bd l; have := qHi_bd l; omega)
  have hI := qTotal_ok l
  have hN := qN_bd l
  have hlo := qLo_bd l
  have hhi := qHi_bd l
  have hnet : ∀ W, Below w.heap.size w W → Net sG (.slice none 0 0) [] W := fun W hb =>
    ⟨by decide, by simp, fun n hn => by simp at hn, Nat.lt_of_lt_of_le h0 hb.size, hK.later h0 hb, .inl ⟨rfl, rfl⟩⟩
  have hps := (partsOf_sum sG [] (qLo l) (qHi l) 0 (qN l) (qTotal l) hI.1).2
  have hlen := partsOf_len sG [] (qLo l) (qHi l) 0 (qN l) (qTotal l)
  have v0 := before_val sG [] (qLo l) (qHi l) (qN l) (qTotal l) hI.1 k (by omega)
  have v1 := before_val sG [] (qLo l) (qHi l) (qN l) (qTotal l) hI.1 (k + 1) (by omega)
  have v2 := part_val sG [] (qLo l) (qHi l) (qN l) (qTotal l) k hk
  have k0 := fun W hb => before_any hD (ad := none) (sn := 0) (sc := 0) (qTotal l) (qN l) hI k (by omega) (by omega) (by decide) (by omega) rfl W (hnet W hb)
  have k1 := fun W hb => before_any hD (ad := none) (sn := 0) (sc := 0) (qTotal l) (qN l) hI ((k + 1 : Nat) : Int) (by omega) (by omega) (by decide) (by omega) rfl W (hnet W hb)
  have k2 := fun W hb => part_any hD (ad := none) (sn := 0) (sc := 0) (qTotal l) (qN l) hI k (by omega) (by omega) (by decide) (by omega) rfl W (hnet W hb)
  rw [v0] at k0
  rw [v1, sumL_take] at k1
  rw [v2] at k2
  obtain ⟨A, hA⟩ : ∃ A, A = partsOf sG [] (qLo l) (qHi l) 0 (qN l) (qTotal l) := ⟨_, rfl⟩
  rw [← hA] at k0 k1 k2 hps hlen
  have hm := hps _ (getD_mem A k (by omega))
  have hb := sumL_bd 0 1048575 (A.take k) (fun x hx => by have := hps x (List.mem_of_mem_take hx); omega)
  rw [List.length_take] at hb
  refine ⟨sumL (A.take k), A.getD k 0, by omega, by omega, hm.1, hm.2, k0, ?_, k2⟩
  rw [← Int.natCast_succ]
  exact k1
set_option maxHeartbeats 4000000 in
theorem sums_any (v : Value) (l : List Int) (y : Int) (hy : I64 y) (w : World) (hst : Start7 v l w) : Calls Tryd.prog 12 #[v, .int .i64 y] w fun e w' => e = .returned (.bool true) ∧ Below w.heap.size w w' := by
  have hD := drawnM l (mLo l) (mHi l) (by have := mHi_bd l; omega)
  have hI := in12_root (mTotal_ok l) (mN_le l)
  have hpl0 := partsOf_len (mSeed l) (mPath l) (mLo l) (mHi l) 0 (mN l) (mTotal l)
  have hps := partsOf_sum (mSeed l) (mPath l) (mLo l) (mHi l) 0 (mN l) (mTotal l) (mTotal_ok l)
  have hbv := fun k hk => before_val (mSeed l) (mPath l) (mLo l) (mHi l) (mN l) (mTotal l) (mTotal_ok l) k hk
  have hpv := fun k hk => part_val (mSeed l) (mPath l) (mLo l) (mHi l) (mN l) (mTotal l) k hk
  have HST := Lib.hid hst
  have HY := Lib.hid hy
  have hmk := made7_any v l hst.hl hst.h64 w hst.hr hst.cap
  have hs := mSeed_size l
  have hN := mN_le l
  have hlo := mLo_bd l
  have hhi := mHi_bd l
  have hpl := mPath_len l
  have hpo := mPath_ok l
  obtain ⟨s, hse⟩ : ∃ s, s = mSeed l := ⟨_, rfl⟩
  obtain ⟨N, hNe⟩ : ∃ N, N = mN l := ⟨_, rfl⟩
  obtain ⟨lo, hloe⟩ : ∃ lo, lo = mLo l := ⟨_, rfl⟩
  obtain ⟨hi, hhie⟩ : ∃ hi, hi = mHi l := ⟨_, rfl⟩
  obtain ⟨p, hpe⟩ : ∃ p, p = mPath l := ⟨_, rfl⟩
  obtain ⟨tot, hte⟩ : ∃ tot, tot = mTotal l := ⟨_, rfl⟩
  rw [← hse, ← hNe, ← hloe, ← hhie, ← hpe, ← hte] at hmk
  rw [← hse] at hs
  rw [← hNe] at hN
  rw [← hloe] at hlo hhi
  rw [← hhie] at hhi
  rw [← hpe] at hpl hpo
  rw [← hse, ← hNe, ← hloe, ← hhie, ← hpe, ← hte] at hpl0 hps hbv hpv
  rw [← hNe, ← hloe, ← hhie, ← hte] at hI
  rw [← hse, ← hloe, ← hhie, ← hpe] at hD
  have HMK := Lib.hid hmk
  have HDD := Lib.hid hD
  have HI := Lib.hid hI
  have HPL := Lib.hid hpl0
  have HPS := Lib.hid hps
  have HBV := Lib.hid hbv
  have HPV := Lib.hid hpv
  clear hmk hst hse hNe hloe hhie hpe hte hD hI hpl0 hps hy hbv hpv
  unfold spV at HMK
  go_enter Tryd.func12, Tryd.ntmps12
  go_wp2_with fail
  refine HMK.out.mono ?_
  rintro e w1 ⟨v1, rfl, hown1, hb1⟩
  obtain ⟨ad, sc, rfl⟩ := hown1.form
  obtain ⟨np, hnp⟩ : ∃ np, np = p.length := ⟨_, rfl⟩
  rw [← hnp] at hown1 ⊢
  have HO1 := Lib.hid hown1
  have HB1 := Lib.hid hb1
  have HNP := Lib.hid hnp
  clear hown1 hb1 hnp HMK
  go_wp2_with fail
  have r0 : (w1.alloc (.cells #[.string s, .slice ad np sc, .int .i64 tot, .int .i64 N, .int .i64 lo, .int .i64 hi] 55)).heap[w1.heap.size]? = some (.cells #[.string s, .slice ad np sc, .int .i64 tot, .int .i64 N, .int .i64 lo, .int .i64 hi] 55 (0, 0)) := heap_alloc_new _ _
  have b2 : Below w1.heap.size w1 (w1.alloc (.cells #[.string s, .slice ad np sc, .int .i64 tot, .int .i64 N, .int .i64 lo, .int .i64 hi] 55)) := (Below.refl _ _).alloc (Nat.le_refl _) _
  refine (own_any s ad np sc tot N lo hi _).mono ?_
  rintro e w3 ⟨rfl, hb3⟩
  have HB3 := Lib.hid ((HB1.out.trans (b2.mono HB1.out.size)).trans (hb3.mono (by have := HB1.out.size; simp; omega)))
  have HO3 := Lib.hid ((HO1.out.later b2).later hb3)
  have HR3 := Lib.hid ((hb3.block _ (lt_of_block r0)).trans r0)
  clear hb3 r0 b2 HO1
  go_wp2_with fail
  have hnet3 : Net s (.slice ad np sc) p w3 := HST.out.net HB3.out hs (by omega) hpo (by have := HO3.out; exact this)
  refine (alls_any HDD.out tot N HI.out (by omega) hs (by have := HNP.out; omega) HNP.out w3 hnet3).mono ?_
  rintro e w4 ⟨v4, rfl, hown4, hb4⟩
  have HB4 := Lib.hid (HB3.out.trans (hb4.mono HB3.out.size))
  have HO4 := Lib.hid (HO3.out.later hb4)
  have HR4 := Lib.hid ((hb4.block _ (lt_of_block HR3.out)).trans HR3.out)
  obtain ⟨A, hA⟩ : ∃ A, A = partsOf s p lo hi 0 N tot := ⟨_, rfl⟩
  rw [← hA] at HPL HPS HBV HPV hown4
  obtain ⟨ad4, sc4, rfl⟩ := hown4.form
  rw [HPL.out] at hown4 ⊢
  have HA4 := Lib.hid hown4
  clear hb4 hown4 hnet3 HB3 HO3 HR3 hA
  have c3 : w4.cell? ⟨w1.heap.size, 3, none⟩ = some (.int .i64 N) := cell_of_row _ _ _ _ _ _ HR4.out
  go_wp2_with fail
  clear c3
  go_loopw [8, 9] (fun s8 c wr => ∃ k : Nat, k ≤ N + 1 ∧ c = .int .i64 k ∧ s8 = .int .i64 (sumL (A.take k)) ∧ Below w4.heap.size w4 wr) (fun _ c _ => N + 1 - (intOf c).toNat)
  case atStart => exact ⟨0, by omega, rfl, by simp [sumL], Below.refl _ _⟩
  case round =>
    obtain ⟨k, hk, rfl, rfl, hbr⟩ := hrel
    have HBR := Lib.hid hbr
    clear hbr
    have hnetr : Net s (.slice ad np sc) p wr := HST.out.net (HB4.out.trans (HBR.out.mono HB4.out.size)) hs (by omega) hpo (by have := HO4.out.later HBR.out; exact this)
    have hrr := (HBR.out.block _ (lt_of_block HR4.out)).trans HR4.out
    have HNR := Lib.hid hnetr
    have HRR := Lib.hid hrr
    clear hnetr hrr
    by_cases hle : k ≤ N
    · have hleI : (k : Int) ≤ (N : Int) := by omega
      have hbe := before_any HDD.out (ad := ad) (sn := np) (sc := sc) tot N HI.out k (by omega) (by omega) hs (by have := HNP.out; omega) HNP.out
      rw [HBV.out k hle] at hbe
      have hbs := sumL_bd (-2) 15 (A.take k) (fun x hx => by have := HPS.out.2 x (List.mem_of_mem_take hx); omega)
      have hlt0 : (A.take k).length ≤ 12 := by rw [List.length_take]; omega
      have hst := sumL_take A k
      have hgm : k < N → A.getD k 0 ∈ A := fun h => getD_mem A k (by rw [HPL.out]; exact h)
      obtain ⟨x, hx⟩ : ∃ x, x = sumL (A.take k) := ⟨_, rfl⟩
      have hxb : -24 ≤ x ∧ x ≤ 180 := by rw [hx]; omega
      rw [← hx] at hbe hst ⊢
      have HBE := Lib.hid hbe
      have HSX := Lib.hid hst
      have HKX := Lib.hid hx
      have HGM := Lib.hid hgm
      clear hbe hbs hlt0 hst hgm hx
      have c0 : wr.cell? ⟨w1.heap.size, 0, none⟩ = some (.string s) := cell_of_row _ _ _ _ _ _ HRR.out
      have c1 : wr.cell? ⟨w1.heap.size, 1, none⟩ = some (.slice ad np sc) := cell_of_row _ _ _ _ _ _ HRR.out
      have c2 : wr.cell? ⟨w1.heap.size, 2, none⟩ = some (.int .i64 tot) := cell_of_row _ _ _ _ _ _ HRR.out
      have c3 : wr.cell? ⟨w1.heap.size, 3, none⟩ = some (.int .i64 N) := cell_of_row _ _ _ _ _ _ HRR.out
      have c4 : wr.cell? ⟨w1.heap.size, 4, none⟩ = some (.int .i64 lo) := cell_of_row _ _ _ _ _ _ HRR.out
      have c5 : wr.cell? ⟨w1.heap.size, 5, none⟩ = some (.int .i64 hi) := cell_of_row _ _ _ _ _ _ HRR.out
      go_wp2_with fail
      clear c0 c1 c2 c3 c4 c5
      refine (own_any s ad np sc tot N lo hi wr).mono ?_
      rintro e w5 ⟨rfl, hb5⟩
      have HB5 := Lib.hid (HBR.out.trans (hb5.mono HBR.out.size))
      have HR5 := Lib.hid ((hb5.block _ (lt_of_block HRR.out)).trans HRR.out)
      have HN5 := Lib.hid (show Net s (.slice ad np sc) p w5 from HST.out.net (HB4.out.trans (HB5.out.mono HB4.out.size)) hs (by omega) hpo (by have := HO4.out.later HB5.out; exact this))
      clear hb5 HNR HRR
      go_wp2_with fail
      refine (HBE.out w5 HN5.out).mono ?_
      rintro e w6 ⟨rfl, hb6⟩
      have HB6 := Lib.hid (HB5.out.trans (hb6.mono HB5.out.size))
      have HR6 := Lib.hid ((hb6.block _ (lt_of_block HR5.out)).trans HR5.out)
      clear hb6 HB5 HR5 HN5
      by_cases hlt : k < N
      · have hltI : (k : Int) < (N : Int) := by omega
        have c0 : w6.cell? ⟨w1.heap.size, 0, none⟩ = some (.string s) := cell_of_row _ _ _ _ _ _ HR6.out
        have c1 : w6.cell? ⟨w1.heap.size, 1, none⟩ = some (.slice ad np sc) := cell_of_row _ _ _ _ _ _ HR6.out
        have c2 : w6.cell? ⟨w1.heap.size, 2, none⟩ = some (.int .i64 tot) := cell_of_row _ _ _ _ _ _ HR6.out
        have c3 : w6.cell? ⟨w1.heap.size, 3, none⟩ = some (.int .i64 N) := cell_of_row _ _ _ _ _ _ HR6.out
        have c4 : w6.cell? ⟨w1.heap.size, 4, none⟩ = some (.int .i64 lo) := cell_of_row _ _ _ _ _ _ HR6.out
        have c5 : w6.cell? ⟨w1.heap.size, 5, none⟩ = some (.int .i64 hi) := cell_of_row _ _ _ _ _ _ HR6.out
        go_wp2_with fail
        clear c0 c1 c2 c3 c4 c5
        refine (own_any s ad np sc tot N lo hi w6).mono ?_
        rintro e w7 ⟨rfl, hb7⟩
        have HB7 := Lib.hid (HB6.out.trans (hb7.mono HB6.out.size))
        have HR7 := Lib.hid ((hb7.block _ (lt_of_block HR6.out)).trans HR6.out)
        have HN7 := Lib.hid (show Net s (.slice ad np sc) p w7 from HST.out.net (HB4.out.trans (HB7.out.mono HB4.out.size)) hs (by omega) hpo (by have := HO4.out.later HB7.out; exact this))
        clear hb7 HB6 HR6
        have hpa := part_any HDD.out (ad := ad) (sn := np) (sc := sc) tot N HI.out k (by omega) (by omega) hs (by have := HNP.out; omega) HNP.out w7 HN7.out
        rw [HPV.out k hlt] at hpa
        go_wp2_with fail
        refine hpa.mono ?_
        rintro e w8 ⟨rfl, hb8⟩
        have HB8 := Lib.hid (HB7.out.trans (hb8.mono HB7.out.size))
        have HR8 := Lib.hid ((hb8.block _ (lt_of_block HR7.out)).trans HR7.out)
        clear hb8 HB7 HR7 HN7 hpa
        have hkA : k < A.length := by rw [HPL.out]; exact hlt
        obtain ⟨g5, cp5, e5⟩ := HA4.out.shape (by omega)
        simp only [Value.slice.injEq] at e5
        obtain ⟨rfl, -, rfl⟩ := e5
        have ca := (HA4.out.later HB8.out).cell k hkA
        have hyb := HPS.out.2 _ (HGM.out hlt)
        have hsx := HSX.out
        obtain ⟨z, hz⟩ : ∃ z, z = A.getD k 0 := ⟨_, rfl⟩
        rw [← hz] at ca hyb hsx ⊢
        have c4 : w8.cell? ⟨w1.heap.size, 4, none⟩ = some (.int .i64 lo) := cell_of_row _ _ _ _ _ _ HR8.out
        have c5 : w8.cell? ⟨w1.heap.size, 5, none⟩ = some (.int .i64 hi) := cell_of_row _ _ _ _ _ _ HR8.out
        have hwx : IntKind.i64.wrap (x + z) = x + z := by simp only [IntKind.wrap_i64]; omega
        have hwx' : wrap64 (x + z) = x + z := by unfold wrap64; omega
        have hz1 : ¬ z < lo := by omega
        have hz2 : ¬ hi < z := by omega
        have HZ := Lib.hid hsx
        clear hsx hkA hyb hz
        go_wp2_with fail
        try (go_quiet (fail)
             go_wp2_with fail)
        go_roundw
        case rel => exact ⟨k + 1, by omega, by go_num, by rw [HZ.out], HB8.out⟩
        case measure => simp [intOf]; try omega
      · obtain rfl : k = N := by omega
        go_wp2_with fail
        go_roundw
        case rel => exact ⟨k + 1, by omega, by go_num, by rw [List.take_of_length_le (by rw [HPL.out]; omega), HKX.out, List.take_of_length_le (by rw [HPL.out]; omega)], HB6.out⟩
        case measure => simp [intOf]; try omega
    · obtain rfl : k = N + 1 := by omega
      have hnle : ¬ (((N + 1 : Nat) : Int) ≤ (N : Int)) := by omega
      rw [List.take_of_length_le (by rw [HPL.out]; omega), HPS.out.1]
      have HBW := Lib.hid (HB4.out.trans (HBR.out.mono HB4.out.size))
      have h0r : 0 < wr.heap.size := Nat.lt_of_lt_of_le HST.out.h0 HBW.out.size
      have hKr : HoldK wr := HST.out.hK.later HST.out.h0 HBW.out
      have hqa := aroundI_lt y (qN l) (by have := qN_bd l; omega)
      have har := around_any y (qN l) HY.out (by have := qN_bd l; constructor <;> omega)
      obtain ⟨q, hq⟩ : ∃ q : Nat, (q : Int) = aroundI y (qN l) := ⟨(aroundI y (qN l)).toNat, by omega⟩
      obtain ⟨b, z, gb0, gb1, gz0, gz1, g51, g51b, g39⟩ := great_sums l q (by omega) wr h0r hKr
      rw [← hq] at har
      have hgr := great_any v l HST.out.hl HST.out.h64 wr (HST.out.hr.later HBW.out)
      have hqt := qTotal_lt l
      have hqlo := qLo_bd l
      have hqhi := qHi_bd l
      have hqn := (qN_bd l).2.1
      obtain ⟨N2, hN2⟩ : ∃ N2, N2 = qN l := ⟨_, rfl⟩
      obtain ⟨lo2, hlo2⟩ : ∃ lo2, lo2 = qLo l := ⟨_, rfl⟩
      obtain ⟨hi2, hhi2⟩ : ∃ hi2, hi2 = qHi l := ⟨_, rfl⟩
      obtain ⟨t2, ht2⟩ : ∃ t2, t2 = qTotal l := ⟨_, rfl⟩
      rw [← hN2] at har hgr hqa hqn g51 g51b g39 hq
      rw [← hlo2] at hgr gz0 hqlo g51 g51b g39
      rw [← hhi2] at hgr gz1 hqhi g51 g51b g39
      rw [← ht2] at hgr hqt g51 g51b g39
      have hqb : q ≤ 65536 := by omega
      have HGR := Lib.hid (show Calls Tryd.prog 56 #[v] wr fun e w' => e = .returned (.agg #[.string ⟨#[103]⟩, .slice none 0 0, .int .i64 t2, .int .i64 N2, .int .i64 lo2, .int .i64 hi2]) ∧ Below wr.heap.size wr w' from hgr)
      have HAR := Lib.hid har
      have H0 := Lib.hid g51
      have H1 := Lib.hid g51b
      have H2 := Lib.hid g39
      have hwq : IntKind.i64.wrap ((q : Int) + 1) = (q : Int) + 1 := by simp only [IntKind.wrap_i64]; omega
      have hwq' : wrap64 ((q : Int) + 1) = (q : Int) + 1 := by unfold wrap64; omega
      have hwb : IntKind.i64.wrap (b + z) = b + z := by simp only [IntKind.wrap_i64]; omega
      have hwb' : wrap64 (b + z) = b + z := by unfold wrap64; omega
      clear hN2 hlo2 hhi2 ht2 hq hqa har hgr g51 g51b g39 hqt hqn h0r hKr hqlo hqhi gb0 gb1
      have hz1 : ¬ z < lo2 := by omega
      have hz2 : ¬ hi2 < z := by omega
      go_wp2_with fail
      refine HGR.out.mono ?_
      rintro e w5 ⟨rfl, hb5⟩
      have HB5 := Lib.hid hb5
      clear hb5 HGR
      go_wp2_with fail
      obtain ⟨W6, hW6⟩ : ∃ W6, W6 = w5.alloc (.cells #[.string ⟨#[103]⟩, .slice none 0 0, .int .i64 t2, .int .i64 N2, .int .i64 lo2, .int .i64 hi2] 43) := ⟨_, rfl⟩
      have r6 : W6.heap[w5.heap.size]? = some (.cells #[.string ⟨#[103]⟩, .slice none 0 0, .int .i64 t2, .int .i64 N2, .int .i64 lo2, .int .i64 hi2] 43 (0, 0)) := by rw [hW6]; exact heap_alloc_new _ _
      have b6 : Below wr.heap.size wr W6 := by rw [hW6]; exact HB5.out.alloc HB5.out.size _
      rw [← hW6]
      clear hW6
      have HB6 := Lib.hid b6
      have HR6 := Lib.hid r6
      have HS6 := Lib.hid ((b6.block _ (lt_of_block HRR.out)).trans HRR.out)
      have HLT := Lib.hid (lt_of_block r6)
      clear b6 r6
      have d0 : W6.cell? ⟨w5.heap.size, 0, none⟩ = some (.string ⟨#[103]⟩) := cell_of_row _ _ _ _ _ _ HR6.out
      have d1 : W6.cell? ⟨w5.heap.size, 1, none⟩ = some (.slice none 0 0) := cell_of_row _ _ _ _ _ _ HR6.out
      have d2 : W6.cell? ⟨w5.heap.size, 2, none⟩ = some (.int .i64 t2) := cell_of_row _ _ _ _ _ _ HR6.out
      have d3 : W6.cell? ⟨w5.heap.size, 3, none⟩ = some (.int .i64 N2) := cell_of_row _ _ _ _ _ _ HR6.out
      have d4 : W6.cell? ⟨w5.heap.size, 4, none⟩ = some (.int .i64 lo2) := cell_of_row _ _ _ _ _ _ HR6.out
      have d5 : W6.cell? ⟨w5.heap.size, 5, none⟩ = some (.int .i64 hi2) := cell_of_row _ _ _ _ _ _ HR6.out
      refine (HAR.out W6).mono ?_
      rintro e w' ⟨rfl, rfl⟩
      go_wp2_with fail
      clear d0 d1 d2 d3 d4 d5
      refine (H0.out W6 HB6.out).mono ?_
      rintro e w7 ⟨rfl, hb7⟩
      have HB7 := Lib.hid (HB6.out.trans (hb7.mono HB6.out.size))
      have HR7 := Lib.hid ((hb7.block _ (lt_of_block HR6.out)).trans HR6.out)
      have HS7 := Lib.hid ((hb7.block _ (lt_of_block HS6.out)).trans HS6.out)
      clear hb7 HB6 HR6 HS6 H0
      have d0 : w7.cell? ⟨w5.heap.size, 0, none⟩ = some (.string ⟨#[103]⟩) := cell_of_row _ _ _ _ _ _ HR7.out
      have d1 : w7.cell? ⟨w5.heap.size, 1, none⟩ = some (.slice none 0 0) := cell_of_row _ _ _ _ _ _ HR7.out
      have d2 : w7.cell? ⟨w5.heap.size, 2, none⟩ = some (.int .i64 t2) := cell_of_row _ _ _ _ _ _ HR7.out
      have d3 : w7.cell? ⟨w5.heap.size, 3, none⟩ = some (.int .i64 N2) := cell_of_row _ _ _ _ _ _ HR7.out
      have d4 : w7.cell? ⟨w5.heap.size, 4, none⟩ = some (.int .i64 lo2) := cell_of_row _ _ _ _ _ _ HR7.out
      have d5 : w7.cell? ⟨w5.heap.size, 5, none⟩ = some (.int .i64 hi2) := cell_of_row _ _ _ _ _ _ HR7.out
      go_wp2_with fail
      clear d0 d1 d2 d3 d4 d5
      refine (H1.out w7 HB7.out).mono ?_
      rintro e w8 ⟨rfl, hb8⟩
      have HB8 := Lib.hid (HB7.out.trans (hb8.mono HB7.out.size))
      have HR8 := Lib.hid ((hb8.block _ (lt_of_block HR7.out)).trans HR7.out)
      have HS8 := Lib.hid ((hb8.block _ (lt_of_block HS7.out)).trans HS7.out)
      clear hb8 HB7 HR7 HS7 H1
      have d0 : w8.cell? ⟨w5.heap.size, 0, none⟩ = some (.string ⟨#[103]⟩) := cell_of_row _ _ _ _ _ _ HR8.out
      have d1 : w8.cell? ⟨w5.heap.size, 1, none⟩ = some (.slice none 0 0) := cell_of_row _ _ _ _ _ _ HR8.out
      have d2 : w8.cell? ⟨w5.heap.size, 2, none⟩ = some (.int .i64 t2) := cell_of_row _ _ _ _ _ _ HR8.out
      have d3 : w8.cell? ⟨w5.heap.size, 3, none⟩ = some (.int .i64 N2) := cell_of_row _ _ _ _ _ _ HR8.out
      have d4 : w8.cell? ⟨w5.heap.size, 4, none⟩ = some (.int .i64 lo2) := cell_of_row _ _ _ _ _ _ HR8.out
      have d5 : w8.cell? ⟨w5.heap.size, 5, none⟩ = some (.int .i64 hi2) := cell_of_row _ _ _ _ _ _ HR8.out
      go_wp2_with fail
      clear d0 d1 d2 d3 d4 d5
      refine (H2.out w8 HB8.out).mono ?_
      rintro e w9 ⟨rfl, hb9⟩
      have HB9 := Lib.hid (HB8.out.trans (hb9.mono HB8.out.size))
      have HR9 := Lib.hid ((hb9.block _ (lt_of_block HR8.out)).trans HR8.out)
      have HS9 := Lib.hid ((hb9.block _ (lt_of_block HS8.out)).trans HS8.out)
      clear hb9 HB8 HR8 HS8 H2
      have d4 : w9.cell? ⟨w5.heap.size, 4, none⟩ = some (.int .i64 lo2) := cell_of_row _ _ _ _ _ _ HR9.out
      have d5 : w9.cell? ⟨w5.heap.size, 5, none⟩ = some (.int .i64 hi2) := cell_of_row _ _ _ _ _ _ HR9.out
      have c2 : w9.cell? ⟨w1.heap.size, 2, none⟩ = some (.int .i64 tot) := cell_of_row _ _ _ _ _ _ HS9.out
      have HBX := Lib.hid (HB4.out.trans ((HBR.out.trans (HB9.out.mono HBR.out.size)).mono HB4.out.size))
      have hlo2 : lo2 ≤ z := gz0
      have hhi2 : z ≤ hi2 := gz1
      go_wp2_with fail
      refine (lives7_any _ (Nat.lt_of_lt_of_le HST.out.h0 HBX.out.size) (HST.out.hK.later HST.out.h0 HBX.out)).mono ?_
      rintro e w13 ⟨rfl, hb13⟩
      go_wp2_with fail
      go_ret
      exact ⟨rfl, HBX.out.trans (hb13.mono HBX.out.size)⟩
end Go.Proofs.YtfkpeabkcdhcfaaDoor
