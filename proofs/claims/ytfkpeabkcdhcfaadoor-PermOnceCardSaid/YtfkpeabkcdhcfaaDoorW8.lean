/-
  Walk of PermOnce.
-/
import Derived.Test.YtfkpeabkcdhcfaaDoorW5
namespace Go.Proofs.YtfkpeabkcdhcfaaDoor
open Go.RowKit
set_option maxRecDepth 100000
/-- y is among the first i places -/
def hit (P : Nat → Nat) (i y : Nat) : Bool := (List.range i).any fun j => P j == y
def metA (P : Nat → Nat) (i k : Nat) : Array Value := ((List.range k).map fun y => Value.bool (hit P i y)).toArray
theorem metA_size (P : Nat → Nat) (i k : Nat) : (metA P i k).size = k := by simp [metA]
theorem metA_get (P : Nat → Nat) (i k y : Nat) (h : y < k) : (metA P i k)[y]? = some (.bool (hit P i y)) := by simp [metA, h]
theorem hit_no (P : Nat → Nat) (i y : Nat) (h : ∀ j, j < i → P j ≠ y) : hit P i y = false := by
  simp only [hit, List.any_eq_false, List.mem_range, beq_iff_eq]
  exact h
theorem hit_succ (P : Nat → Nat) (i y : Nat) : hit P (i + 1) y = (hit P i y || (P i == y)) := by simp [hit, List.range_succ]
theorem metA_step (P : Nat → Nat) (i k : Nat) (h : P i < k) : (metA P i k).setIfInBounds (P i) (.bool true) = metA P (i + 1) k := by
  apply Array.ext_getElem?
  intro y
  by_cases e : y = P i
  · subst e
    rw [Array.getElem?_setIfInBounds_self_of_lt (by rw [metA_size]; exact h), metA_get _ _ _ _ h, hit_succ]
    simp
  · rw [Array.getElem?_setIfInBounds_ne (Ne.symm e)]
    by_cases hy : y < k
    · rw [metA_get _ _ _ _ hy, metA_get _ _ _ _ hy, hit_succ]
      have : (P i == y) = false := by simp; omega
      rw [this]; simp
    · rw [Array.getElem?_eq_none (by rw [metA_size]; omega), Array.getElem?_eq_none (by rw [metA_size]; omega)]
theorem infoBool : (Tryd.prog.info? 4).map (fun i => (i.zero, i.size, i.bytes)) = some (some (.bool false), 1, 1) := by kernel_rfl
theorem met_run (P : Nat → Nat) (k : Nat) (hk : k ≤ 1000) : ∀ W : World, (Instr.makeSlice 49 (.int .i64 (k : Int)) (.int .i64 (k : Int))).run Tryd.prog W = .ok (.slice (some ⟨W.heap.size, 0, none⟩) k k) (W.alloc (.cells (metA P 0 k) 4)) := by
  obtain ⟨i0, hi, hz0, hz1, hz2⟩ := info_parts infoBool
  intro W
  have h := run_makeSlice (P := Tryd.prog) W 49 4 i0 (.bool false) Tryd.underlying49 hi hz0 .i64 .i64 k k (by omega) (by omega) (by rw [hz1]; simp; omega) (by rw [hz2]; omega) (by omega)
  have e : madeCells (Value.bool false).cells ((k : Int).toNat * i0.size) = metA P 0 k := by
    rw [hz1]
    apply Array.ext_getElem?
    intro y
    by_cases hy : y < k
    · rw [metA_get _ _ _ _ hy]
      simp [madeCells, hit, Value.cells, hy, Nat.mod_one]
    · rw [Array.getElem?_eq_none (by rw [size_madeCells]; simp; omega), Array.getElem?_eq_none (by rw [metA_size]; omega)]
  rw [e] at h
  simpa using h
set_option maxHeartbeats 4000000 in
theorem once_any (seed : ByteArray) (hs : seed.size ≤ maxLen) (v : Value) (l : List Int) (n : Int) (hn : I64 n) (w : World) (hst : Start v l w) :
    Calls Tryd.prog 8 #[.string seed, v, .int .i64 n] w fun e w' => e = .returned (.bool true) ∧ Below w.heap.size w w' := by
  have hsd := seed_any seed hs
  obtain ⟨s, hse, hs12⟩ := cutS_lt seed
  rw [← hse] at hsd
  clear hse
  obtain ⟨k, hk, hak⟩ := around_num n 200 hn (by omega) (by omega) 200 rfl
  have HSD := Lib.hid hsd
  have HST := Lib.hid hst
  have HAK := Lib.hid hak
  clear hsd hst hak hn
  go_enter Tryd.func8, Tryd.ntmps8
  go_wp2_with fail
  refine (HSD.out _).mono ?_
  rintro e w' ⟨rfl, rfl⟩
  go_wp2_with fail
  refine (path_any v l HST.out.hl HST.out.h64 w HST.out.hr).mono ?_
  rintro e w1 ⟨v1, rfl, hown1, hb1⟩
  have hpl := pathOf_len l
  have hp64 := pathOf_ok l
  obtain ⟨p, hp⟩ : ∃ p, p = pathOf l := ⟨_, rfl⟩
  rw [← hp] at hown1 hpl hp64
  clear hp
  obtain ⟨ad, sc, rfl⟩ := hown1.form
  have hN1 := HST.out.net hb1 hs12 hpl hp64 hown1
  have HN1 := Lib.hid hN1
  have HB1 := Lib.hid hb1
  clear hN1 hb1 hown1 hp64
  obtain ⟨np, hnp⟩ : ∃ np, np = p.length := ⟨_, rfl⟩
  rw [← hnp] at HN1 hpl ⊢
  clear hnp
  go_wp2_with fail
  refine (HAK.out _).mono ?_
  rintro e w' ⟨rfl, rfl⟩
  clear HAK
  go_wp2_with fail
  refine (all_ok s ad np sc p k (by omega) (by omega) (by omega) _ HN1.out).mono ?_
  rintro e w2 ⟨g, rfl, hown2, hb2⟩
  have HN2 := Lib.hid (HN1.out.later hb2)
  have HB2 := Lib.hid (HB1.out.trans (hb2.mono HB1.out.size))
  have HO2 := Lib.hid hown2
  clear hb2 hown2 HN1 HB1
  obtain ⟨P, hP⟩ : ∃ P, P = placeN s p k := ⟨_, rfl⟩
  have hPlt : ∀ i, i < k → P i < k := fun i hi => by rw [hP]; exact placeN_lt s p (by omega) hi
  have hPinj : ∀ i j, i < k → j < k → P i = P j → i = j := fun i j hi hj h => by rw [hP] at h; exact placeN_inj s p (by omega) hi hj h
  have hBk : ∀ i W, i < k → Net s (.slice ad np sc) p W → Calls Tryd.prog 34 #[.string s, .slice ad np sc, .int .i64 k, .int .i64 (P i : Nat)] W fun e w' => e = .returned (.tuple #[.int .i64 i, .int .i64 0]) ∧ Below W.heap.size W w' := fun i W hi hN => by
    have h := back_ok s ad np sc p k (P i) (by omega) (by omega) (by omega) (hPlt i hi) W hN
    rw [hP, back_placeN s p (by omega) hi] at h
    rw [hP]
    exact h
  have hAt : ∀ i W, i < k → Net s (.slice ad np sc) p W → Calls Tryd.prog 32 #[.string s, .slice ad np sc, .int .i64 k, .int .i64 i] W fun e w' => e = .returned (.tuple #[.int .i64 (P i : Nat), .int .i64 0]) ∧ Below W.heap.size W w' := fun i W hi hN => by
    have h := at_ok s ad np sc p k i (by omega) (by omega) (by omega) hi W hN
    rw [hP]
    exact h
  have hcell : ∀ i, i < k → w2.cell? ⟨g, i, none⟩ = some (.int .i64 (P i : Nat)) := fun i hi => by rw [hP]; exact HO2.out.at i hi
  have hg2 := lt_of_own HO2.out
  have hmk := met_run P k (by omega)
  have HP1 := Lib.hid hPlt
  have HP2 := Lib.hid hPinj
  have HBK := Lib.hid hBk
  have HAT := Lib.hid hAt
  have HCELL := Lib.hid hcell
  clear hPlt hPinj hBk hAt hcell hP HO2
  go_wp2_with fail
  clear hmk
  go_loopw [13] (fun c wr => ∃ i : Nat, i ≤ k ∧ c = .int .i64 i ∧ Below w2.heap.size w2 wr ∧ wr.heap[w2.heap.size]? = some (.cells (metA P i k) 4 (0, 0))) (fun c _ => k - (intOf c).toNat)
  case atStart => exact ⟨0, by omega, rfl, (Below.refl _ _).alloc (Nat.le_refl _) _, heap_alloc_new _ _⟩
  case round =>
    obtain ⟨i, hi, rfl, hb, hrow⟩ := hrel
    by_cases hlt : i < k
    · have hAk := HP1.out i hlt
      have ca := (hb.cell (p := ⟨g, i, none⟩) hg2).trans (HCELL.out i hlt)
      have cm : wr.cell? ⟨w2.heap.size, P i, none⟩ = some (.bool false) := by
        rw [cell_of_row _ _ _ _ _ _ hrow, metA_get _ _ _ _ hAk, hit_no P i (P i) (fun j hj h => by have := HP2.out j i (by omega) hlt h; omega)]
      have cf : wr.frozen? ⟨w2.heap.size, P i, none⟩ = false := frozen_of_row _ _ _ _ _ hrow
      have hbk := HBK.out i
      have hat := HAT.out i
      have hst2 : Below w2.heap.size w2 (wr.setCell ⟨w2.heap.size, P i, none⟩ (.bool true)) := hb.setCell (p := ⟨w2.heap.size, P i, none⟩) (Nat.le_refl _) _
      have hrow2 : (wr.setCell ⟨w2.heap.size, P i, none⟩ (.bool true)).heap[w2.heap.size]? = some (.cells (metA P (i + 1) k) 4 (0, 0)) := by
        rw [heap_setCell_same _ _ _ _ _ _ hrow, metA_step P i k hAk]
      have ca2 : (wr.setCell ⟨w2.heap.size, P i, none⟩ (.bool true)).cell? ⟨g, i, none⟩ = some (.int .i64 (P i : Nat)) := (hst2.cell (p := ⟨g, i, none⟩) hg2).trans (HCELL.out i hlt)
      have hgne : ¬ g = w2.heap.size := by omega
      have hgne' : ¬ w2.heap.size = g := by omega
      obtain ⟨A, hA⟩ : ∃ A, A = P i := ⟨_, rfl⟩
      rw [← hA] at hAk ca cm cf hbk hat hst2 hrow2 ca2
      have HBK1 := Lib.hid hbk
      have HAT1 := Lib.hid hat
      have HST2 := Lib.hid hst2
      have HROW2 := Lib.hid hrow2
      have HB := Lib.hid hb
      have HA := Lib.hid hA
      clear hbk hat hst2 hrow2 hb hrow hA
      go_wp2_with fail
      refine (HBK1.out _ hlt (HN2.out.later HST2.out)).mono ?_
      rintro e w5 ⟨rfl, hb5⟩
      have HB5 := Lib.hid (HST2.out.trans (hb5.mono HST2.out.size))
      have HROW5 := Lib.hid ((hb5.block _ (lt_of_block HROW2.out)).trans HROW2.out)
      clear hb5 ca cm cf ca2
      go_wp2_with fail
      refine (HAT1.out _ hlt (HN2.out.later HB5.out)).mono ?_
      rintro e w6 ⟨rfl, hb6⟩
      have HB6 := Lib.hid (HB5.out.trans (hb6.mono HB5.out.size))
      have HROW6 := Lib.hid ((hb6.block _ (lt_of_block HROW5.out)).trans HROW5.out)
      clear hb6
      have ca6 := (HB6.out.cell (p := ⟨g, i, none⟩) hg2).trans (HCELL.out i hlt)
      rw [← HA.out] at ca6
      go_wp2_with fail
      go_roundw
      case rel => exact ⟨i + 1, by omega, by go_num, HB6.out, HROW6.out⟩
      case measure => simp [intOf]; omega
    · obtain rfl : i = k := by omega
      have HB := Lib.hid hb
      clear hb hrow
      go_wp2_with fail
      refine (lives_any _ (Nat.lt_of_lt_of_le HN2.out.h0 HB.out.size) (HN2.out.hK.later HN2.out.h0 HB.out)).mono ?_
      rintro e w9 ⟨rfl, hb9⟩
      go_wp2_with fail
      go_ret
      exact ⟨rfl, (HB2.out.trans (HB.out.mono HB2.out.size)).trans (hb9.mono (by have := HB2.out.size; have := HB.out.size; omega))⟩
end Go.Proofs.YtfkpeabkcdhcfaaDoor
