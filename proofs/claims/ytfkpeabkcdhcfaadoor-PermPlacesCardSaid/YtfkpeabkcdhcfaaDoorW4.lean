/-
  Walk of PermDraws.
-/
import Derived.Test.YtfkpeabkcdhcfaaDoorL1
namespace Go.Proofs.YtfkpeabkcdhcfaaDoor
open Go.RowKit
set_option maxRecDepth 100000
/-- what a law knows of its start: the world is not empty, holds the constants, and shows the list -/
structure Start (v : Value) (l : List Int) (w : World) : Prop where
  h0 : 0 < w.heap.size
  hK : HoldK w
  hr : ReadI v l w
  hl : l.length ≤ maxLen
  h64 : Int64s l
theorem Start.net {v0 : Value} {l0 : List Int} {w w1 : World} (h : Start v0 l0 w) (hb : Below w.heap.size w w1) {s : ByteArray} (hs : s.size ≤ 12) {base : Nat} {v : Value} {l : List Int} (hl : l.length ≤ 4) (h64 : Ok64 l) (hown : OwnI base v l w1) : Net s v l w1 :=
  ⟨by omega, by omega, h64, Nat.lt_of_lt_of_le h.h0 hb.size, h.hK.later h.h0 hb, hown.read⟩
theorem cutS_lt (s : ByteArray) : ∃ r, r = (if 12 < s.size then s.extract 0 12 else s) ∧ r.size ≤ 12 := ⟨_, rfl, cut12 s⟩
theorem rnd_word (s : ByteArray) (p : List Int) (j R : Nat) : rndN s p 2 j R = wordOf s p (65536 * (j : Int) + (R : Int)) % 2 := rfl
theorem word_at {s : ByteArray} {v : Value} {p : List Int} {w : World} (h : Net s v p w) (j R : Nat) (hj : j < 4) (hR : R < 65536) :
    Calls Tryd.prog 30 #[.string s, v, .int .i64 (65536 * (j : Int) + (R : Int))] w fun e w' => e = .returned (.int .i64 (wordOf s p (65536 * (j : Int) + (R : Int)) : Nat)) ∧ Below w.heap.size w w' := by
  have := word_net h (65536 * j + R) (by omega)
  rw [show ((65536 * j + R : Nat) : Int) = 65536 * (j : Int) + (R : Int) by omega] at this
  exact this
set_option maxHeartbeats 2000000 in
theorem draws_any (seed : ByteArray) (hs : seed.size ≤ maxLen) (v : Value) (l : List Int) (w : World) (hst : Start v l w) :
    Calls Tryd.prog 4 #[.string seed, v] w fun e w' => e = .returned (.bool true) ∧ Below w.heap.size w w' := by
  have hsd := seed_any seed hs
  obtain ⟨s, hse, hs12⟩ := cutS_lt seed
  rw [← hse] at hsd
  clear hse
  have HSD := Lib.hid hsd
  have HST := Lib.hid hst
  clear hsd hst
  go_enter Tryd.func4, Tryd.ntmps4
  go_wp2_with fail
  refine (HSD.out _).mono ?_
  rintro e w' ⟨rfl, rfl⟩
  go_wp2_with fail
  refine (path_any v l HST.out.hl HST.out.h64 w HST.out.hr).mono ?_
  rintro e w1 ⟨v1, rfl, hown1, hb1⟩
  have hpl := pathOf_len l
  have hp64 := pathOf_ok l
  obtain ⟨p, hp⟩ : ∃ p, p = pathOf l := ⟨_, rfl⟩
  rw [← hp] at hown1 hpl hp64
  clear hp
  obtain ⟨ad, sc, rfl⟩ := hown1.form
  have hN1 := HST.out.net hb1 hs12 hpl hp64 hown1
  have HN1 := Lib.hid hN1
  have HB1 := Lib.hid hb1
  have HP64 := Lib.hid hp64
  clear hN1 hb1 hown1 hp64
  obtain ⟨np, hnp⟩ : ∃ np, np = p.length := ⟨_, rfl⟩
  rw [← hnp] at HN1 hpl ⊢
  clear hnp
  go_wp2_with fail
  refine (all_ok s ad np sc p 4 (by omega) (by omega) (by omega) _ HN1.out).mono ?_
  rintro e w2 ⟨g, rfl, hown2, hb2⟩
  have HN2 := Lib.hid (HN1.out.later hb2)
  have HB2 := Lib.hid (HB1.out.trans (hb2.mono HB1.out.size))
  have HO2 := Lib.hid hown2
  clear hb2 hown2 HN1 HB1
  obtain ⟨f, hf⟩ : ∃ f, f = rndN s p 2 := ⟨_, rfl⟩
  have hf2 : ∀ k r, f k r < 2 := fun k r => by rw [hf]; exact rndN_lt s p 2 k r (by decide)
  have HF := Lib.hid hf
  have HF2 := Lib.hid hf2
  clear hf hf2
  go_wp2_with fail
  go_loopw [9] (fun c wr => ∃ k : Nat, k ≤ 4 ∧ c = .int .i64 k ∧ Below w2.heap.size w2 wr) (fun c _ => 4 - (intOf c).toNat)
  case atStart => exact ⟨0, by omega, rfl, Below.refl _ _⟩
  case round =>
    obtain ⟨k, hk, rfl, hb⟩ := hrel
    have HB := Lib.hid hb
    clear hb
    by_cases hlt : k < 4
    · have hin : ∀ j, In 2 (dgo f (k / 2, k % 2) j) := fun j => by
        rw [dgo_fgo f HF2.out _ (cut_in (b := 2) hlt) j]
        exact fgo_in (j := 1) HF2.out (cut_in (b := 2) hlt) j
      have hpl4 := placeN_four s p k hlt
      rw [← HF.out] at hpl4
      have HIN := Lib.hid hin
      have HPL := Lib.hid hpl4
      clear hin hpl4
      have hd : decide ((k : Int) < 4) = true := by simp; omega
      have HD := Lib.hid hd
      clear hd
      go_wp2_with fail
      rw [HD.out]
      go_loopw [10, 11, 12] (fun L R c wi => ∃ j : Nat, j ≤ 4 ∧ c = .int .i64 j ∧ L = .int .i64 ((dgo f (k / 2, k % 2) j).1 : Nat) ∧ R = .int .i64 ((dgo f (k / 2, k % 2) j).2 : Nat) ∧ Below w2.heap.size w2 wi) (fun _ _ c _ => 4 - (intOf c).toNat)
      case atStart => exact ⟨0, by omega, rfl, rfl, rfl, HB.out⟩
      case round =>
        obtain ⟨j, hj, rfl, rfl, rfl, hbi⟩ := hrel
        have HBI := Lib.hid hbi
        clear hbi
        obtain ⟨L, hL⟩ : ∃ L, L = (dgo f (k / 2, k % 2) j).1 := ⟨_, rfl⟩
        obtain ⟨R, hR⟩ : ∃ R, R = (dgo f (k / 2, k % 2) j).2 := ⟨_, rfl⟩
        have hL2 : L < 2 := by rw [hL]; exact (HIN.out j).1
        have hR2 : R < 2 := by rw [hR]; exact (HIN.out j).2
        rw [← hL, ← hR]
        have HL := Lib.hid hL
        have HR := Lib.hid hR
        clear hL hR
        by_cases hj4 : j < 4
        · obtain ⟨W, hW⟩ : ∃ W, W = wordOf s p (65536 * (j : Int) + (R : Int)) := ⟨_, rfl⟩
          have hWl : W < 281474976710656 := by rw [hW]; exact wordOf_lt _ _ _
          have hwd := word_at (HN2.out.later HBI.out) j R hj4 (by omega)
          rw [← hW] at hwd
          have hWf : f j R = W % 2 := by rw [HF.out, rnd_word, ← hW]
          have HWF := Lib.hid hWf
          have HWD := Lib.hid hwd
          clear hW hWf hwd
          go_wp2_with fail
          refine HWD.out.mono ?_
          rintro e w5 ⟨rfl, hb5⟩
          have HB5 := Lib.hid (HBI.out.trans (hb5.mono HBI.out.size))
          clear hb5
          go_wp2_with fail
          go_roundw
          case rel =>
            refine ⟨j + 1, by omega, by go_num, ?_, ?_, HB5.out⟩
            · rw [dgo, dstep, ← HR.out]
            · rw [dgo, dstep, ← HR.out, ← HL.out, HWF.out]
              go_num
          case measure => simp [intOf]; omega
        · obtain rfl : j = 4 := by omega
          have hcell : wr.cell? ⟨g, k, none⟩ = some (.int .i64 (2 * (L : Int) + (R : Int))) := by
            have := (HBI.out.cell (p := ⟨g, k, none⟩) (lt_of_own HO2.out)).trans (HO2.out.at k hlt)
            rw [this, HPL.out, ← HL.out, ← HR.out]
            congr 2
          go_wp2_with fail
          go_roundw
          case rel => exact ⟨k + 1, by omega, by go_num, HBI.out⟩
          case measure => simp [intOf]; omega
    · obtain rfl : k = 4 := by omega
      go_wp2_with fail
      refine (lives_any _ (Nat.lt_of_lt_of_le HN2.out.h0 HB.out.size) (HN2.out.hK.later HN2.out.h0 HB.out)).mono ?_
      rintro e w9 ⟨rfl, hb9⟩
      go_wp2_with fail
      go_ret
      exact ⟨rfl, (HB2.out.trans (HB.out.mono HB2.out.size)).trans (hb9.mono (by have := HB2.out.size; have := HB.out.size; omega))⟩
end Go.Proofs.YtfkpeabkcdhcfaaDoor
