/-
  Walks of Side and of PermSizes.
-/
import Derived.Test.YtfkpeabkcdhcfaaDoorW4
namespace Go.Proofs.YtfkpeabkcdhcfaaDoor
open Go.RowKit
set_option maxRecDepth 100000
set_option maxHeartbeats 1000000 in
theorem side_any (n : Nat) (hn : n ≤ 65536) (w : World) : Calls Tryd.prog 31 #[.int .i64 n] w fun e w' => e = .returned (.int .i64 (bOf n : Nat)) ∧ w = w' := by
  go_enter Tryd.func31, Tryd.ntmps31
  go_wp2_with fail
  go_loopw [3] (fun c wr => ∃ j b : Nat, j ≤ 8 ∧ b = 2 ^ j ∧ c = .int .i64 b ∧ (j = 0 ∨ 2 ^ (j - 1) * 2 ^ (j - 1) < n) ∧ w = wr) (fun c _ => 256 - (intOf c).toNat)
  case atStart => exact ⟨0, 1, by omega, rfl, rfl, .inl rfl, rfl⟩
  case round =>
    obtain ⟨j, b, hj, hb2, rfl, hl, rfl⟩ := hrel
    have hb256 : b ≤ 256 := by rw [hb2]; exact Nat.pow_le_pow_right (by decide) hj
    have hbb : b * b ≤ 256 * 256 := Nat.mul_le_mul hb256 hb256
    have H2 := Lib.hid hb2
    clear hb2
    by_cases hlt : b * b < n
    · have hlt' : ((b : Int) * (b : Int)) < (n : Int) := by
        rw [show ((b : Int) * (b : Int)) = ((b * b : Nat) : Int) from rfl]; omega
      go_wp2_with fail
      go_roundw
      case rel =>
        have hj7 : j < 8 := by
          rcases (show j < 8 ∨ j = 8 by omega) with h | rfl
          · exact h
          · rw [H2.out] at hlt; omega
        exact ⟨j + 1, 2 ^ (j + 1), by omega, rfl, by rw [Nat.pow_succ, ← H2.out]; go_num, .inr (by rw [Nat.add_sub_cancel, ← H2.out]; exact hlt), trivial⟩
      case measure =>
        have hb1 : 0 < b := by rw [H2.out]; exact Nat.two_pow_pos j
        have hb7 : b < 256 := by
          rcases Nat.lt_or_ge b 256 with h | h
          · exact h
          · have := Nat.mul_le_mul h h; omega
        simp [intOf]; omega
    · have hlt' : ¬ ((b : Int) * (b : Int)) < (n : Int) := by
        rw [show ((b : Int) * (b : Int)) = ((b * b : Nat) : Int) from rfl]; omega
      have hjo : jOf n = j := jOf_of n j hj (by rw [← H2.out]; omega) hl
      have hbo : bOf n = b := by rw [bOf, hjo, ← H2.out]
      have HBO := Lib.hid hbo
      clear hjo hbo
      go_wp2_with fail
      go_ret
      exact ⟨by rw [HBO.out]; rfl, rfl⟩
theorem around_nat (n : Int) (m : Nat) (hn : I64 n) (h1 : 1 ≤ m) (h2 : m ≤ 100000) : ∃ x : Nat, x < m ∧ ∀ w : World, Calls Tryd.prog 23 #[.int .i64 n, .int .i64 m] w fun e w' => e = .returned (.int .i64 (x : Nat)) ∧ w = w' := by
  have hb := aroundI_lt n m (by omega)
  refine ⟨(aroundI n m).toNat, by omega, fun w => ?_⟩
  have := around_any n m hn (by constructor <;> omega) w
  rw [show ((aroundI n m).toNat : Int) = aroundI n m by omega]
  exact this
theorem around_num (n : Int) (m : Nat) (hn : I64 n) (h1 : 1 ≤ m) (h2 : m ≤ 100000) (k : Int) (hk : k = (m : Int)) : ∃ x : Nat, x < m ∧ ∀ w : World, Calls Tryd.prog 23 #[.int .i64 n, .int .i64 k] w fun e w' => e = .returned (.int .i64 (x : Nat)) ∧ w = w' := by
  subst hk
  exact around_nat n m hn h1 h2
set_option maxHeartbeats 2000000 in
theorem sizes_any (seed : ByteArray) (hs : seed.size ≤ maxLen) (v : Value) (l : List Int) (n m : Int) (hn : I64 n) (hm : I64 m) (w : World) (hst : Start v l w) :
    Calls Tryd.prog 5 #[.string seed, v, .int .i64 n, .int .i64 m] w fun e w' => e = .returned (.bool true) ∧ Below w.heap.size w w' := by
  have hsd := seed_any seed hs
  obtain ⟨s, hse, hs12⟩ := cutS_lt seed
  rw [← hse] at hsd
  clear hse
  obtain ⟨x, hx, hax⟩ := around_num n 120 hn (by omega) (by omega) 120 rfl
  have HSD := Lib.hid hsd
  have HST := Lib.hid hst
  have HAX := Lib.hid hax
  have HM := Lib.hid hm
  clear hsd hst hax hn hm
  go_enter Tryd.func5, Tryd.ntmps5
  go_wp2_with fail
  refine (HSD.out _).mono ?_
  rintro e w' ⟨rfl, rfl⟩
  go_wp2_with fail
  refine (path_any v l HST.out.hl HST.out.h64 w HST.out.hr).mono ?_
  rintro e w1 ⟨v1, rfl, hown1, hb1⟩
  have hpl := pathOf_len l
  have hp64 := pathOf_ok l
  obtain ⟨p, hp⟩ : ∃ p, p = pathOf l := ⟨_, rfl⟩
  rw [← hp] at hown1 hpl hp64
  clear hp
  obtain ⟨ad, sc, rfl⟩ := hown1.form
  have hN1 := HST.out.net hb1 hs12 hpl hp64 hown1
  have HN1 := Lib.hid hN1
  have HB1 := Lib.hid hb1
  clear hN1 hb1 hown1 hp64
  obtain ⟨np, hnp⟩ : ∃ np, np = p.length := ⟨_, rfl⟩
  rw [← hnp] at HN1 hpl ⊢
  clear hnp
  go_wp2_with fail
  refine (HAX.out _).mono ?_
  rintro e w' ⟨rfl, rfl⟩
  go_wp2_with fail
  rw [show (2 : Int) + (x : Int) = ((2 + x : Nat) : Int) by omega]
  obtain ⟨big, hbig⟩ : ∃ big, big = 2 + x := ⟨_, rfl⟩
  rw [← hbig]
  have hb2 : 2 ≤ big := by omega
  have hb121 : big ≤ 121 := by omega
  clear hbig HAX hx
  refine (side_any big (by omega) _).mono ?_
  rintro e w' ⟨rfl, rfl⟩
  have hhalf := (bOf_half big hb2).1
  have hsame : ∀ k, bOf big * bOf big / 4 < k → k ≤ big → bOf k = bOf big := fun k h1 h2 => bOf_same big k hb2 h1 h2
  have hb256 := (bOf_half big hb2).2
  obtain ⟨b, hbe⟩ : ∃ b, b = bOf big := ⟨_, rfl⟩
  have HS := Lib.hid hsame
  have HBE := Lib.hid hbe
  clear hsame
  rw [← hbe] at hhalf hb256 ⊢
  clear hbe
  have hbb : b * b ≤ 256 * 256 := Nat.mul_le_mul hb256 hb256
  go_wp2_with fail
  rw [show ((b : Int) * (b : Int)) / 4 = ((b * b / 4 : Nat) : Int) by rfl]
  obtain ⟨q, hq⟩ : ∃ q, q = b * b / 4 := ⟨_, rfl⟩
  rw [← hq] at hhalf ⊢
  have HQ := Lib.hid hq
  clear hq hbb hb256
  rw [show (big : Int) - ((q : Int) + 1) + 1 = ((big - q : Nat) : Int) by omega]
  obtain ⟨y, hy, hay⟩ := around_nat m (big - q) HM.out (by omega) (by omega)
  refine (hay _).mono ?_
  rintro e w' ⟨rfl, rfl⟩
  clear hay
  go_wp2_with fail
  rw [show (q : Int) + 1 + (y : Int) = ((q + 1 + y : Nat) : Int) by omega]
  obtain ⟨small, hsm⟩ : ∃ small, small = q + 1 + y := ⟨_, rfl⟩
  rw [← hsm]
  have hsb : small ≤ big := by omega
  have hbo : bOf small = bOf big := HS.out small (by rw [← HBE.out, ← HQ.out]; omega) hsb
  have HBO := Lib.hid hbo
  clear hsm hbo hy hhalf
  refine (all_ok s ad np sc p big (by omega) (by omega) (by omega) _ HN1.out).mono ?_
  rintro e w2 ⟨g, rfl, hown2, hb2'⟩
  have HN2 := Lib.hid (HN1.out.later hb2')
  have HB2 := Lib.hid (HB1.out.trans (hb2'.mono HB1.out.size))
  have HO2 := Lib.hid hown2
  clear hb2' hown2 HN1 HB1
  go_wp2_with fail
  refine (all_ok s ad np sc p small (by omega) (by omega) (by omega) _ HN2.out).mono ?_
  rintro e w3 ⟨g3, rfl, hown3, hb3⟩
  have HN3 := Lib.hid (HN2.out.later hb3)
  have HB3 := Lib.hid (HB2.out.trans (hb3.mono HB2.out.size))
  have HO3 := Lib.hid hown3
  have HB23 := Lib.hid hb3
  clear hb3 hown3 HN2 HB2
  go_wp2_with fail
  go_loopw [19] (fun c wr => ∃ k : Nat, k ≤ small ∧ c = .int .i64 k ∧ Below w3.heap.size w3 wr) (fun c _ => small - (intOf c).toNat)
  case atStart => exact ⟨0, by omega, rfl, Below.refl _ _⟩
  case round =>
    obtain ⟨k, hk, rfl, hb⟩ := hrel
    by_cases hlt : k < small
    · have ca := (hb.cell (p := ⟨g, k, none⟩) (Nat.lt_of_lt_of_le (lt_of_own HO2.out) HB23.out.size)).trans ((HB23.out.cell (p := ⟨g, k, none⟩) (lt_of_own HO2.out)).trans (HO2.out.at k (by omega)))
      have cb := (hb.cell (p := ⟨g3, k, none⟩) (lt_of_own HO3.out)).trans (HO3.out.at k hlt)
      have hless := fun h => placeN_less s p (n := big) (m := small) (i := k) (by omega) hsb HBO.out hlt h
      obtain ⟨A, hA⟩ : ∃ A, A = placeN s p big k := ⟨_, rfl⟩
      obtain ⟨B, hB⟩ : ∃ B, B = placeN s p small k := ⟨_, rfl⟩
      rw [← hA] at ca hless
      rw [← hB] at cb hless
      have HB := Lib.hid hb
      clear hA hB hb
      by_cases hA : A < small
      · obtain rfl : B = A := hless hA
        clear hless
        have hd : decide ((B : Int) < (small : Int)) = true := by simp; omega
        go_wp2_with fail
        go_quiet (fail)
        go_wp2_with fail
        go_roundw
        case rel => exact ⟨k + 1, by omega, by go_num, below_drewN HB.out _⟩
        case measure => simp [intOf]; omega
      · clear hless
        have hd : decide ((A : Int) < (small : Int)) = false := by simp; omega
        go_wp2_with fail
        go_quiet (fail)
        go_wp2_with fail
        go_roundw
        case rel => exact ⟨k + 1, by omega, by go_num, below_drewN HB.out _⟩
        case measure => simp [intOf]; omega
    · obtain rfl : k = small := by omega
      have HB := Lib.hid hb
      clear hb
      go_wp2_with fail
      refine (lives_any _ (Nat.lt_of_lt_of_le HN3.out.h0 HB.out.size) (HN3.out.hK.later HN3.out.h0 HB.out)).mono ?_
      rintro e w9 ⟨rfl, hb9⟩
      go_wp2_with fail
      go_ret
      exact ⟨rfl, (HB3.out.trans (HB.out.mono HB3.out.size)).trans (hb9.mono (by have := HB3.out.size; have := HB.out.size; omega))⟩
end Go.Proofs.YtfkpeabkcdhcfaaDoor
