/-
  Walks of the reference's Place, At, Back, and of Given, where the arguments are valid.
-/
import Derived.Test.YtfkpeabkcdhcfaaDoorY2
import Derived.Test.YtfkpeabkcdhcfaaDoorW5
namespace Go.Proofs.YtfkpeabkcdhcfaaDoor
open Go.RowKit
set_option maxRecDepth 100000
set_option maxHeartbeats 1000000 in
theorem rplace_any (seed : ByteArray) (v : Value) (l : List Int) (n i : Nat) (hn : n ≤ 65536) (hi : i < n) (w : World) (hN : Net2 seed v l w) :
    Calls Tryd.prog 70 #[.string seed, v, .int .i64 n, .int .i64 i] w fun e w' => e = .returned (.int .i64 (placeN seed l n i : Nat)) ∧ Below w.heap.size w w' := by
  have hG := good_net seed l n
  have hM := big_net n hn
  have hsd := side_any n hn
  have hpl : placeN seed l n i = place (mixN (rndN seed l (bOf n)) (bOf n)) n i := rfl
  obtain ⟨b, hb⟩ : ∃ b, b = bOf n := ⟨_, rfl⟩
  rw [← hb] at hG hM hsd hpl
  have hm : ∀ x w', x < b * b → Net2 seed v l w' → Calls Tryd.prog 96 #[.string seed, v, .int .i64 b, .int .i64 x] w' fun e w'' => e = .returned (.int .i64 (mixN (rndN seed l b) b x : Nat)) ∧ Below w'.heap.size w' w'' :=
    fun x w' hx hN' => rmix_any seed v l b x hG.b0 hG.b1 hx (hG.fin x hx) w' hN'
  have hp := hG.perm
  obtain ⟨h, hh⟩ : ∃ h, h = backN (rndN seed l b) b := ⟨_, rfl⟩
  obtain ⟨g, hg⟩ : ∃ g, g = mixN (rndN seed l b) b := ⟨_, rfl⟩
  rw [← hg] at hm hp hpl
  rw [← hh] at hp
  obtain ⟨M, hM'⟩ : ∃ M, M = b * b := ⟨_, rfl⟩
  rw [← hM'] at hm hp hM
  have hMb : M ≤ 65536 := by rw [hM']; exact Nat.mul_le_mul hG.b1 hG.b1
  have HM := Lib.hid hm
  have HN := Lib.hid hN
  have HSD := Lib.hid hsd
  have HPL := Lib.hid hpl
  clear hm hN hg hh hM' hG hsd hpl hb
  go_enter Tryd.func70, Tryd.ntmps70
  go_wp2_with fail
  refine (HSD.out _).mono ?_
  rintro e w' ⟨rfl, rfl⟩
  go_wp2_with fail
  refine (HM.out i w (by omega) HN.out).mono ?_
  rintro e w1 ⟨rfl, hb1⟩
  have HB1 := Lib.hid hb1
  clear hb1
  go_wp2_with fail
  go_loopw [10] (fun c wr => ∃ x : Nat, c = .int .i64 x ∧ On g n i x ∧ Below w.heap.size w wr) (fun c _ => left g n (intOf c).toNat)
  case atStart => exact ⟨g i, rfl, On.start g n i, HB1.out⟩
  case round =>
    obtain ⟨x, rfl, ho, hb⟩ := hrel
    have hxM := ho.lt hp (show i < M by omega)
    have HO := Lib.hid ho
    have HB := Lib.hid hb
    clear ho hb HB1
    by_cases hlt : x < n
    · go_wp2_with fail
      go_ret
      refine ⟨?_, HB.out⟩
      rw [HPL.out, ← HO.out.stop hlt]
      rfl
    · go_wp2_with fail
      refine (HM.out x wr hxM (HN.out.later HB.out)).mono ?_
      rintro e w2 ⟨rfl, hb2⟩
      have HB2 := Lib.hid hb2
      clear hb2
      go_wp2_with fail
      go_roundw
      case rel => exact ⟨g x, rfl, HO.out.step (by omega), HB.out.trans (HB2.out.mono HB.out.size)⟩
      case measure =>
        have := left_step (HO.out.comes hp hM hi) (show n ≤ x by omega)
        simpa [intOf] using this
set_option maxHeartbeats 1000000 in
theorem rgiven_ok (seed : ByteArray) (ad : Option Addr) (sn sc : Nat) (n : Int) (hs : seed.size ≤ 32) (hp : sn ≤ 8) (hn : n ≤ 65536) (w : World) :
    Calls Tryd.prog 69 #[.string seed, .slice ad sn sc, .int .i64 n] w fun e w' => e = .returned (.int .i64 0) ∧ w = w' := by
  have h1 : ¬ (32 : Int) < (seed.size : Int) := by omega
  have h2 : ¬ (8 : Int) < (sn : Int) := by omega
  have h3 : ¬ (65536 : Int) < n := by omega
  go_enter Tryd.func69, Tryd.ntmps69
  go_wp2
  go_ret
  exact ⟨rfl, rfl⟩
set_option maxHeartbeats 1000000 in
theorem rat_ok (seed : ByteArray) (ad : Option Addr) (sn sc : Nat) (l : List Int) (n i : Nat) (hs : seed.size ≤ 32) (hp : sn ≤ 8) (hn : n ≤ 65536) (hi : i < n) (w : World) (hN : Net2 seed (.slice ad sn sc) l w) :
    Calls Tryd.prog 33 #[.string seed, .slice ad sn sc, .int .i64 n, .int .i64 i] w fun e w' => e = .returned (.tuple #[.int .i64 (placeN seed l n i : Nat), .int .i64 0]) ∧ Below w.heap.size w w' := by
  have HN := Lib.hid hN
  clear hN
  have h1 : ¬ (i : Int) < 0 := by omega
  have h2 : ¬ (n : Int) ≤ (i : Int) := by omega
  go_enter Tryd.func33, Tryd.ntmps33
  go_wp2_with fail
  refine (rgiven_ok seed ad sn sc n hs hp (by omega) w).mono ?_
  rintro e w' ⟨rfl, rfl⟩
  go_wp2_with fail
  refine (rplace_any seed (.slice ad sn sc) l n i hn hi _ HN.out).mono ?_
  rintro e w2 ⟨rfl, hb2⟩
  have HB2 := Lib.hid hb2
  clear hb2
  go_wp2_with fail
  go_ret2
  exact ⟨rfl, HB2.out⟩
set_option maxHeartbeats 1000000 in
theorem rback_ok (seed : ByteArray) (ad : Option Addr) (sn sc : Nat) (l : List Int) (n i : Nat) (hs : seed.size ≤ 32) (hpp : sn ≤ 8) (hn : n ≤ 65536) (hi : i < n) (w : World) (hN : Net2 seed (.slice ad sn sc) l w) :
    Calls Tryd.prog 35 #[.string seed, .slice ad sn sc, .int .i64 n, .int .i64 i] w fun e w' => e = .returned (.tuple #[.int .i64 (backPlaceN seed l n i : Nat), .int .i64 0]) ∧ Below w.heap.size w w' := by
  have hG := good_net seed l n
  have hM := big_net n hn
  have hsd := side_any n hn
  have hpl : backPlaceN seed l n i = place (backN (rndN seed l (bOf n)) (bOf n)) n i := rfl
  obtain ⟨b, hb⟩ : ∃ b, b = bOf n := ⟨_, rfl⟩
  rw [← hb] at hG hM hsd hpl
  have hm : ∀ x w', x < b * b → Net2 seed (.slice ad sn sc) l w' → Calls Tryd.prog 77 #[.string seed, .slice ad sn sc, .int .i64 b, .int .i64 x] w' fun e w'' => e = .returned (.int .i64 (backN (rndN seed l b) b x : Nat)) ∧ Below w'.heap.size w' w'' :=
    fun x w' hx hN' => runmix_any seed _ l b x hG.b0 hG.b1 hx (hG.bin x hx) w' hN'
  have hp := hG.perm.symm
  obtain ⟨h, hh⟩ : ∃ h, h = mixN (rndN seed l b) b := ⟨_, rfl⟩
  obtain ⟨g, hg⟩ : ∃ g, g = backN (rndN seed l b) b := ⟨_, rfl⟩
  rw [← hg] at hm hp hpl
  rw [← hh] at hp
  obtain ⟨M, hM'⟩ : ∃ M, M = b * b := ⟨_, rfl⟩
  rw [← hM'] at hm hp hM
  have hMb : M ≤ 65536 := by rw [hM']; exact Nat.mul_le_mul hG.b1 hG.b1
  have HM := Lib.hid hm
  have HN := Lib.hid hN
  have HSD := Lib.hid hsd
  have HPL := Lib.hid hpl
  clear hm hN hg hh hM' hG hsd hpl hb
  have h1 : ¬ (i : Int) < 0 := by omega
  have h2 : ¬ (n : Int) ≤ (i : Int) := by omega
  go_enter Tryd.func35, Tryd.ntmps35
  go_wp2_with fail
  refine (rgiven_ok seed ad sn sc n hs hpp (by omega) w).mono ?_
  rintro e w' ⟨rfl, rfl⟩
  go_wp2_with fail
  refine (HSD.out _).mono ?_
  rintro e w' ⟨rfl, rfl⟩
  go_wp2_with fail
  clear h1 h2
  -- the walk so far: the number from which the next step goes
  go_loopw [3] (fun c wr => ∃ k x : Nat, c = .int .i64 x ∧ x = iter g k i ∧ (∀ j, j < k → n ≤ iter g (j + 1) i) ∧ Below w.heap.size w wr) (fun c _ => left g n (g (intOf c).toNat))
  case atStart => exact ⟨0, i, rfl, rfl, fun j hj => absurd hj (Nat.not_lt_zero _), Below.refl _ _⟩
  case round =>
    obtain ⟨k, x, rfl, hx, hall, hb⟩ := hrel
    have hxM : x < M := by rw [hx]; exact hp.iter_lt (by omega) k
    have hon : On g n i (g x) := ⟨k, by rw [hx]; rfl, hall⟩
    have HX := Lib.hid hx
    have HALL := Lib.hid hall
    have HON := Lib.hid hon
    have HB := Lib.hid hb
    clear hx hall hon hb
    go_wp2_with fail
    refine (HM.out x wr hxM (HN.out.later HB.out)).mono ?_
    rintro e w2 ⟨rfl, hb2⟩
    have HB2 := Lib.hid (HB.out.trans (hb2.mono HB.out.size))
    clear hb2
    obtain ⟨y, hy⟩ : ∃ y, y = g x := ⟨_, rfl⟩
    rw [← hy]
    have HY := Lib.hid hy
    clear hy
    by_cases hlt : y < n
    · go_wp2_with fail
      go_ret2
      refine ⟨?_, HB2.out⟩
      have hst : y = place g n i := by
        have := HON.out
        rw [← HY.out] at this
        exact this.stop hlt
      rw [HPL.out, ← hst]
      rfl
    · go_wp2_with fail
      go_roundw
      case rel =>
        refine ⟨k + 1, y, rfl, by rw [HY.out, HX.out]; rfl, fun j hj => ?_, HB2.out⟩
        rcases Nat.lt_or_ge j k with h3 | h3
        · exact HALL.out j h3
        · have : j = k := by omega
          subst this
          show n ≤ g (iter g j i)
          rw [← HX.out, ← HY.out]; omega
      case measure =>
        have := left_step (HON.out.comes hp hM hi) (show n ≤ g x by rw [← HY.out]; omega)
        rw [← HY.out] at this
        simp only [intOf]
        simpa [HY.out] using this
end Go.Proofs.YtfkpeabkcdhcfaaDoor
