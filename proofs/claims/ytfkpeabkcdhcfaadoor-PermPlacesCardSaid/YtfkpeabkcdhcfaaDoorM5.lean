/-
  Walks of given and At.
-/
import Derived.Test.YtfkpeabkcdhcfaaDoorM4
namespace Go.Proofs.YtfkpeabkcdhcfaaDoor
open Go.RowKit
set_option maxRecDepth 100000
set_option maxHeartbeats 1000000 in
theorem given_ok (seed : ByteArray) (ad : Option Addr) (sn sc : Nat) (n : Int) (hs : seed.size ≤ 32) (hp : sn ≤ 8) (hn : n ≤ 65536) (w : World) :
    Calls Tryd.prog 66 #[.string seed, .slice ad sn sc, .int .i64 n] w fun e w' => e = .returned (.int .i64 0) ∧ Below w.heap.size w w' := by
  have h1 : ¬ (32 : Int) < (seed.size : Int) := by omega
  have h2 : ¬ (8 : Int) < (sn : Int) := by omega
  have h3 : ¬ (65536 : Int) < n := by omega
  go_enter Tryd.func66, Tryd.ntmps66
  go_wp2
  go_ret
  exact ⟨rfl, Below.refl _ _⟩
theorem good_net (seed : ByteArray) (l : List Int) (n : Nat) : Good (rndN seed l (bOf n)) (bOf n) := Good.make _ (jOf n) (jOf_le n) (fun k r => rndN_lt seed l (2 ^ jOf n) k r (Nat.two_pow_pos _))
theorem big_net (n : Nat) (h : n ≤ 65536) : n ≤ bOf n * bOf n := jOf_big n h
/-- the place of i of n -/
noncomputable def placeN (seed : ByteArray) (l : List Int) (n i : Nat) : Nat := place (mixN (rndN seed l (bOf n)) (bOf n)) n i
set_option maxHeartbeats 1000000 in
theorem at_ok (seed : ByteArray) (ad : Option Addr) (sn sc : Nat) (l : List Int) (n i : Nat) (hs : seed.size ≤ 32) (hp : sn ≤ 8) (hn : n ≤ 65536) (hi : i < n) (w : World) (hN : Net seed (.slice ad sn sc) l w) :
    Calls Tryd.prog 32 #[.string seed, .slice ad sn sc, .int .i64 n, .int .i64 i] w fun e w' => e = .returned (.tuple #[.int .i64 (placeN seed l n i : Nat), .int .i64 0]) ∧ Below w.heap.size w w' := by
  have HN := Lib.hid hN
  clear hN
  have h1 : ¬ (i : Int) < 0 := by omega
  have h2 : ¬ (n : Int) ≤ (i : Int) := by omega
  go_enter Tryd.func32, Tryd.ntmps32
  go_wp2_with (first
    | (go_at_call 66; refine (given_ok seed ad sn sc n hs hp (by omega) w).mono ?_; rintro e w1 ⟨rfl, hb1⟩; have HB1 := Lib.hid hb1; clear hb1)
    | (go_at_call 68; refine (made_any seed ad sn sc n hn _).mono ?_; rintro e w2 ⟨rfl, hb2⟩; have HB2 := Lib.hid (HB1.out.trans (hb2.mono HB1.out.size)); clear hb2)
    | (go_at_call 74; refine (walk_mix seed (.slice ad sn sc) l (bOf n) n i (good_net seed l n) (big_net n hn) hi _ (HN.out.later HB2.out)).mono ?_; rintro e w3 ⟨rfl, hb3⟩; have HB3 := Lib.hid (HB2.out.trans (hb3.mono HB2.out.size)); clear hb3))
  go_ret2
  exact ⟨rfl, HB3.out⟩
end Go.Proofs.YtfkpeabkcdhcfaaDoor
