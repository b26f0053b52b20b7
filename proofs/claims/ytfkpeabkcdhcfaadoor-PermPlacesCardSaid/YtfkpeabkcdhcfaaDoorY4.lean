/-
  Walks where the arguments are not valid; the reference's All; Take, few, SameInts.
-/
import Derived.Test.YtfkpeabkcdhcfaaDoorY3
namespace Go.Proofs.YtfkpeabkcdhcfaaDoor
open Go.RowKit Go.Shelf
set_option maxRecDepth 100000
/-- too long, or too many -/
def Bad (seed : ByteArray) (sn : Nat) (n : Int) : Prop := 32 < seed.size ∨ 8 < sn ∨ 65536 < n
set_option maxHeartbeats 1000000 in
theorem given_no (seed : ByteArray) (ad : Option Addr) (sn sc : Nat) (n : Int) (h : Bad seed sn n) (w : World) :
    Calls Tryd.prog 66 #[.string seed, .slice ad sn sc, .int .i64 n] w fun e w' => e = .returned (.int .i64 4) ∧ w = w' := by
  by_cases h1 : (32 : Int) < (seed.size : Int)
  · go_enter Tryd.func66, Tryd.ntmps66
    go_wp2
    go_ret
    exact ⟨rfl, rfl⟩
  · by_cases h2 : (8 : Int) < (sn : Int)
    · go_enter Tryd.func66, Tryd.ntmps66
      go_wp2
      go_ret
      exact ⟨rfl, rfl⟩
    · have h3 : 65536 < n := by rcases h with h | h | h <;> omega
      go_enter Tryd.func66, Tryd.ntmps66
      go_wp2
      go_ret
      exact ⟨rfl, rfl⟩
set_option maxHeartbeats 1000000 in
theorem rgiven_no (seed : ByteArray) (ad : Option Addr) (sn sc : Nat) (n : Int) (h : Bad seed sn n) (w : World) :
    Calls Tryd.prog 69 #[.string seed, .slice ad sn sc, .int .i64 n] w fun e w' => e = .returned (.int .i64 4) ∧ w = w' := by
  by_cases h1 : (32 : Int) < (seed.size : Int)
  · go_enter Tryd.func69, Tryd.ntmps69
    go_wp2
    go_ret
    exact ⟨rfl, rfl⟩
  · by_cases h2 : (8 : Int) < (sn : Int)
    · go_enter Tryd.func69, Tryd.ntmps69
      go_wp2
      go_ret
      exact ⟨rfl, rfl⟩
    · have h3 : 65536 < n := by rcases h with h | h | h <;> omega
      go_enter Tryd.func69, Tryd.ntmps69
      go_wp2
      go_ret
      exact ⟨rfl, rfl⟩
theorem given_okw (seed : ByteArray) (ad : Option Addr) (sn sc : Nat) (n : Int) (h : ¬ Bad seed sn n) (w : World) :
    Calls Tryd.prog 66 #[.string seed, .slice ad sn sc, .int .i64 n] w fun e w' => e = .returned (.int .i64 0) ∧ Below w.heap.size w w' := by
  unfold Bad at h
  exact given_ok seed ad sn sc n (by omega) (by omega) (by omega) w
theorem rgiven_okw (seed : ByteArray) (ad : Option Addr) (sn sc : Nat) (n : Int) (h : ¬ Bad seed sn n) (w : World) :
    Calls Tryd.prog 69 #[.string seed, .slice ad sn sc, .int .i64 n] w fun e w' => e = .returned (.int .i64 0) ∧ w = w' := by
  unfold Bad at h
  exact rgiven_ok seed ad sn sc n (by omega) (by omega) (by omega) w
/-- a call that returns two numbers -/
def Two (a e : Int) (w : World) (x : Ending) (w' : World) : Prop := x = .returned (.tuple #[.int .i64 a, .int .i64 e]) ∧ Below w.heap.size w w'
set_option maxHeartbeats 1000000 in
theorem at_no (seed : ByteArray) (ad : Option Addr) (sn sc : Nat) (n i : Int) (h : Bad seed sn n) (w : World) : Calls Tryd.prog 32 #[.string seed, .slice ad sn sc, .int .i64 n, .int .i64 i] w (Two 0 4 w) := by
  go_enter Tryd.func32, Tryd.ntmps32
  go_wp2_with (go_at_call 66; refine (given_no seed ad sn sc n h w).mono ?_; rintro e w1 ⟨rfl, rfl⟩)
  go_ret2
  exact ⟨rfl, Below.refl _ _⟩
set_option maxHeartbeats 1000000 in
theorem rat_no (seed : ByteArray) (ad : Option Addr) (sn sc : Nat) (n i : Int) (h : Bad seed sn n) (w : World) : Calls Tryd.prog 33 #[.string seed, .slice ad sn sc, .int .i64 n, .int .i64 i] w (Two 0 4 w) := by
  go_enter Tryd.func33, Tryd.ntmps33
  go_wp2_with (go_at_call 69; refine (rgiven_no seed ad sn sc n h w).mono ?_; rintro e w1 ⟨rfl, rfl⟩)
  go_ret2
  exact ⟨rfl, Below.refl _ _⟩
set_option maxHeartbeats 1000000 in
theorem back_no (seed : ByteArray) (ad : Option Addr) (sn sc : Nat) (n i : Int) (h : Bad seed sn n) (w : World) : Calls Tryd.prog 34 #[.string seed, .slice ad sn sc, .int .i64 n, .int .i64 i] w (Two 0 4 w) := by
  go_enter Tryd.func34, Tryd.ntmps34
  go_wp2_with (go_at_call 66; refine (given_no seed ad sn sc n h w).mono ?_; rintro e w1 ⟨rfl, rfl⟩)
  go_ret2
  exact ⟨rfl, Below.refl _ _⟩
set_option maxHeartbeats 1000000 in
theorem rback_no (seed : ByteArray) (ad : Option Addr) (sn sc : Nat) (n i : Int) (h : Bad seed sn n) (w : World) : Calls Tryd.prog 35 #[.string seed, .slice ad sn sc, .int .i64 n, .int .i64 i] w (Two 0 4 w) := by
  go_enter Tryd.func35, Tryd.ntmps35
  go_wp2_with (go_at_call 69; refine (rgiven_no seed ad sn sc n h w).mono ?_; rintro e w1 ⟨rfl, rfl⟩)
  go_ret2
  exact ⟨rfl, Below.refl _ _⟩
set_option maxHeartbeats 1000000 in
theorem at_arg (seed : ByteArray) (ad : Option Addr) (sn sc : Nat) (n i : Int) (h : ¬ Bad seed sn n) (hi : i < 0 ∨ n ≤ i) (w : World) : Calls Tryd.prog 32 #[.string seed, .slice ad sn sc, .int .i64 n, .int .i64 i] w (Two 0 1 w) := by
  by_cases h1 : i < 0
  · go_enter Tryd.func32, Tryd.ntmps32
    go_wp2_with (go_at_call 66; refine (given_okw seed ad sn sc n h w).mono ?_; rintro e w1 ⟨rfl, hb1⟩; have HB1 := Lib.hid hb1; clear hb1)
    go_ret2
    exact ⟨rfl, HB1.out⟩
  · have h2 : n ≤ i := by omega
    go_enter Tryd.func32, Tryd.ntmps32
    go_wp2_with (go_at_call 66; refine (given_okw seed ad sn sc n h w).mono ?_; rintro e w1 ⟨rfl, hb1⟩; have HB1 := Lib.hid hb1; clear hb1)
    go_ret2
    exact ⟨rfl, HB1.out⟩
set_option maxHeartbeats 1000000 in
theorem rat_arg (seed : ByteArray) (ad : Option Addr) (sn sc : Nat) (n i : Int) (h : ¬ Bad seed sn n) (hi : i < 0 ∨ n ≤ i) (w : World) : Calls Tryd.prog 33 #[.string seed, .slice ad sn sc, .int .i64 n, .int .i64 i] w (Two 0 1 w) := by
  by_cases h1 : i < 0
  · go_enter Tryd.func33, Tryd.ntmps33
    go_wp2_with (go_at_call 69; refine (rgiven_okw seed ad sn sc n h w).mono ?_; rintro e w1 ⟨rfl, rfl⟩)
    go_ret2
    exact ⟨rfl, Below.refl _ _⟩
  · have h2 : n ≤ i := by omega
    go_enter Tryd.func33, Tryd.ntmps33
    go_wp2_with (go_at_call 69; refine (rgiven_okw seed ad sn sc n h w).mono ?_; rintro e w1 ⟨rfl, rfl⟩)
    go_ret2
    exact ⟨rfl, Below.refl _ _⟩
set_option maxHeartbeats 1000000 in
theorem back_arg (seed : ByteArray) (ad : Option Addr) (sn sc : Nat) (n i : Int) (h : ¬ Bad seed sn n) (hi : i < 0 ∨ n ≤ i) (w : World) : Calls Tryd.prog 34 #[.string seed, .slice ad sn sc, .int .i64 n, .int .i64 i] w (Two 0 1 w) := by
  by_cases h1 : i < 0
  · go_enter Tryd.func34, Tryd.ntmps34
    go_wp2_with (go_at_call 66; refine (given_okw seed ad sn sc n h w).mono ?_; rintro e w1 ⟨rfl, hb1⟩; have HB1 := Lib.hid hb1; clear hb1)
    go_ret2
    exact ⟨rfl, HB1.out⟩
  · have h2 : n ≤ i := by omega
    go_enter Tryd.func34, Tryd.ntmps34
    go_wp2_with (go_at_call 66; refine (given_okw seed ad sn sc n h w).mono ?_; rintro e w1 ⟨rfl, hb1⟩; have HB1 := Lib.hid hb1; clear hb1)
    go_ret2
    exact ⟨rfl, HB1.out⟩
set_option maxHeartbeats 1000000 in
theorem rback_arg (seed : ByteArray) (ad : Option Addr) (sn sc : Nat) (n i : Int) (h : ¬ Bad seed sn n) (hi : i < 0 ∨ n ≤ i) (w : World) : Calls Tryd.prog 35 #[.string seed, .slice ad sn sc, .int .i64 n, .int .i64 i] w (Two 0 1 w) := by
  by_cases h1 : i < 0
  · go_enter Tryd.func35, Tryd.ntmps35
    go_wp2_with (go_at_call 69; refine (rgiven_okw seed ad sn sc n h w).mono ?_; rintro e w1 ⟨rfl, rfl⟩)
    go_ret2
    exact ⟨rfl, Below.refl _ _⟩
  · have h2 : n ≤ i := by omega
    go_enter Tryd.func35, Tryd.ntmps35
    go_wp2_with (go_at_call 69; refine (rgiven_okw seed ad sn sc n h w).mono ?_; rintro e w1 ⟨rfl, rfl⟩)
    go_ret2
    exact ⟨rfl, Below.refl _ _⟩
end Go.Proofs.YtfkpeabkcdhcfaaDoor
