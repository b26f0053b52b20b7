/-
  Walks of walk at back and of Back.
-/
import Derived.Test.YtfkpeabkcdhcfaaDoorM2
import Derived.Test.YtfkpeabkcdhcfaaDoorM5
namespace Go.Proofs.YtfkpeabkcdhcfaaDoor
open Go.RowKit
set_option maxRecDepth 100000
set_option maxHeartbeats 1000000 in
theorem walk_back (seed : ByteArray) (v : Value) (l : List Int) (b n i : Nat) (hG : Good (rndN seed l b) b) (hn : n ≤ b * b) (hi : i < n) (w : World) (hN : Net seed v l w) :
    Calls Tryd.prog 74 #[.int .i64 n, .int .i64 i, .func (.func 76) #[.agg #[.string seed, v, .int .i64 b]] #[]] w
      fun e w' => e = .returned (.int .i64 (place (backN (rndN seed l b) b) n i : Nat)) ∧ Below w.heap.size w w' := by
  have hm : ∀ x w', x < b * b → Net seed v l w' → Calls Tryd.prog 76 #[.agg #[.string seed, v, .int .i64 b], .int .i64 x] w' fun e w'' => e = .returned (.int .i64 (backN (rndN seed l b) b x : Nat)) ∧ Below w'.heap.size w' w'' :=
    fun x w' hx hN' => backw seed v l b x hG.b0 hG.b1 hx (hG.bin x hx) w' hN'
  have hp := hG.perm.symm
  obtain ⟨h, hh⟩ : ∃ h, h = mixN (rndN seed l b) b := ⟨_, rfl⟩
  obtain ⟨g, hg⟩ : ∃ g, g = backN (rndN seed l b) b := ⟨_, rfl⟩
  rw [← hg] at hm hp ⊢
  rw [← hh] at hp
  obtain ⟨M, hM⟩ : ∃ M, M = b * b := ⟨_, rfl⟩
  rw [← hM] at hm hp hn
  have hMb : M ≤ 65536 := by rw [hM]; exact Nat.mul_le_mul hG.b1 hG.b1
  have HM := Lib.hid hm
  have HN := Lib.hid hN
  clear hm hN hg hh hM hG
  go_enter Tryd.func74, Tryd.ntmps74
  go_wp2_with (go_at_call 76; refine (HM.out i w (by omega) HN.out).mono ?_; rintro e w1 ⟨rfl, hb1⟩; have HB1 := Lib.hid hb1; clear hb1)
  go_loopw [7] (fun c wr => ∃ x : Nat, c = .int .i64 x ∧ On g n i x ∧ Below w.heap.size w wr) (fun c _ => left g n (intOf c).toNat)
  case atStart => exact ⟨g i, rfl, On.start g n i, HB1.out⟩
  case round =>
    obtain ⟨x, rfl, ho, hb⟩ := hrel
    have hxM := ho.lt hp (show i < M by omega)
    have HO := Lib.hid ho
    have HB := Lib.hid hb
    clear ho hb HB1
    by_cases hlt : x < n
    · go_wp2_with fail
      go_ret
      refine ⟨?_, HB.out⟩
      rw [← HO.out.stop hlt]
      rfl
    · go_wp2_with (go_at_call 76; refine (HM.out x wr hxM (HN.out.later HB.out)).mono ?_; rintro e w2 ⟨rfl, hb2⟩; have HB2 := Lib.hid hb2; clear hb2)
      go_roundw
      case rel => exact ⟨g x, rfl, HO.out.step (by omega), HB.out.trans (HB2.out.mono HB.out.size)⟩
      case measure =>
        have := left_step (HO.out.comes hp hn hi) (show n ≤ x by omega)
        simpa [intOf] using this
/-- the number whose place is x -/
noncomputable def backPlaceN (seed : ByteArray) (l : List Int) (n i : Nat) : Nat := place (backN (rndN seed l (bOf n)) (bOf n)) n i
set_option maxHeartbeats 1000000 in
theorem back_ok (seed : ByteArray) (ad : Option Addr) (sn sc : Nat) (l : List Int) (n i : Nat) (hs : seed.size ≤ 32) (hp : sn ≤ 8) (hn : n ≤ 65536) (hi : i < n) (w : World) (hN : Net seed (.slice ad sn sc) l w) :
    Calls Tryd.prog 34 #[.string seed, .slice ad sn sc, .int .i64 n, .int .i64 i] w fun e w' => e = .returned (.tuple #[.int .i64 (backPlaceN seed l n i : Nat), .int .i64 0]) ∧ Below w.heap.size w w' := by
  have HN := Lib.hid hN
  clear hN
  have h1 : ¬ (i : Int) < 0 := by omega
  have h2 : ¬ (n : Int) ≤ (i : Int) := by omega
  go_enter Tryd.func34, Tryd.ntmps34
  go_wp2_with (first
    | (go_at_call 66; refine (given_ok seed ad sn sc n hs hp (by omega) w).mono ?_; rintro e w1 ⟨rfl, hb1⟩; have HB1 := Lib.hid hb1; clear hb1)
    | (go_at_call 68; refine (made_any seed ad sn sc n hn _).mono ?_; rintro e w2 ⟨rfl, hb2⟩; have HB2 := Lib.hid (HB1.out.trans (hb2.mono HB1.out.size)); clear hb2)
    | (go_at_call 74; refine (walk_back seed (.slice ad sn sc) l (bOf n) n i (good_net seed l n) (big_net n hn) hi _ (HN.out.later HB2.out)).mono ?_; rintro e w3 ⟨rfl, hb3⟩; have HB3 := Lib.hid (HB2.out.trans (hb3.mono HB2.out.size)); clear hb3))
  go_ret2
  exact ⟨rfl, HB3.out⟩
end Go.Proofs.YtfkpeabkcdhcfaaDoor
