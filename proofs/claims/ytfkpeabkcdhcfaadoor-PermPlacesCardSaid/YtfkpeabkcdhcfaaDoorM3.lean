/-
  Walk of walk at mix.
-/
import Derived.Test.YtfkpeabkcdhcfaaDoorM1
import Derived.Test.YtfkpeabkcdhcfaaDoorF3
namespace Go.Proofs.YtfkpeabkcdhcfaaDoor
open Go.RowKit
set_option maxRecDepth 100000
/-- what a network of 2^j must satisfy -/
structure Good (f : Nat → Nat → Nat) (b : Nat) : Prop where
  b0 : 0 < b
  b1 : b ≤ 256
  perm : Perm (b * b) (mixN f b) (backN f b)
  fin : ∀ x, x < b * b → ∀ i, In b (fgo f (x / b, x % b) i)
  bin : ∀ x, x < b * b → ∀ i, In b (bgo f (x / b, x % b) i)
theorem Good.make (f : Nat → Nat → Nat) (j : Nat) (hj : j ≤ 8) (hf : ∀ k r, f k r < 2 ^ j) : Good f (2 ^ j) :=
  ⟨Nat.two_pow_pos j, Nat.pow_le_pow_right (by decide) hj, Perm.mix hf, fun _ hx i => fgo_in hf (cut_in hx) i, fun _ hx i => bgo_in hf (cut_in hx) i⟩
set_option maxHeartbeats 1000000 in
theorem walk_mix (seed : ByteArray) (v : Value) (l : List Int) (b n i : Nat) (hG : Good (rndN seed l b) b) (hn : n ≤ b * b) (hi : i < n) (w : World) (hN : Net seed v l w) :
    Calls Tryd.prog 74 #[.int .i64 n, .int .i64 i, .func (.func 75) #[.agg #[.string seed, v, .int .i64 b]] #[]] w
      fun e w' => e = .returned (.int .i64 (place (mixN (rndN seed l b) b) n i : Nat)) ∧ Below w.heap.size w w' := by
  have hm : ∀ x w', x < b * b → Net seed v l w' → Calls Tryd.prog 75 #[.agg #[.string seed, v, .int .i64 b], .int .i64 x] w' fun e w'' => e = .returned (.int .i64 (mixN (rndN seed l b) b x : Nat)) ∧ Below w'.heap.size w' w'' :=
    fun x w' hx hN' => mixw seed v l b x hG.b0 hG.b1 hx (hG.fin x hx) w' hN'
  have hp := hG.perm
  obtain ⟨h, hh⟩ : ∃ h, h = backN (rndN seed l b) b := ⟨_, rfl⟩
  obtain ⟨g, hg⟩ : ∃ g, g = mixN (rndN seed l b) b := ⟨_, rfl⟩
  rw [← hg] at hm hp ⊢
  rw [← hh] at hp
  obtain ⟨M, hM⟩ : ∃ M, M = b * b := ⟨_, rfl⟩
  rw [← hM] at hm hp hn
  have hMb : M ≤ 65536 := by rw [hM]; exact Nat.mul_le_mul hG.b1 hG.b1
  have HM := Lib.hid hm
  have HN := Lib.hid hN
  clear hm hN hg hh hM hG
  go_enter Tryd.func74, Tryd.ntmps74
  go_wp2_with (go_at_call 75; refine (HM.out i w (by omega) HN.out).mono ?_; rintro e w1 ⟨rfl, hb1⟩; have HB1 := Lib.hid hb1; clear hb1)
  go_loopw [7] (fun c wr => ∃ x : Nat, c = .int .i64 x ∧ On g n i x ∧ Below w.heap.size w wr) (fun c _ => left g n (intOf c).toNat)
  case atStart => exact ⟨g i, rfl, On.start g n i, HB1.out⟩
  case round =>
    obtain ⟨x, rfl, ho, hb⟩ := hrel
    have hxM := ho.lt hp (show i < M by omega)
    have HO := Lib.hid ho
    have HB := Lib.hid hb
    clear ho hb HB1
    by_cases hlt : x < n
    · go_wp2_with fail
      go_ret
      refine ⟨?_, HB.out⟩
      rw [← HO.out.stop hlt]
      rfl
    · go_wp2_with (go_at_call 75; refine (HM.out x wr hxM (HN.out.later HB.out)).mono ?_; rintro e w2 ⟨rfl, hb2⟩; have HB2 := Lib.hid hb2; clear hb2)
      go_roundw
      case rel => exact ⟨g x, rfl, HO.out.step (by omega), HB.out.trans (HB2.out.mono HB.out.size)⟩
      case measure =>
        have := left_step (HO.out.comes hp hn hi) (show n ≤ x by omega)
        simpa [intOf] using this
end Go.Proofs.YtfkpeabkcdhcfaaDoor
