/-
  Walks of the reference's Mix and Unmix.
-/
import Derived.Test.YtfkpeabkcdhcfaaDoorY1
namespace Go.Proofs.YtfkpeabkcdhcfaaDoor
open Go.RowKit
set_option maxRecDepth 100000
theorem rword_at {s : ByteArray} {v : Value} {p : List Int} {w : World} (h : Net2 s v p w) (j R : Nat) (hj : j < 4) (hR : R < 65536) :
    Calls Tryd.prog 105 #[.string s, v, .int .i64 (65536 * (j : Int) + (R : Int))] w fun e w' => e = .returned (.int .i64 (wordOf s p (65536 * (j : Int) + (R : Int)) : Nat)) ∧ Below w.heap.size w w' :=
  rword_any s v p _ (by omega) w h
set_option maxHeartbeats 2000000 in
theorem rmix_any (seed : ByteArray) (v : Value) (l : List Int) (b x : Nat) (hb0 : 0 < b) (hb : b ≤ 256) (hx : x < b * b) (hin : ∀ i, In b (fgo (rndN seed l b) (x / b, x % b) i)) (w : World) (hN : Net2 seed v l w) :
    Calls Tryd.prog 96 #[.string seed, v, .int .i64 b, .int .i64 x] w fun e w' => e = .returned (.int .i64 (mixN (rndN seed l b) b x : Nat)) ∧ Below w.heap.size w w' := by
  have hx2 : x < 65536 := Nat.lt_of_lt_of_le hx (Nat.mul_le_mul hb hb)
  have hxd : ((x : Int) / (b : Int)) = ((x / b : Nat) : Int) := rfl
  have hxm : ((x : Int) % (b : Int)) = ((x % b : Nat) : Int) := rfl
  have HN := Lib.hid hN
  have HIN := Lib.hid hin
  have HXD := Lib.hid hxd
  have HXM := Lib.hid hxm
  clear hN hin hxd hxm hx
  have hbi : (0 : Int) < (b : Int) := by omega
  have hbn : ¬ b = 0 := by omega
  obtain ⟨f, hf⟩ : ∃ f, f = rndN seed l b := ⟨_, rfl⟩
  rw [← hf] at HIN
  have HF := Lib.hid hf
  clear hf
  go_enter Tryd.func96, Tryd.ntmps96
  go_wp2_with fail
  rw [HXD.out, HXM.out]
  obtain ⟨p0, hp0⟩ : ∃ p0, p0 = (x / b, x % b) := ⟨_, rfl⟩
  have hp1 : x / b = p0.1 := by rw [hp0]
  have hp2 : x % b = p0.2 := by rw [hp0]
  rw [hp1, hp2]
  rw [← hp0] at HIN
  have HP := Lib.hid hp0
  have hpl : p0.1 ≤ x := by rw [← hp1]; exact Nat.div_le_self _ _
  rw [show wrap64 ((p0.1 : Nat) : Int) = ((p0.1 : Nat) : Int) by unfold wrap64; omega]
  clear hp0 hp1 hp2 HXD HXM hpl
  go_loopw [9, 10, 11] (fun L R c wr => ∃ k : Nat, k ≤ 4 ∧ c = .int .i64 k ∧ L = .int .i64 ((fgo f p0 k).1 : Nat) ∧ R = .int .i64 ((fgo f p0 k).2 : Nat) ∧ Below w.heap.size w wr) (fun _ _ c _ => 4 - (intOf c).toNat)
  case atStart => exact ⟨0, by omega, rfl, rfl, rfl, Below.refl _ _⟩
  case round =>
    obtain ⟨k, hk, rfl, rfl, rfl, hbw⟩ := hrel
    have hik := HIN.out k
    obtain ⟨L, hL⟩ : ∃ L, L = (fgo f p0 k).1 := ⟨_, rfl⟩
    obtain ⟨R, hR⟩ : ∃ R, R = (fgo f p0 k).2 := ⟨_, rfl⟩
    have hLb : L < b := by rw [hL]; exact hik.1
    have hRb : R < b := by rw [hR]; exact hik.2
    rw [← hL, ← hR]
    have HL := Lib.hid hL
    have HR := Lib.hid hR
    have HB := Lib.hid hbw
    clear hL hR hbw hik
    by_cases hlt : k < 4
    · have hwd := rword_at (HN.out.later HB.out) k R (by omega) (by omega)
      obtain ⟨W, hW⟩ : ∃ W, W = wordOf seed l (65536 * ((k : Nat) : Int) + (R : Int)) := ⟨_, rfl⟩
      rw [← hW] at hwd
      have hWl : W < 281474976710656 := by rw [hW]; exact wordOf_lt _ _ _
      have hWf : f k R = W % b := by rw [HF.out, rndN, ← hW]
      have hWb : W % b < b := Nat.mod_lt _ hb0
      have hWm : ((W : Int) % (b : Int)) = ((W % b : Nat) : Int) := rfl
      have HWD := Lib.hid hwd
      have HWF := Lib.hid hWf
      have HWM := Lib.hid hWm
      clear hW hwd hWf hWm
      go_wp2_with fail
      refine HWD.out.mono ?_
      rintro e w5 ⟨rfl, hb5⟩
      have HB5 := Lib.hid (HB.out.trans (hb5.mono HB.out.size))
      clear hb5
      go_wp2_with fail
      rw [HWM.out]
      obtain ⟨F, hF⟩ : ∃ F, F = W % b := ⟨_, rfl⟩
      rw [← hF] at hWb ⊢
      have HFF := Lib.hid hF
      clear hF
      refine (rxor_any L F (by omega) (by omega) _).mono ?_
      rintro e w' ⟨rfl, rfl⟩
      obtain ⟨X, hX⟩ : ∃ X, X = L ^^^ F := ⟨_, rfl⟩
      rw [← hX]
      have HX := Lib.hid hX
      clear hX
      go_wp2_with fail
      go_roundw
      case rel =>
        refine ⟨k + 1, by omega, by go_num, ?_, ?_, HB5.out⟩
        · rw [fgo, fstep, ← HR.out]
        · rw [fgo, fstep, ← HR.out, ← HL.out, HX.out, HWF.out, HFF.out]
      case measure => simp [intOf]; omega
    · obtain rfl : k = 4 := by omega
      go_wp2_with fail
      go_ret
      refine ⟨?_, HB.out⟩
      have hj := join_wrap L R b hb ⟨hLb, hRb⟩
      rw [mixN, ← HP.out, ← HF.out, joinN, ← HL.out, ← HR.out, ← hj]
      rfl
set_option maxHeartbeats 2000000 in
theorem runmix_any (seed : ByteArray) (v : Value) (l : List Int) (b x : Nat) (hb0 : 0 < b) (hb : b ≤ 256) (hx : x < b * b) (hin : ∀ i, In b (bgo (rndN seed l b) (x / b, x % b) i)) (w : World) (hN : Net2 seed v l w) :
    Calls Tryd.prog 77 #[.string seed, v, .int .i64 b, .int .i64 x] w fun e w' => e = .returned (.int .i64 (backN (rndN seed l b) b x : Nat)) ∧ Below w.heap.size w w' := by
  have hx2 : x < 65536 := Nat.lt_of_lt_of_le hx (Nat.mul_le_mul hb hb)
  have hxd : ((x : Int) / (b : Int)) = ((x / b : Nat) : Int) := rfl
  have hxm : ((x : Int) % (b : Int)) = ((x % b : Nat) : Int) := rfl
  have HN := Lib.hid hN
  have HIN := Lib.hid hin
  have HXD := Lib.hid hxd
  have HXM := Lib.hid hxm
  clear hN hin hxd hxm hx
  have hbi : (0 : Int) < (b : Int) := by omega
  have hbn : ¬ b = 0 := by omega
  obtain ⟨f, hf⟩ : ∃ f, f = rndN seed l b := ⟨_, rfl⟩
  rw [← hf] at HIN
  have HF := Lib.hid hf
  clear hf
  go_enter Tryd.func77, Tryd.ntmps77
  go_wp2_with fail
  rw [HXD.out, HXM.out]
  obtain ⟨p0, hp0⟩ : ∃ p0, p0 = (x / b, x % b) := ⟨_, rfl⟩
  have hp1 : x / b = p0.1 := by rw [hp0]
  have hp2 : x % b = p0.2 := by rw [hp0]
  rw [hp1, hp2]
  rw [← hp0] at HIN
  have HP := Lib.hid hp0
  have hpl : p0.1 ≤ x := by rw [← hp1]; exact Nat.div_le_self _ _
  rw [show wrap64 ((p0.1 : Nat) : Int) = ((p0.1 : Nat) : Int) by unfold wrap64; omega]
  clear hp0 hp1 hp2 HXD HXM hpl
  go_loopw [9, 10, 11] (fun L R c wr => ∃ k : Nat, k ≤ 4 ∧ c = .int .i64 (3 - (k : Int)) ∧ L = .int .i64 ((bgo f p0 k).1 : Nat) ∧ R = .int .i64 ((bgo f p0 k).2 : Nat) ∧ Below w.heap.size w wr) (fun _ _ c _ => (intOf c + 1).toNat)
  case atStart => exact ⟨0, by omega, rfl, rfl, rfl, Below.refl _ _⟩
  case round =>
    obtain ⟨k, hk, rfl, rfl, rfl, hbw⟩ := hrel
    have hik := HIN.out k
    obtain ⟨L, hL⟩ : ∃ L, L = (bgo f p0 k).1 := ⟨_, rfl⟩
    obtain ⟨R, hR⟩ : ∃ R, R = (bgo f p0 k).2 := ⟨_, rfl⟩
    have hLb : L < b := by rw [hL]; exact hik.1
    have hRb : R < b := by rw [hR]; exact hik.2
    rw [← hL, ← hR]
    have HL := Lib.hid hL
    have HR := Lib.hid hR
    have HB := Lib.hid hbw
    clear hL hR hbw hik
    by_cases hlt : k < 4
    · have hc3 : 3 - (k : Int) = ((3 - k : Nat) : Int) := by omega
      have h0k : 0 ≤ 3 - (k : Int) := by omega
      rw [hc3]
      obtain ⟨m, hm⟩ : ∃ m, m = 3 - k := ⟨_, rfl⟩
      rw [← hm]
      have hmk : m + k = 3 := by omega
      have HM := Lib.hid hm
      clear hm hc3 h0k
      have hwd := rword_at (HN.out.later HB.out) m L (by omega) (by omega)
      obtain ⟨W, hW⟩ : ∃ W, W = wordOf seed l (65536 * ((m : Nat) : Int) + (L : Int)) := ⟨_, rfl⟩
      rw [← hW] at hwd
      have hWl : W < 281474976710656 := by rw [hW]; exact wordOf_lt _ _ _
      have hWf : f m L = W % b := by rw [HF.out, rndN, ← hW]
      have hWb : W % b < b := Nat.mod_lt _ hb0
      have hWm : ((W : Int) % (b : Int)) = ((W % b : Nat) : Int) := rfl
      have HWD := Lib.hid hwd
      have HWF := Lib.hid hWf
      have HWM := Lib.hid hWm
      clear hW hwd hWf hWm
      go_wp2_with fail
      refine HWD.out.mono ?_
      rintro e w5 ⟨rfl, hb5⟩
      have HB5 := Lib.hid (HB.out.trans (hb5.mono HB.out.size))
      clear hb5
      go_wp2_with fail
      rw [HWM.out]
      obtain ⟨F, hF⟩ : ∃ F, F = W % b := ⟨_, rfl⟩
      rw [← hF] at hWb ⊢
      have HFF := Lib.hid hF
      clear hF
      refine (rxor_any R F (by omega) (by omega) _).mono ?_
      rintro e w' ⟨rfl, rfl⟩
      obtain ⟨X, hX⟩ : ∃ X, X = R ^^^ F := ⟨_, rfl⟩
      rw [← hX]
      have HX := Lib.hid hX
      clear hX
      go_wp2_with fail
      go_roundw
      case rel =>
        refine ⟨k + 1, by omega, by go_num, ?_, ?_, HB5.out⟩
        · rw [bgo, bstep, ← HR.out, ← HL.out, ← HM.out, HX.out, HWF.out, HFF.out]
        · rw [bgo, bstep, ← HL.out]
      case measure => simp [intOf] <;> omega
    · obtain rfl : k = 4 := by omega
      go_wp2_with fail
      go_ret
      refine ⟨?_, HB.out⟩
      have hj := join_wrap L R b hb ⟨hLb, hRb⟩
      rw [backN, ← HP.out, ← HF.out, joinN, ← HL.out, ← HR.out, ← hj]
      rfl
end Go.Proofs.YtfkpeabkcdhcfaaDoor
