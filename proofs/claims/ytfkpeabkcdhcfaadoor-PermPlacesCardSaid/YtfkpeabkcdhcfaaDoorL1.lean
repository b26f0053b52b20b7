/-
  Walk of the examples (lives).
-/
import Derived.Test.YtfkpeabkcdhcfaaDoorP3
import Derived.Test.YtfkpeabkcdhcfaaDoorF4
import Derived.Test.YtfkpeabkcdhcfaaDoorR1
import Derived.BigQuiet
namespace Go.Proofs.YtfkpeabkcdhcfaaDoor
open Go.RowKit
set_option maxRecDepth 100000
def sS : ByteArray := { data := #[115] }
theorem live_at (ad : Option Addr) (sc : Nat) (W : World) (hN : Net sS (.slice ad 1 sc) [3] W) :
    Calls Tryd.prog 32 #[.string { data := #[115] }, .slice ad 1 sc, .int .i64 1, .int .i64 0] W fun e w' => e = .returned (.tuple #[.int .i64 0, .int .i64 0]) ∧ Below W.heap.size W w' := by
  have h := at_ok sS ad 1 sc [3] 1 0 (by decide) (by omega) (by omega) (by omega) W hN
  have h0 : placeN sS [3] 1 0 = 0 := by have := placeN_lt sS [3] (n := 1) (i := 0) (by omega) (by omega); omega
  rw [h0] at h
  exact h
theorem OwnI.at {base g n cap : Nat} {seed : ByteArray} {l : List Int} {m : Nat} {w : World} (h : OwnI base (.slice (some ⟨g, 0, none⟩) n cap) (upto seed l m m) w) (i : Nat) (hi : i < m) : w.cell? ⟨g, i, none⟩ = some (.int .i64 (placeN seed l m i : Nat)) := by
  rw [h.cell i (by rw [upto_length]; exact hi), upto_getD _ _ _ _ _ hi]
theorem lt_of_own' {base g n cap : Nat} {l : List Int} {w : World} (h : OwnI base (.slice (some ⟨g, 0, none⟩) n cap) l w) : g < w.heap.size := lt_of_own h
theorem sum_nine : sumTo (fun i => i) 9 = 36 := rfl
theorem sumTo_le (c : Nat → Nat) (m : Nat) : ∀ n, (∀ i, i < n → c i ≤ m) → sumTo c n ≤ n * m
  | 0, _ => by simp [sumTo]
  | n + 1, h => by
    have h1 := sumTo_le c m n (fun i hi => h i (by omega))
    have h2 := h n (by omega)
    rw [sumTo, Nat.succ_mul]; omega
set_option maxHeartbeats 1000000 in
theorem lives_any (w : World) (h0 : 0 < w.heap.size) (hK : HoldK w) : Calls Tryd.prog 27 #[] w fun e w' => e = .returned (.bool true) ∧ Below w.heap.size w w' := by
  have hN : ∀ (a : Value) (l : List Int) (W : World), Below w.heap.size w W → l.length ≤ 900 → Ok64 l → ReadI a l W → Net sS a l W := fun a l W hb hl h64 hr =>
    ⟨by decide, hl, h64, by have := hb.size; omega, hK.later h0 hb, hr⟩
  have ok3 : Ok64 [3] := fun n hn => by obtain rfl := List.mem_singleton.1 hn; omega
  have h3 : ∀ (W : World), ReadI (.slice (some ⟨W.heap.size, 0, none⟩) 1 1) [3] (W.alloc (.cells #[.int .i64 3] 3)) := fun W => .inr ⟨_, 1, rfl, cell_one_new W _ 3⟩
  have HN := Lib.hid hN
  have H3 := Lib.hid h3
  have HK := Lib.hid hK
  clear hN h3 hK
  go_enter Tryd.func27, Tryd.ntmps27
  go_wp2_with fail
  have b1 : Below w.heap.size w (w.alloc (.cells #[.int .i64 3] 3)) := (Below.refl _ _).alloc (Nat.le_refl _) _
  refine (live_at _ 1 _ (HN.out _ _ _ b1 (by decide) ok3 (H3.out w))).mono ?_
  rintro e w1 ⟨rfl, hb1⟩
  have HB1 := Lib.hid (b1.trans (hb1.mono b1.size))
  clear b1 hb1
  go_wp2_with fail
  have b2 : Below w.heap.size w (w1.alloc (.cells #[.int .i64 3] 3)) := HB1.out.alloc HB1.out.size _
  refine (all_ok sS _ 1 1 [3] 2 (by decide) (by omega) (by omega) _ (HN.out _ _ _ b2 (by decide) ok3 (H3.out w1))).mono ?_
  rintro e w2 ⟨g2, rfl, hown2, hb2⟩
  have HO2 := Lib.hid hown2
  have HB2 := Lib.hid (b2.trans (hb2.mono b2.size))
  clear b2 hb2 hown2
  go_wp2_with fail
  refine (all_ok sS none 0 0 [] 9 (by decide) (by omega) (by omega) _ (HN.out _ _ _ HB2.out (by decide) (fun _ h => absurd h (by simp)) (.inl ⟨rfl, rfl⟩))).mono ?_
  rintro e w3 ⟨g3, rfl, hown3, hb3⟩
  have hc0 := (hb3.cell (p := ⟨g2, 0, none⟩) (lt_of_own HO2.out)).trans (HO2.out.at 0 (by omega))
  have hc1 := (hb3.cell (p := ⟨g2, 1, none⟩) (lt_of_own HO2.out)).trans (HO2.out.at 1 (by omega))
  have hx0 := placeN_lt sS [3] (n := 2) (i := 0) (by omega) (by omega)
  have hx1 := placeN_lt sS [3] (n := 2) (i := 1) (by omega) (by omega)
  have hne : placeN sS [3] 2 0 ≠ placeN sS [3] 2 1 := fun h => absurd (placeN_inj sS [3] (by omega) (by omega) (by omega) h) (by decide)
  obtain ⟨x0, hx0'⟩ : ∃ x, x = placeN sS [3] 2 0 := ⟨_, rfl⟩
  obtain ⟨x1, hx1'⟩ : ∃ x, x = placeN sS [3] 2 1 := ⟨_, rfl⟩
  rw [← hx0'] at hx0 hc0 hne
  rw [← hx1'] at hx1 hc1 hne
  have HB3 := Lib.hid (HB2.out.trans (hb3.mono HB2.out.size))
  have HO3 := Lib.hid hown3
  clear hb3 hown3 hx0' hx1' HO2
  go_wp2_with fail
  go_loopw [7, 8] (fun s c wr => ∃ k : Nat, k ≤ 9 ∧ c = .int .i64 k ∧ s = .int .i64 (sumTo (placeN sS [] 9) k : Nat) ∧ wr = w3) (fun _ c _ => 9 - (intOf c).toNat)
  case atStart => exact ⟨0, by omega, rfl, rfl, rfl⟩
  case round =>
    obtain ⟨k, hk, rfl, rfl, rfl⟩ := hrel
    by_cases hlt : k < 9
    · have hck := HO3.out.at k hlt
      have hpk := placeN_lt sS [] (n := 9) (i := k) (by omega) hlt
      have hsl := sumTo_le (placeN sS [] 9) 9 k (fun i hi => by have := placeN_lt sS [] (n := 9) (i := i) (by omega) (by omega); omega)
      obtain ⟨p, hp⟩ : ∃ p, p = placeN sS [] 9 k := ⟨_, rfl⟩
      obtain ⟨s, hs⟩ : ∃ s, s = sumTo (placeN sS [] 9) k := ⟨_, rfl⟩
      rw [← hp] at hck hpk
      rw [← hs] at hsl ⊢
      have HP := Lib.hid hp
      have HS := Lib.hid hs
      clear hp hs
      go_wp2_with fail
      go_roundw
      case rel => exact ⟨k + 1, by omega, by go_num, by rw [sumTo, ← HP.out, ← HS.out]; go_num, trivial⟩
      case measure => simp [intOf]; omega
    · obtain rfl : k = 9 := by omega
      have hs : sumTo (placeN sS [] 9) 9 = 36 := by rw [sum_places sS [] 9 (by omega), sum_nine]
      rw [hs]
      clear hs
      rcases (show (x0 = 0 ∧ x1 = 1) ∨ (x0 = 1 ∧ x1 = 0) by omega) with ⟨rfl, rfl⟩ | ⟨rfl, rfl⟩
      all_goals
        clear hne hx0 hx1
        go_wp2_with fail
        go_quiet (fail)
        go_wp2
        go_ret
        exact ⟨rfl, below_drewN HB3.out _⟩
end Go.Proofs.YtfkpeabkcdhcfaaDoor
