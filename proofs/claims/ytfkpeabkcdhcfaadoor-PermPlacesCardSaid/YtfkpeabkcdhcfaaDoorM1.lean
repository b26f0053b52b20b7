/-
  Walk of (network).mix.
-/
import Derived.Test.YtfkpeabkcdhcfaaDoorE2
import Derived.Test.YtfkpeabkcdhcfaaDoorF1
import Derived.Deep.RegionHeld3
import Derived.Deep.DeepCutAuto
namespace Go.Proofs.YtfkpeabkcdhcfaaDoor
open Go.RowKit
set_option maxRecDepth 100000
theorem pair_new {W1 w : World} {H a c : Nat} {seed : ByteArray} {v : Value} {b : Nat} (h : W1.heap.size = H + 1) (hb : Below H w W1) (hn : NetAt W1 H seed v b) :
    H < H + 1 ∧ H < H + 1 + 1 ∧ Num ((W1.alloc (.cells #[.int .i64 (a : Int)] 3)).alloc (.cells #[.int .i64 (c : Int)] 3)).drew (H + 1) a ∧ Num ((W1.alloc (.cells #[.int .i64 (a : Int)] 3)).alloc (.cells #[.int .i64 (c : Int)] 3)).drew (H + 1 + 1) c ∧
    NetAt ((W1.alloc (.cells #[.int .i64 (a : Int)] 3)).alloc (.cells #[.int .i64 (c : Int)] 3)).drew H seed v b ∧ Below H w ((W1.alloc (.cells #[.int .i64 (a : Int)] 3)).alloc (.cells #[.int .i64 (c : Int)] 3)).drew := by
  have e1 := heap_alloc2_old W1 (.cells #[.int .i64 (a : Int)] 3) (.cells #[.int .i64 (c : Int)] 3)
  have e2 := heap_alloc2_new W1 (.cells #[.int .i64 (a : Int)] 3) (.cells #[.int .i64 (c : Int)] 3)
  rw [h] at e1 e2
  have hb2 : Below W1.heap.size W1 ((W1.alloc (.cells #[.int .i64 (a : Int)] 3)).alloc (.cells #[.int .i64 (c : Int)] 3)).drew := (((Below.refl _ _).alloc (Nat.le_refl _) _).alloc (by simp) _).drew
  exact ⟨by omega, by omega, e1, e2, hn.later hb2, hb.trans (hb2.mono (by omega))⟩
theorem join_wrap (L R b : Nat) (hb : b ≤ 256) (h : In b (L, R)) : wrap64 (wrap64 ((L : Int) * (b : Int)) + (R : Int)) = ((L * b + R : Nat) : Int) := by
  have h1 : L < b := h.1
  have h2 : R < b := h.2
  have h3 : L * b ≤ 256 * 256 := Nat.mul_le_mul (by omega) hb
  rw [show ((L : Int) * (b : Int)) = ((L * b : Nat) : Int) from rfl]
  generalize L * b = d at h3 ⊢
  unfold wrap64
  omega
set_option maxHeartbeats 2000000 in
theorem mixw (seed : ByteArray) (v : Value) (l : List Int) (b x : Nat) (hb0 : 0 < b) (hb : b ≤ 256) (hx : x < b * b) (hin : ∀ i, In b (fgo (rndN seed l b) (x / b, x % b) i)) (w : World) (hN : Net seed v l w) :
    Calls Tryd.prog 75 #[.agg #[.string seed, v, .int .i64 b], .int .i64 x] w fun e w' => e = .returned (.int .i64 (mixN (rndN seed l b) b x : Nat)) ∧ Below w.heap.size w w' := by
  have HN := Lib.hid hN
  have HIN := Lib.hid hin
  clear hN hin
  have hc2 : (w.alloc (.cells #[.string seed, v, .int .i64 b] 86)).cell? ⟨w.heap.size, 2, none⟩ = some (.int .i64 b) := cell_of_row _ _ _ _ _ _ (heap_alloc_new _ _)
  have hb1 : Below w.heap.size w (w.alloc (.cells #[.string seed, v, .int .i64 b] 86)) := (Below.refl _ _).alloc (Nat.le_refl _) _
  have hN1 := HN.out.later hb1
  have hW1n : NetAt (w.alloc (.cells #[.string seed, v, .int .i64 b] 86)) w.heap.size seed v b := heap_alloc_new _ _
  have hlt1 : (w.alloc (.cells #[.string seed, v, .int .i64 b] 86)).heap.size = w.heap.size + 1 := by simp
  have hbi : (0 : Int) < (b : Int) := by omega
  have hbn : ¬ (b = 0) := by omega
  have hxx : x < 65536 := Nat.lt_of_lt_of_le hx (Nat.mul_le_mul hb hb)
  have hq : IntKind.i64.wrap ((x : Int) / (b : Int)) = ((x / b : Nat) : Int) := by
    have := Nat.div_le_self x b
    rw [show ((x : Int) / (b : Int)) = ((x / b : Nat) : Int) from rfl, IntKind.wrap_i64]
    generalize x / b = d at this ⊢
    omega
  have ht : (x : Int).tmod (b : Int) = ((x % b : Nat) : Int) := rfl
  have HQ := Lib.hid hq
  have HT := Lib.hid ht
  clear hq ht
  go_enter Tryd.func75, Tryd.ntmps75
  go_upto_region 1 with fail
  obtain ⟨W1, hW1⟩ : ∃ W1, W1 = w.alloc (.cells #[.string seed, v, .int .i64 b] 86) := ⟨_, rfl⟩
  rw [← hW1] at hc2 hb1 hN1 hW1n hlt1 ⊢
  obtain ⟨H, hH⟩ : ∃ H, H = w.heap.size := ⟨_, rfl⟩
  have HB1 := Lib.hid hb1
  have HN1 := Lib.hid hN1
  have HW1 := Lib.hid hW1n
  clear hW1 hb1 hN1 hW1n
  go_cut [5, 6] (fun p5 p6 wx => ∃ B5 B6, p5 = .pointer (some ⟨B5, 0, none⟩) ∧ p6 = .pointer (some ⟨B6, 0, none⟩) ∧ w.heap.size < B5 ∧ w.heap.size < B6 ∧ B5 ≠ B6 ∧ Num wx B5 (x / b) ∧ Num wx B6 (x % b) ∧ NetAt wx w.heap.size seed v b ∧ Below w.heap.size w wx)
  case first =>
    go_region_held3 (fun w' => w'.cell? ⟨w.heap.size, 2, none⟩ = some (.int .i64 b)) (first | go_keep) (fail)
    all_goals go_wp2
    all_goals go_meet
    all_goals rw [HQ.out, HT.out]
    · obtain ⟨a1, a2, a3, a4, a5, a6⟩ := pair_new (a := x / b) (c := x % b) hlt1 HB1.out HW1.out
      exact ⟨_, _, rfl, rfl, a1, a2, by omega, a3, a4, a5, a6⟩
    · obtain ⟨a1, a2, a3, a4, a5, a6⟩ := pair_new (a := x % b) (c := x / b) hlt1 HB1.out HW1.out
      exact ⟨_, _, rfl, rfl, a2, a1, by omega, a4, a3, a5, a6⟩
  case rest =>
    obtain ⟨B5, B6, rfl, rfl, h5, h6, hne, hn5, hn6, hnet, hbel⟩ := hcut
    have HN2 := Lib.hid (HN.out.later hbel)
    clear HN1 HW1 HB1 HQ HT hc2 hlt1
    clear W1
    obtain ⟨p0, hp0⟩ : ∃ p0, p0 = (x / b, x % b) := ⟨_, rfl⟩
    obtain ⟨f, hf⟩ : ∃ f, f = rndN seed l b := ⟨_, rfl⟩
    rw [← hp0, ← hf] at HIN
    have hn5' : Num wc B5 (fgo f p0 0).1 := by rw [hp0]; exact hn5
    have hn6' : Num wc B6 (fgo f p0 0).2 := by rw [hp0]; exact hn6
    have HF := Lib.hid hf
    have HP := Lib.hid hp0
    have HNE := Lib.hid hne
    have H5 := Lib.hid hn5'
    have H6 := Lib.hid hn6'
    have HNET := Lib.hid hnet
    have HBEL := Lib.hid hbel
    clear hn5 hn6 hn5' hn6' hf hp0 hne hnet hbel
    go_wp2_with fail
    go_loopw [18] (fun c wr => ∃ k : Nat, k ≤ 4 ∧ c = .int .i64 k ∧ Num wr B5 (fgo f p0 k).1 ∧ Num wr B6 (fgo f p0 k).2 ∧ NetAt wr w.heap.size seed v b ∧ Below w.heap.size w wr) (fun c _ => 4 - (intOf c).toNat)
    case atStart => exact ⟨0, by omega, rfl, H5.out, H6.out, HNET.out, HBEL.out⟩
    case round =>
      obtain ⟨k, hk, rfl, hr5, hr6, hrn, hrb⟩ := hrel
      clear H5 H6 HNET HBEL HN2
      by_cases hlt : k < 4
      · have hink := HIN.out k
        have hm := mix1_any seed v l b k (fgo f p0 k).1 (fgo f p0 k).2 B6 B5 w.heap.size w.heap.size hb0 (by omega) hlt (by have := hink.2; omega) (by have := hink.1; omega) wr (HN.out.later hrb) hr6 hr5 hrn (Ne.symm HNE.out) (by omega) (by omega)
        rw [← HF.out] at hm
        have HM := Lib.hid hm
        have HRB := Lib.hid hrb
        clear hm hr5 hr6 hrn hrb hink
        go_wp2_with (go_at_call 102; refine HM.out.mono ?_; rintro e w2 ⟨rfl, hm6, hm5, hmn, hmb⟩; have M6 := Lib.hid hm6; have M5 := Lib.hid hm5; have MN := Lib.hid hmn; have MB := Lib.hid hmb; clear hm6 hm5 hmn hmb)
        go_roundw
        case rel => exact ⟨k + 1, by omega, by go_num, M5.out, M6.out, MN.out, HRB.out.trans MB.out⟩
        case measure => simp [intOf]; omega
      · obtain rfl : k = 4 := by omega
        have hc5 : wr.cell? ⟨B5, 0, none⟩ = some (.int .i64 ((fgo f p0 4).1 : Nat)) := cell_of_row _ _ _ _ _ _ hr5
        have hc6 : wr.cell? ⟨B6, 0, none⟩ = some (.int .i64 ((fgo f p0 4).2 : Nat)) := cell_of_row _ _ _ _ _ _ hr6
        have hcb : wr.cell? ⟨w.heap.size, 2, none⟩ = some (.int .i64 b) := cell_of_row _ _ _ _ _ _ hrn
        have hin4 := HIN.out 4
        have HRB := Lib.hid hrb
        clear hr5 hr6 hrn hrb
        go_wp2_with fail
        go_ret
        refine ⟨?_, HRB.out⟩
        have hj := join_wrap (fgo f p0 4).1 (fgo f p0 4).2 b hb hin4
        rw [mixN, ← HP.out, ← HF.out, joinN, ← hj]
        rfl
end Go.Proofs.YtfkpeabkcdhcfaaDoor
