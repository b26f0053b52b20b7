/-
  Walk of (network).back.
-/
import Derived.Test.YtfkpeabkcdhcfaaDoorE3
import Derived.Test.YtfkpeabkcdhcfaaDoorM1
import Derived.Deep.RegionHeld3
import Derived.Deep.DeepCutAuto
namespace Go.Proofs.YtfkpeabkcdhcfaaDoor
open Go.RowKit
set_option maxRecDepth 100000
set_option maxHeartbeats 2000000 in
theorem backw (seed : ByteArray) (v : Value) (l : List Int) (b x : Nat) (hb0 : 0 < b) (hb : b ≤ 256) (hx : x < b * b) (hin : ∀ i, In b (bgo (rndN seed l b) (x / b, x % b) i)) (w : World) (hN : Net seed v l w) :
    Calls Tryd.prog 76 #[.agg #[.string seed, v, .int .i64 b], .int .i64 x] w fun e w' => e = .returned (.int .i64 (backN (rndN seed l b) b x : Nat)) ∧ Below w.heap.size w w' := by
  have HN := Lib.hid hN
  have HIN := Lib.hid hin
  clear hN hin
  have hc2 : (w.alloc (.cells #[.string seed, v, .int .i64 b] 86)).cell? ⟨w.heap.size, 2, none⟩ = some (.int .i64 b) := cell_of_row _ _ _ _ _ _ (heap_alloc_new _ _)
  have hb1 : Below w.heap.size w (w.alloc (.cells #[.string seed, v, .int .i64 b] 86)) := (Below.refl _ _).alloc (Nat.le_refl _) _
  have hN1 := HN.out.later hb1
  have hW1n : NetAt (w.alloc (.cells #[.string seed, v, .int .i64 b] 86)) w.heap.size seed v b := heap_alloc_new _ _
  have hlt1 : (w.alloc (.cells #[.string seed, v, .int .i64 b] 86)).heap.size = w.heap.size + 1 := by simp
  have hbi : (0 : Int) < (b : Int) := by omega
  have hbn : ¬ (b = 0) := by omega
  have hxx : x < 65536 := Nat.lt_of_lt_of_le hx (Nat.mul_le_mul hb hb)
  have hq : IntKind.i64.wrap ((x : Int) / (b : Int)) = ((x / b : Nat) : Int) := by
    have := Nat.div_le_self x b
    rw [show ((x : Int) / (b : Int)) = ((x / b : Nat) : Int) from rfl, IntKind.wrap_i64]
    generalize x / b = d at this ⊢
    omega
  have ht : (x : Int).tmod (b : Int) = ((x % b : Nat) : Int) := rfl
  have HQ := Lib.hid hq
  have HT := Lib.hid ht
  clear hq ht
  go_enter Tryd.func76, Tryd.ntmps76
  go_upto_region 1 with fail
  obtain ⟨W1, hW1⟩ : ∃ W1, W1 = w.alloc (.cells #[.string seed, v, .int .i64 b] 86) := ⟨_, rfl⟩
  rw [← hW1] at hc2 hb1 hN1 hW1n hlt1 ⊢
  obtain ⟨H, hH⟩ : ∃ H, H = w.heap.size := ⟨_, rfl⟩
  have HB1 := Lib.hid hb1
  have HN1 := Lib.hid hN1
  have HW1 := Lib.hid hW1n
  clear hW1 hb1 hN1 hW1n
  go_cut [5, 6] (fun p5 p6 wx => ∃ B5 B6, p5 = .pointer (some ⟨B5, 0, none⟩) ∧ p6 = .pointer (some ⟨B6, 0, none⟩) ∧ w.heap.size < B5 ∧ w.heap.size < B6 ∧ B5 ≠ B6 ∧ Num wx B5 (x / b) ∧ Num wx B6 (x % b) ∧ NetAt wx w.heap.size seed v b ∧ Below w.heap.size w wx)
  case first =>
    go_region_held3 (fun w' => w'.cell? ⟨w.heap.size, 2, none⟩ = some (.int .i64 b)) (first | go_keep) (fail)
    all_goals go_wp2
    all_goals go_meet
    all_goals rw [HQ.out, HT.out]
    · obtain ⟨a1, a2, a3, a4, a5, a6⟩ := pair_new (a := x / b) (c := x % b) hlt1 HB1.out HW1.out
      exact ⟨_, _, rfl, rfl, a1, a2, by omega, a3, a4, a5, a6⟩
    · obtain ⟨a1, a2, a3, a4, a5, a6⟩ := pair_new (a := x % b) (c := x / b) hlt1 HB1.out HW1.out
      exact ⟨_, _, rfl, rfl, a2, a1, by omega, a4, a3, a5, a6⟩
  case rest =>
    obtain ⟨B5, B6, rfl, rfl, h5, h6, hne, hn5, hn6, hnet, hbel⟩ := hcut
    have HN2 := Lib.hid (HN.out.later hbel)
    clear HN1 HW1 HB1 HQ HT hc2 hlt1
    clear W1
    obtain ⟨p0, hp0⟩ : ∃ p0, p0 = (x / b, x % b) := ⟨_, rfl⟩
    obtain ⟨f, hf⟩ : ∃ f, f = rndN seed l b := ⟨_, rfl⟩
    rw [← hp0, ← hf] at HIN
    have hn5' : Num wc B5 (bgo f p0 0).1 := by rw [hp0]; exact hn5
    have hn6' : Num wc B6 (bgo f p0 0).2 := by rw [hp0]; exact hn6
    have HF := Lib.hid hf
    have HP := Lib.hid hp0
    have HNE := Lib.hid hne
    have H5 := Lib.hid hn5'
    have H6 := Lib.hid hn6'
    have HNET := Lib.hid hnet
    have HBEL := Lib.hid hbel
    clear hn5 hn6 hn5' hn6' hf hp0 hne hnet hbel
    go_wp2_with fail
    go_loopw [8] (fun c wr => ∃ k : Nat, k ≤ 4 ∧ c = .int .i64 (3 - (k : Int)) ∧ Num wr B5 (bgo f p0 k).1 ∧ Num wr B6 (bgo f p0 k).2 ∧ NetAt wr w.heap.size seed v b ∧ Below w.heap.size w wr) (fun c _ => (intOf c + 1).toNat)
    case atStart => exact ⟨0, by omega, rfl, H5.out, H6.out, HNET.out, HBEL.out⟩
    case round =>
      obtain ⟨k, hk, rfl, hr5, hr6, hrn, hrb⟩ := hrel
      clear H5 H6 HNET HBEL HN2
      by_cases hlt : k < 4
      · have hink := HIN.out k
        have hm := back1_any seed v l b (3 - k) (bgo f p0 k).1 (bgo f p0 k).2 B6 B5 w.heap.size w.heap.size hb0 (by omega) (by omega) (by have := hink.2; omega) (by have := hink.1; omega) wr (HN.out.later hrb) hr6 hr5 hrn (Ne.symm HNE.out) (by omega) (by omega)
        rw [← HF.out, show ((3 - k : Nat) : Int) = 3 - (k : Int) by omega] at hm
        have HM := Lib.hid hm
        have HRB := Lib.hid hrb
        clear hm hr5 hr6 hrn hrb hink
        go_wp2_with (go_at_call 104; refine HM.out.mono ?_; rintro e w2 ⟨rfl, hm5, hm6, hmn, hmb⟩; have M6 := Lib.hid hm6; have M5 := Lib.hid hm5; have MN := Lib.hid hmn; have MB := Lib.hid hmb; clear hm6 hm5 hmn hmb)
        go_roundw
        case rel => exact ⟨k + 1, by omega, by go_num, M5.out, M6.out, MN.out, HRB.out.trans MB.out⟩
        case measure => simp [intOf]; omega
      · obtain rfl : k = 4 := by omega
        have hc5 : wr.cell? ⟨B5, 0, none⟩ = some (.int .i64 ((bgo f p0 4).1 : Nat)) := cell_of_row _ _ _ _ _ _ hr5
        have hc6 : wr.cell? ⟨B6, 0, none⟩ = some (.int .i64 ((bgo f p0 4).2 : Nat)) := cell_of_row _ _ _ _ _ _ hr6
        have hcb : wr.cell? ⟨w.heap.size, 2, none⟩ = some (.int .i64 b) := cell_of_row _ _ _ _ _ _ hrn
        have hin4 := HIN.out 4
        have HRB := Lib.hid hrb
        clear hr5 hr6 hrn hrb
        go_wp2_with fail
        go_ret
        refine ⟨?_, HRB.out⟩
        have hj := join_wrap (bgo f p0 4).1 (bgo f p0 4).2 b hb hin4
        rw [backN, ← HP.out, ← HF.out, joinN, ← hj]
        rfl
end Go.Proofs.YtfkpeabkcdhcfaaDoor
