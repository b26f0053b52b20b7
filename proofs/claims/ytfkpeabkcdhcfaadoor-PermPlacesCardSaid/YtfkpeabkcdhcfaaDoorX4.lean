/-
  Walk of the reference's padded.
-/
import Derived.Test.YtfkpeabkcdhcfaaDoorX3
import Derived.Test.YtfkpeabkcdhcfaaDoorE1
namespace Go.Proofs.YtfkpeabkcdhcfaaDoor
open Go.RowKit
set_option maxRecDepth 100000
theorem ownB_empty (base : Nat) (w : World) (hb : base ≤ w.heap.size) : OwnB base (.slice (some ⟨w.heap.size, 0, none⟩) 0 0) [] (w.alloc (.cells #[] 5)) :=
  ⟨by simp, .inr ⟨w.heap.size, 0, #[], rfl, hb, heap_alloc_new _ _, Nat.le_refl _, by unfold maxLen; omega, rfl, rfl⟩⟩
set_option maxHeartbeats 1000000 in
theorem padded_any (g0 cap0 : Nat) (l : List UInt8) (h1 : 0 < l.length) (h2 : l.length ≤ 400000) (w : World) (hc : CellsAt w ⟨g0, 0, none⟩ (l.map u8v)) :
    Calls Tryd.prog 130 #[.slice (some ⟨g0, 0, none⟩) l.length cap0] w (RetB (l ++ padL l.length) w) := by
  have HC := Lib.hid hc
  clear hc
  go_enter Tryd.func130, Tryd.ntmps130
  have hb0 : Below w.heap.size w (w.alloc (.cells #[] 5)) := (Below.refl _ _).alloc (Nat.le_refl _) _
  have hcl : CellsAt (w.alloc (.cells #[] 5)) ⟨g0, 0, none⟩ (l.map u8v) := CellsAt.later HC.out hb0
  have HB0 := Lib.hid hb0
  have HCL := Lib.hid hcl
  clear hb0 hcl
  go_wp2_with (first
    | ((with_reducible show wpList _ _ _ ((⟨some 8, Op.call _, _, _, _, _⟩ : Oper) :: _) _ _); refine append_bytes w.heap.size (.slice (some ⟨w.heap.size, 0, none⟩) 0 0) [] 0 rfl (ownB_empty _ _ (Nat.le_refl _)) rfl (.tmp 6) (.tmp 7) rfl rfl l ⟨g0, 0, none⟩ cap0 rfl HCL.out h1 (by simp; omega) (by simp) w HB0.out ?_; intro g1 cap1 w1 hown1 hb1; rw [List.nil_append, Nat.zero_add] at hown1; have HO1 := Lib.hid hown1; have HB1 := Lib.hid hb1; clear hown1 hb1)
    | ((with_reducible show wpList _ _ _ ((⟨some 11, Op.call _, _, _, _, _⟩ : Oper) :: _) _ _); refine append_byte w.heap.size _ l l.length rfl HO1.out rfl (.tmp 9) (.tmp 10) rfl rfl 128 128 rfl rfl (by simp; omega) HB1.out.size w HB1.out ?_; intro g2 cap2 w2 hown2 hb2; have HO2 := Lib.hid hown2; have HB2 := Lib.hid hb2; clear hown2 hb2))
  obtain ⟨n, hn⟩ : ∃ n, n = l.length := ⟨_, rfl⟩
  rw [← hn] at HO2 h1 h2 ⊢
  have HN := Lib.hid hn
  clear hn HO1 HB1 HCL HB0
  have hzc : zc n < 64 := Nat.mod_lt _ (by omega)
  go_loopw [3] (fun v wr => ∃ j g cap, j ≤ zc n ∧ v = .slice (some ⟨g, 0, none⟩) (n + 1 + j) cap ∧ OwnB w.heap.size (.slice (some ⟨g, 0, none⟩) (n + 1 + j) cap) (l ++ 128 :: List.replicate j 0) wr ∧ Below w.heap.size w wr) (fun v _ => n + 66 - lenV v)
  case atStart => exact ⟨0, g2, cap2, Nat.zero_le _, rfl, by simpa using HO2.out, HB2.out⟩
  case round =>
    obtain ⟨j, g, cap, hj, rfl, hown, hb⟩ := hrel
    have HO := Lib.hid hown
    have HB := Lib.hid hb
    clear hown hb HO2 HB2
    by_cases hz : j = zc n
    · have hq : (((n : Int) + 1 + (j : Int)) % 64 != 56) = false := by
        have : (n + 1 + j) % 64 = 56 := by rw [hz]; unfold zc; omega
        simp; omega
      have HZ := Lib.hid hz
      clear hz
      go_wp2_with fail
      clear hq
      go_loopw [3, 5] (fun v c wr => ∃ i g cap, i ≤ 8 ∧ c = .int .i64 (i : Nat) ∧ v = .slice (some ⟨g, 0, none⟩) (n + 1 + j + i) cap ∧ OwnB w.heap.size (.slice (some ⟨g, 0, none⟩) (n + 1 + j + i) cap) ((l ++ 128 :: List.replicate j 0) ++ be8 (8 * n) i) wr ∧ Below w.heap.size w wr) (fun _ c _ => 8 - (intOf c).toNat)
      case atStart => exact ⟨0, _, _, Nat.zero_le _, rfl, rfl, by simp only [be8, List.range_zero, List.map_nil, List.append_nil, Nat.add_zero]; exact HO.out, HB.out⟩
      case round =>
        obtain ⟨i, g, cap, hi, rfl, rfl, hown, hb⟩ := hrel
        have HO3 := Lib.hid hown
        have HB3 := Lib.hid hb
        clear hown hb HO HB
        by_cases hlt : i < 8
        · go_wp2_with ((with_reducible show wpList _ _ _ ((⟨_, Op.call _, _, _, _, _⟩ : Oper) :: _) _ _); refine append_byte w.heap.size _ _ (n + 1 + j + i) (by simp [be8, ← HN.out]; omega) HO3.out rfl (.tmp 27) (.tmp 34) rfl rfl (UInt8.ofNat (8 * n / 2 ^ (56 - 8 * i))) _ (u8_shr n (56 - 8 * i)) rfl (by simp [be8, ← HN.out]; omega) HB3.out.size w HB3.out ?_; intro g' cap' w1 hown1 hb1; have HO5 := Lib.hid hown1; have HB5 := Lib.hid hb1; clear hown1 hb1)
          go_roundw
          case rel =>
            have el : (l ++ 128 :: List.replicate j 0) ++ be8 (8 * n) i ++ [UInt8.ofNat (8 * n / 2 ^ (56 - 8 * i))] = (l ++ 128 :: List.replicate j 0) ++ be8 (8 * n) (i + 1) := by
              rw [List.append_assoc]; congr 1; simp [be8, List.range_succ]
            have ho := HO5.out
            rw [el] at ho
            exact ⟨i + 1, g', cap', by omega, by go_num, by rw [Nat.add_assoc (n + 1 + j)], by rw [← Nat.add_assoc (n + 1 + j)]; exact ho, HB5.out⟩
          case measure => simp [intOf]; omega
        · obtain rfl : i = 8 := by omega
          go_wp2_with fail
          go_ret
          have he : (l ++ 128 :: List.replicate j 0) ++ be8 (8 * n) 8 = l ++ padL n := by rw [HZ.out]; simp [padL]
          have hlen : (l ++ padL n).length = n + 1 + j + 8 := by rw [← he]; simp [be8, ← HN.out]; omega
          have hfin : l ++ padL l.length = l ++ padL n := by rw [HN.out]
          refine ⟨g, cap, by rw [hfin, hlen]; rfl, ?_, HB3.out⟩
          rw [hfin, hlen, ← he]
          exact HO3.out
    · have hq : (((n : Int) + 1 + (j : Int)) % 64 == 56) = false := by
        have : (n + 1 + j) % 64 ≠ 56 := by unfold zc at hz hj; omega
        simp; omega
      have hjz : j < zc n := by omega
      clear hz
      go_wp2_with ((with_reducible show wpList _ _ _ ((⟨_, Op.call _, _, _, _, _⟩ : Oper) :: _) _ _); refine append_byte w.heap.size _ _ (n + 1 + j) (by simp [← HN.out]; omega) HO.out rfl (.tmp 16) (.tmp 17) rfl rfl 0 0 rfl rfl (by simp [← HN.out]; omega) HB.out.size w HB.out ?_; intro g' cap' w1 hown1 hb1)
      go_roundw
      case rel =>
        have el : (l ++ 128 :: List.replicate j 0) ++ [0] = l ++ 128 :: List.replicate (j + 1) 0 := by rw [List.append_assoc, List.cons_append, ← List.replicate_succ']
        rw [el] at hown1
        exact ⟨j + 1, g', cap', by omega, by rw [Nat.add_assoc (n + 1)], by rw [← Nat.add_assoc (n + 1)]; exact hown1, hb1⟩
      case measure => simp only [lenV]; omega
end Go.Proofs.YtfkpeabkcdhcfaaDoor
