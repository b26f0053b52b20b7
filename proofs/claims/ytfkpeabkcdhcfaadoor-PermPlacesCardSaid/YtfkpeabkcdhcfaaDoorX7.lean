/-
  Walks of the reference's Short and Of: the digest of the tag 8 and two texts is the program's.
-/
import Derived.Test.YtfkpeabkcdhcfaaDoorX6
namespace Go.Proofs.YtfkpeabkcdhcfaaDoor
open Go.RowKit
set_option maxRecDepth 100000
def z16 : Array Value := (List.replicate 16 (Value.int .u8 0)).toArray
def dArr (s : S8) (i : Nat) : Array Value := ((outL s i).map u8v ++ List.replicate (16 - i) (u8v 0)).toArray
theorem dArr_size (s : S8) (i : Nat) (h : i ≤ 16) : (dArr s i).size = 16 := by simp [dArr, outL_length]; omega
theorem dArr_at (s : S8) (i : Nat) (h : i < 16) : (dArr s i)[i]? = some (u8v 0) := by
  simp only [dArr, List.getElem?_toArray]
  rw [List.getElem?_append_right (by rw [List.length_map, outL_length]; exact Nat.le_refl _), List.length_map, outL_length, Nat.sub_self, List.getElem?_replicate, if_pos (by omega)]
theorem dArr_step (s : S8) (i : Nat) (h : i < 16) : (dArr s i).setIfInBounds i (u8v (outB s i)) = dArr s (i + 1) := by
  apply Array.ext'
  simp only [dArr, Array.toList_setIfInBounds]
  rw [List.set_append_right _ _ (by rw [List.length_map, outL_length]; exact Nat.le_refl _), List.length_map, outL_length, Nat.sub_self]
  obtain ⟨m, hm⟩ : ∃ m, 16 - i = m + 1 := ⟨15 - i, by omega⟩
  rw [hm, List.replicate_succ, List.set_cons_zero, show 16 - (i + 1) = m by omega]
  simp [outL, List.range_succ]
theorem dArr_full (s : S8) : dArr s 16 = digArr s := by simp [dArr, digArr]
structure HoldD (w : World) (S : S8) (i Bh Bo : Nat) (wx : World) : Prop where
  res : wx.heap[w.heap.size]? = some (.cells z16 90 (0, 0))
  h : wx.heap[Bh]? = some (.cells (outArr S 32) 126 (0, 0))
  out : wx.heap[Bo]? = some (.cells (dArr S i) 90 (0, 0))
  lt1 : w.heap.size < Bh
  lt2 : Bh < Bo
  below : Below w.heap.size w wx
theorem holdD_mk {w w1 : World} {S : S8} {Z : Array Value} (h1 : w1.heap[w.heap.size]? = some (.cells z16 90 (0, 0))) (hb : Below w.heap.size w w1) (hl : w.heap.size < w1.heap.size) :
    HoldD w S 0 w1.heap.size (w1.heap.size + 1) (((w1.alloc (.cells Z 126)).setRow w1.heap.size (outArr S 32)).alloc (.cells z16 90)) := by
  have hs : ((w1.alloc (.cells Z 126)).setRow w1.heap.size (outArr S 32)).heap.size = w1.heap.size + 1 := by rw [setRow_size]; simp
  refine ⟨?_, ?_, ?_, hl, Nat.lt_succ_self _, (below_setRow (hb.alloc (by omega) _) (by omega) _).alloc (by omega) _⟩
  · rw [Below.heap_alloc _ _ _ (by omega), setRow_other _ _ _ _ (by omega), Below.heap_alloc _ _ _ hl]; exact h1
  · rw [Below.heap_alloc _ _ _ (by omega)]; exact setRow_heap _ _ _ _ _ _ (heap_alloc_new _ _)
  · have := heap_alloc_new ((w1.alloc (.cells Z 126)).setRow w1.heap.size (outArr S 32)) (.cells z16 90 (0, 0))
    rw [hs] at this
    exact this
theorem HoldD.at_h {w wx : World} {S : S8} {i Bh Bo : Nat} (h : HoldD w S i Bh Bo wx) (k : Nat) (hk : k < 16) : wx.cell? ⟨Bh, k, none⟩ = some (.int .u8 ((outB S k).toNat : Int)) := by
  rw [cell_of_row _ _ _ _ _ _ h.h, outArr, List.getElem?_toArray, List.getElem?_append_left (by rw [List.length_map, outL_length]; omega)]
  simp [outL, show k < 32 by omega, u8v]
theorem HoldD.at_z {w wx : World} {S : S8} {i Bh Bo : Nat} (h : HoldD w S i Bh Bo wx) (hk : i < 16) : wx.cell? ⟨Bo, i, none⟩ = some (u8v 0) := by
  rw [cell_of_row _ _ _ _ _ _ h.out, dArr_at _ _ hk]
theorem HoldD.free {w wx : World} {S : S8} {i Bh Bo : Nat} (h : HoldD w S i Bh Bo wx) (k : Nat) : wx.frozen? ⟨Bo, k, none⟩ = false := frozen_of_row _ _ _ _ _ h.out
theorem HoldD.step {w wx : World} {S : S8} {i Bh Bo : Nat} (h : HoldD w S i Bh Bo wx) (hk : i < 16) : HoldD w S (i + 1) Bh Bo (wx.setCell ⟨Bo, i, none⟩ (.int .u8 ((outB S i).toNat : Int))) := by
  obtain ⟨h1, h2, h3, h4, h5, h6⟩ := h
  refine ⟨(heap_setCell_other _ _ _ _ (by show _ ≠ Bo; omega)).trans h1, (heap_setCell_other _ _ _ _ (by show _ ≠ Bo; omega)).trans h2, ?_, h4, h5, h6.setCell (by show _ ≤ Bo; omega) _⟩
  rw [heap_setCell_same _ _ _ _ _ _ h3]
  exact congrArg (fun c => some (Obj.cells c 90 (0, 0))) (dArr_step S i hk)
set_option maxHeartbeats 1000000 in
theorem rshort_any (g cap0 : Nat) (l : List UInt8) (h1 : 0 < l.length) (h2 : l.length ≤ 400000) (w : World) (hsz : 1 < w.heap.size) (hK : HoldK2 w) (hc : CellsAt w ⟨g, 0, none⟩ (l.map u8v)) :
    Calls Tryd.prog 122 #[.slice (some ⟨g, 0, none⟩) l.length cap0] w fun e w' => e = .returned (.agg (digArr (hashOf l))) ∧ Below w.heap.size w w' := by
  have hb0 : Below w.heap.size w (w.alloc (.cells z16 90)) := (Below.refl _ _).alloc (Nat.le_refl _) _
  have hcall := rsum_any g cap0 l h1 h2 (w.alloc (.cells z16 90)) (by simp; omega) (hK.later hsz hb0) (CellsAt.later hc hb0)
  have HCL := Lib.hid hcall
  have HB0 := Lib.hid hb0
  clear hc hK hcall hb0
  go_enter Tryd.func122, Tryd.ntmps122
  go_wp2_with fail
  refine HCL.out.mono ?_
  rintro e w1 ⟨rfl, hb1⟩
  obtain ⟨S, hS⟩ : ∃ S, S = hashOf l := ⟨_, rfl⟩
  rw [← hS]
  have HS := Lib.hid hS
  have hr1 : w1.heap[w.heap.size]? = some (.cells z16 90 (0, 0)) := (hb1.block _ (by simp)).trans (heap_alloc_new _ _)
  have hd := holdD_mk (S := S) (Z := z32) hr1 (HB0.out.trans (hb1.mono (by simp))) (lt_of_block hr1)
  have HD := Lib.hid hd
  clear hS hd hr1 hb1 HCL HB0
  go_wp2_with ((with_reducible show wpList _ _ _ ((⟨_, Op.store 126 (.tmp 3) _, _, _, _, _⟩ : Oper) :: _) _ _); refine wpList_store_row rfl 126 (.tmp 3) (.tmp 7) rfl _ (outArr S 32) rfl rfl _ _ (heap_alloc_new _ _) (by rw [outArr_size _ _ (Nat.le_refl _)]; exact info126) (by rw [outArr_size _ _ (Nat.le_refl _)]; rfl) (outArr_one _ _) ?_)
  go_loopw [5] (fun c wz => ∃ i : Nat, i ≤ 16 ∧ c = .int .i64 i ∧ HoldD w S i w1.heap.size (w1.heap.size + 1) wz) (fun c _ => 16 - (intOf c).toNat)
  case atStart => exact ⟨0, Nat.zero_le _, rfl, HD.out⟩
  case round =>
    clear HD
    obtain ⟨i, hi, rfl, hold⟩ := hrel
    have HO := Lib.hid hold
    clear hold
    by_cases hlt : i < 16
    · have cs := HO.out.at_h i hlt
      have cz := HO.out.at_z hlt
      have cf := HO.out.free i
      go_wp2_with fail
      go_roundw
      case rel => exact ⟨i + 1, by omega, by go_num, HO.out.step hlt⟩
      case measure => simp [intOf]; omega
    · obtain rfl : i = 16 := by omega
      have hout := HO.out.out
      rw [dArr_full] at hout
      have HOUT := Lib.hid hout
      clear hout
      go_wp2_with (first
        | ((with_reducible show wpList _ _ _ ((⟨_, Op.load 90 (.tmp 4), _, _, _, _⟩ : Oper) :: _) _ _); refine wpList_load_row rfl 90 (.tmp 4) rfl _ rfl _ _ _ _ HOUT.out Tryd.underlying90 rfl (by rw [dig_size]; exact info90) ?_)
        | ((with_reducible show wpList _ _ _ ((⟨_, Op.store 90 (.tmp 2) _, _, _, _, _⟩ : Oper) :: _) _ _); refine wpList_store_row rfl 90 (.tmp 2) (.tmp 18) rfl _ (digArr S) rfl rfl _ _ HO.out.res (by rw [dig_size]; exact info90) (by rw [dig_size]; rfl) (dig_one S) ?_))
      have hrow : (wr.setRow w.heap.size (digArr S)).heap[w.heap.size]? = some (.cells (digArr S) 90 (0, 0)) := setRow_heap _ _ _ _ _ _ HO.out.res
      exact bodyPost_ret (v := .agg (digArr S)) (results_cell_row rfl _ _ w.heap.size _ _ _ _ rfl hrow Tryd.underlying90 rfl (by rw [dig_size]; exact info90)) rfl ⟨by rw [HS.out], below_setRow HO.out.below (Nat.le_refl _) _⟩
set_option maxHeartbeats 1000000 in
theorem rof_any (gp : Nat) (s1 s2 : ByteArray) (h1 : s1.size ≤ 100000) (h2 : s2.size ≤ 100000) (w : World) (hsz : 1 < w.heap.size) (hK : HoldK2 w) (hg : gp < w.heap.size)
    (hc1 : w.cell? ⟨gp, 0, none⟩ = some (.string s1)) (hc2 : w.cell? ⟨gp, 1, none⟩ = some (.string s2)) :
    Calls Tryd.prog 116 #[.int .i64 8, .slice (some ⟨gp, 0, none⟩) 2 2] w fun e w' => e = .returned (.agg (digArr (of8 s1 s2))) ∧ Below w.heap.size w w' := by
  have hb0 : Below w.heap.size w (w.alloc (.cells z16 90)) := (Below.refl _ _).alloc (Nat.le_refl _) _
  have hcall := rinput_any gp s1 s2 h1 h2 (w.alloc (.cells z16 90)) (by simp; omega) ((hb0.cell (p := ⟨gp, 0, none⟩) hg).trans hc1) ((hb0.cell (p := ⟨gp, 1, none⟩) hg).trans hc2)
  have HCL := Lib.hid hcall
  have HB0 := Lib.hid hb0
  have HK := Lib.hid hK
  clear hc1 hc2 hK hcall hb0
  go_enter Tryd.func116, Tryd.ntmps116
  go_wp2_with fail
  refine HCL.out.mono ?_
  rintro e w1 ⟨g, cap, rfl, hown, hb1⟩
  have hbw : Below w.heap.size w w1 := HB0.out.trans (hb1.mono (by simp))
  have hr1 : w1.heap[w.heap.size]? = some (.cells z16 90 (0, 0)) := (hb1.block _ (by simp)).trans (heap_alloc_new _ _)
  have hl1 : 0 < (preS s1 s2 2).length := by simp [preS]
  have hl2 := preS_len s1 s2 h1 h2 2
  have hcall := rshort_any g cap (preS s1 s2 2) hl1 (by omega) w1 (by have := hbw.size; omega) (HK.out.later hsz hbw) hown.cells
  rw [← of8_hash] at hcall
  have HCL2 := Lib.hid hcall
  have HBW := Lib.hid hbw
  have HR1 := Lib.hid hr1
  clear hcall hbw hown hb1 hr1 HCL HB0 hl1 hl2
  go_wp2_with fail
  refine HCL2.out.mono ?_
  rintro e w2 ⟨rfl, hb2⟩
  obtain ⟨S, hS⟩ : ∃ S, S = of8 s1 s2 := ⟨_, rfl⟩
  rw [← hS]
  have HS := Lib.hid hS
  have hr2 : w2.heap[w.heap.size]? = some (.cells z16 90 (0, 0)) := (hb2.block _ (lt_of_block HR1.out)).trans HR1.out
  have HR2 := Lib.hid hr2
  have HB2 := Lib.hid (HBW.out.trans (hb2.mono HBW.out.size))
  clear hS hr2 hb2 HCL2
  go_wp2_with ((with_reducible show wpList _ _ _ ((⟨_, Op.store 90 (.tmp 4) _, _, _, _, _⟩ : Oper) :: _) _ _); refine wpList_store_row rfl 90 (.tmp 4) (.tmp 8) rfl _ (digArr S) rfl rfl _ _ HR2.out (by rw [dig_size]; exact info90) (by rw [dig_size]; rfl) (dig_one S) ?_)
  have hrow : (w2.setRow w.heap.size (digArr S)).heap[w.heap.size]? = some (.cells (digArr S) 90 (0, 0)) := setRow_heap _ _ _ _ _ _ HR2.out
  exact bodyPost_ret (v := .agg (digArr S)) (results_cell_row rfl _ _ w.heap.size _ _ _ _ rfl hrow Tryd.underlying90 rfl (by rw [dig_size]; exact info90)) rfl ⟨by rw [HS.out], below_setRow HB2.out (Nat.le_refl _) _⟩
end Go.Proofs.YtfkpeabkcdhcfaaDoor
