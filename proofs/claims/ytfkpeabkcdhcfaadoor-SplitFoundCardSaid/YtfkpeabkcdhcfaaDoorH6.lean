/-
  Walk of (hash.Stream).Sum: the 32 bytes of the hash value behind the padding; nothing that was there changes.
-/
import Derived.Test.YtfkpeabkcdhcfaaDoorA
import Derived.Test.YtfkpeabkcdhcfaaDoorH5
namespace Go.Proofs.YtfkpeabkcdhcfaaDoor
open Go.RowKit
set_option maxRecDepth 100000
/-- how many zeros the padding has -/
def zc (n : Nat) : Nat := (119 - n % 64) % 64
def be8 (m i : Nat) : List UInt8 := (List.range i).map fun k => UInt8.ofNat (m / 2 ^ (56 - 8 * k))
def padL (n : Nat) : List UInt8 := (128 :: List.replicate (zc n) 0) ++ be8 (8 * n) 8
def S8.word (s : S8) (i : Nat) : UInt32 := [s.a, s.b, s.c, s.d, s.e, s.f, s.g, s.h].getD i 0
def outB (s : S8) (i : Nat) : UInt8 := (s.word (i / 4) >>> UInt32.ofNat (24 - 8 * (i % 4))).toUInt8
def outL (s : S8) (i : Nat) : List UInt8 := (List.range i).map (outB s)
def outArr (s : S8) (i : Nat) : Array Value := ((outL s i).map u8v ++ List.replicate (32 - i) (u8v 0)).toArray
theorem u8_shr (n e : Nat) : 8 * (n : Int) / 2 ^ e % 256 = ((UInt8.ofNat (8 * n / 2 ^ e)).toNat : Int) := by
  rw [UInt8.toNat_ofNat']
  simp
theorem size2 (w : World) (a b : Obj) : ((w.alloc a).alloc b).heap.size = w.heap.size + 2 := by simp
def z32 : Array Value := (List.replicate 32 (Value.int .u8 0)).toArray
theorem info126 : (Tryd.prog.info? 126).map (·.size) = some 32 := by kernel_rfl
theorem outL_length (s : S8) (i : Nat) : (outL s i).length = i := by simp [outL]
theorem outArr_size (s : S8) (i : Nat) (h : i ≤ 32) : (outArr s i).size = 32 := by simp [outArr, outL_length]; omega
theorem outArr_one (s : S8) (i : Nat) : (outArr s i).all (fun x => x.oneCell') = true := by
  simp only [outArr, List.all_toArray, List.all_eq_true, List.mem_append, List.mem_map, List.mem_replicate]
  rintro x (⟨y, _, rfl⟩ | ⟨_, rfl⟩) <;> rfl
theorem outArr_at (s : S8) (i : Nat) (h : i < 32) : (outArr s i)[i]? = some (u8v 0) := by
  simp only [outArr, List.getElem?_toArray]
  rw [List.getElem?_append_right (by rw [List.length_map, outL_length]; exact Nat.le_refl _), List.length_map, outL_length, Nat.sub_self, List.getElem?_replicate, if_pos (by omega)]
theorem outArr_step (s : S8) (i : Nat) (h : i < 32) : (outArr s i).setIfInBounds i (u8v (outB s i)) = outArr s (i + 1) := by
  apply Array.ext'
  simp only [outArr, Array.toList_setIfInBounds]
  rw [List.set_append_right _ _ (by rw [List.length_map, outL_length]; exact Nat.le_refl _), List.length_map, outL_length, Nat.sub_self]
  obtain ⟨m, hm⟩ : ∃ m, 32 - i = m + 1 := ⟨31 - i, by omega⟩
  rw [hm, List.replicate_succ, List.set_cons_zero, show 32 - (i + 1) = m by omega]
  simp [outL, List.range_succ]
theorem out_byte (s : S8) (i : Nat) : ((s.word (i / 4)).toNat : Int) / 2 ^ (24 - 8 * (i % 4)) % 256 = ((outB s i).toNat : Int) := by
  rw [u32_shr _ _ (by omega), outB, UInt32.toNat_toUInt8]
  omega
structure HoldO (w : World) (SS : Str) (i Bo : Nat) (wx : World) : Prop where
  box : wx.heap[w.heap.size]? = some (.cells (strm SS) 122 (0, 0))
  res : wx.heap[w.heap.size + 1]? = some (.cells z32 126 (0, 0))
  out : wx.heap[Bo]? = some (.cells (outArr SS.s i) 126 (0, 0))
  lt : w.heap.size + 1 < Bo
  len : SS.blk.length = 64
  below : Below w.heap.size w wx
theorem holdO_mk {w w2 : World} {st SS : Str} (hb : w2.heap[w.heap.size]? = some (.cells (strm st) 122 (0, 0))) (hr : w2.heap[w.heap.size + 1]? = some (.cells z32 126 (0, 0))) (hbw : Below w.heap.size w w2) (hlt : w.heap.size + 2 ≤ w2.heap.size) (hl : SS.blk.length = 64) :
    HoldO w SS 0 w2.heap.size ((w2.setRow w.heap.size (strm SS)).alloc (.cells z32 126)) := by
  have hs : (w2.setRow w.heap.size (strm SS)).heap.size = w2.heap.size := setRow_size _ _ _
  refine ⟨?_, ?_, ?_, by omega, hl, (below_setRow hbw (Nat.le_refl _) _).alloc (by rw [hs]; omega) _⟩
  · rw [Below.heap_alloc _ _ _ (by rw [hs]; omega)]; exact setRow_heap _ _ _ _ _ _ hb
  · rw [Below.heap_alloc _ _ _ (by rw [hs]; omega), setRow_other _ _ _ _ (by omega)]; exact hr
  · have := heap_alloc_new (w2.setRow w.heap.size (strm SS)) (.cells z32 126 (0, 0))
    rw [hs] at this
    exact this
theorem HoldO.at_w {w wx : World} {SS : Str} {i Bo : Nat} (h : HoldO w SS i Bo wx) (k : Nat) (hk : k < 32) : wx.cell? ⟨w.heap.size, k / 4, none⟩ = some (.int .u32 ((SS.s.word (k / 4)).toNat : Int)) := by
  rw [cell_of_row _ _ _ _ _ _ h.box]
  apply strm_s
  have h8 : k / 4 < 8 := by omega
  generalize k / 4 = m at h8
  match m, h8 with
  | 0, _ | 1, _ | 2, _ | 3, _ | 4, _ | 5, _ | 6, _ | 7, _ => rfl
theorem HoldO.at_z {w wx : World} {SS : Str} {i Bo : Nat} (h : HoldO w SS i Bo wx) (_k : Nat) (hk : i < 32) : wx.cell? ⟨Bo, i, none⟩ = some (u8v 0) := by
  rw [cell_of_row _ _ _ _ _ _ h.out, outArr_at _ _ hk]
theorem HoldO.free {w wx : World} {SS : Str} {i Bo : Nat} (h : HoldO w SS i Bo wx) (k : Nat) : wx.frozen? ⟨Bo, k, none⟩ = false := frozen_of_row _ _ _ _ _ h.out
theorem HoldO.step {w wx : World} {SS : Str} {i Bo : Nat} (h : HoldO w SS i Bo wx) (_k : Nat) (hk : i < 32) : HoldO w SS (i + 1) Bo (wx.setCell ⟨Bo, i, none⟩ (.int .u8 ((outB SS.s i).toNat : Int))) := by
  obtain ⟨h1, h2, h3, h4, h5, h6⟩ := h
  refine ⟨(heap_setCell_other _ _ _ _ (by show _ ≠ Bo; omega)).trans h1, (heap_setCell_other _ _ _ _ (by show _ ≠ Bo; omega)).trans h2, ?_, h4, h5, h6.setCell (by show _ ≤ Bo; omega) _⟩
  rw [heap_setCell_same _ _ _ _ _ _ h3]
  exact congrArg (fun c => some (Obj.cells c 126 (0, 0))) (outArr_step SS.s i hk)
def lenV : Value → Nat
  | .slice _ n _ => n
  | _ => 0
structure HoldP (w : World) (st : Str) (W0 : World) : Prop where
  box : W0.heap[w.heap.size]? = some (.cells (strm st) 122 (0, 0))
  res : W0.heap[w.heap.size + 1]? = some (.cells z32 126 (0, 0))
  size : W0.heap.size = w.heap.size + 2
  below : Below w.heap.size w W0
theorem holdP_mk (w : World) (st : Str) : HoldP w st ((w.alloc (.cells (strm st) 122)).alloc (.cells z32 126)) :=
  ⟨heap_alloc2_old _ _ _, heap_alloc2_new _ _ _, by simp, ((Below.refl _ _).alloc (Nat.le_refl _) _).alloc (by simp) _⟩
set_option maxHeartbeats 1000000 in
theorem sum_any (st : Str) (hlen : st.blk.length = 64) (hn : st.n < 1152921504606846976) (w : World) (h0 : 0 < w.heap.size) (hK : HoldK w) :
    Calls Tryd.prog 100 #[.agg (strm st)] w fun e w' => e = .returned (.agg (outArr (feed st (padL st.n)).s 32)) ∧ Below w.heap.size w w' := by
  have hK' := Lib.hid hK
  have hl' := Lib.hid hlen
  clear hK hlen
  have cn : ∀ R, ((w.alloc (.cells (strm st) 122)).alloc (.cells R 126)).cell? ⟨w.heap.size, 72, none⟩ = some (.int .u64 (st.n : Int)) := fun R => by
    rw [cell_of_row _ _ _ _ _ _ (heap_alloc2_old _ _ _), strm_n _ hl'.out]
  go_enter Tryd.func100, Tryd.ntmps100
  go_wp2
  obtain ⟨W0, hW0⟩ : ∃ W0, W0 = ((w.alloc (.cells (strm st) 122)).alloc (.cells z32 126)) := ⟨_, rfl⟩
  have HP : Hid (HoldP w st W0) := by rw [hW0]; exact holdP_mk w st
  go_loopw [4] (fun v wr => ∃ j g cap, j ≤ zc st.n ∧ v = .slice (some ⟨g, 0, none⟩) (1 + j) cap ∧ OwnB (w.heap.size + 2) (.slice (some ⟨g, 0, none⟩) (1 + j) cap) (128 :: List.replicate j 0) wr ∧ Below (w.heap.size + 2) W0 wr) (fun v _ => 65 - lenV v)
  case atStart =>
    refine ⟨0, _, _, Nat.zero_le _, rfl, ?_, ?_⟩
    · exact own_new' (w.heap.size + 2) _ (w.heap.size + 2) (size2 w _ _) (Nat.le_refl _) 128 128 rfl
    · rw [hW0]; exact (Below.refl _ _).alloc (Nat.le_of_eq (size2 w _ _).symm) _
  case round =>
    obtain ⟨j, g, cap, hj, rfl, hown, hb⟩ := hrel
    have hzc : zc st.n < 64 := Nat.mod_lt _ (by omega)
    have cn2 : wr.cell? ⟨w.heap.size, 72, none⟩ = some (.int .u64 (st.n : Int)) := by
      rw [hb.cell (p := ⟨w.heap.size, 72, none⟩) (by show w.heap.size < w.heap.size + 2; omega), cell_of_row _ _ _ _ _ _ HP.out.box, strm_n _ hl'.out]
    have HOwn := Lib.hid hown
    have HW0 := Lib.hid hW0
    clear hown hW0 cn
    by_cases hz : j = zc st.n
    · have hq : (((st.n : Int) + (1 + (j : Int))) % 64 != 56) = false := by
        have : (st.n + (1 + j)) % 64 = 56 := by rw [hz]; unfold zc; omega
        simp; omega
      have HZ := Lib.hid hz
      clear hz
      go_wp2
      clear cn2 hq
      go_loopw [4, 23] (fun v c wr => ∃ i g cap, i ≤ 8 ∧ c = .int .i64 (i : Nat) ∧ v = .slice (some ⟨g, 0, none⟩) (1 + j + i) cap ∧ OwnB (w.heap.size + 2) (.slice (some ⟨g, 0, none⟩) (1 + j + i) cap) ((128 :: List.replicate j 0) ++ be8 (8 * st.n) i) wr ∧ Below (w.heap.size + 2) W0 wr) (fun _ c _ => 8 - (intOf c).toNat)
      case atStart => exact ⟨0, _, _, Nat.zero_le _, rfl, rfl, by simp only [be8, List.range_zero, List.map_nil, List.append_nil, Nat.add_zero]; exact HOwn.out, hb⟩
      case round =>
        obtain ⟨i, g, cap, hi, rfl, rfl, hown, hb⟩ := hrel
        have HOwn2 := Lib.hid hown
        clear hown HOwn
        by_cases hlt : i < 8
        · go_wp2_with ((with_reducible show wpList _ _ _ ((⟨_, Op.call _, _, _, _, _⟩ : Oper) :: _) _ _); refine append_byte (w.heap.size + 2) _ _ (1 + j + i) (by simp [be8]; omega) HOwn2.out rfl (.tmp 26) (.tmp 33) rfl rfl (UInt8.ofNat (8 * st.n / 2 ^ (56 - 8 * i))) _ (u8_shr st.n (56 - 8 * i)) rfl (by simp [be8]; omega) (by have := hb.size; have := HP.out.size; omega) W0 hb ?_; intro g' cap' w1 hown1 hb1; have HOwn3 := Lib.hid hown1; clear hown1)
          go_roundw
          case rel =>
            have el : (128 :: List.replicate j 0) ++ be8 (8 * st.n) i ++ [UInt8.ofNat (8 * st.n / 2 ^ (56 - 8 * i))] = (128 :: List.replicate j 0) ++ be8 (8 * st.n) (i + 1) := by
              rw [List.append_assoc]; congr 1; simp [be8, List.range_succ]
            have ho := HOwn3.out
            rw [el] at ho
            exact ⟨i + 1, g', cap', by omega, by go_num, by rw [Nat.add_assoc (1 + j)], by rw [← Nat.add_assoc (1 + j)]; exact ho, hb1⟩
          case measure => simp [intOf]; omega
        · obtain rfl : i = 8 := by omega
          have hbox : wr.heap[w.heap.size]? = some (.cells (strm st) 122 (0, 0)) := (hb.block _ (by omega)).trans HP.out.box
          have HBox := Lib.hid hbox
          clear hbox
          have hstr := HOwn2.out.string
          go_wp2_with ((with_reducible show wpList _ _ _ ((⟨_, Op.load 122 (.tmp 1), _, _, _, _⟩ : Oper) :: _) _ _); refine wpList_load_row rfl 122 (.tmp 1) rfl _ rfl _ _ _ _ HBox.out Tryd.underlying122 rfl (by rw [strm_size _ hl'.out]; exact info122) ?_)
          have hpad : (128 :: (List.replicate j 0 ++ be8 (8 * st.n) 8) : List UInt8) = padL st.n := by rw [HZ.out]; rfl
          rw [hpad]
          have hpl : (padL st.n).length ≤ 100 := by simp [padL, be8]; omega
          have hps : (⟨(padL st.n).toArray⟩ : ByteArray).size = (padL st.n).length := rfl
          have hlt2 : w.heap.size + 2 ≤ wr.heap.size := by have := hb.size; have := HP.out.size; omega
          have hbw : Below w.heap.size w wr := HP.out.below.trans (hb.mono (by omega))
          with_reducible refine (add_any st hl'.out ⟨(padL st.n).toArray⟩ (by rw [hps]; omega) wr (by omega) ?_).mono ?_
          · exact fun j v hv => (hbw.cell (p := ⟨0, 0 + j, none⟩) h0).trans (hK'.out j v hv)
          rintro e w2 ⟨rfl, hb2⟩
          have hbox2 : w2.heap[w.heap.size]? = some (.cells (strm st) 122 (0, 0)) := (hb2.block _ (by omega)).trans HBox.out
          have hres2 : w2.heap[w.heap.size + 1]? = some (.cells z32 126 (0, 0)) := (hb2.block _ (by omega)).trans ((hb.block _ (by omega)).trans HP.out.res)
          have hbw2 : Below w.heap.size w w2 := hbw.trans (hb2.mono (by omega))
          have hlt3 : w.heap.size + 2 ≤ w2.heap.size := by have := hb2.size; omega
          have hlS : (feed st (padL st.n)).blk.length = 64 := by rw [feed_len]; exact hl'.out
          have HBox2 := Lib.hid hbox2
          have HRes2 := Lib.hid hres2
          have HBW2 := Lib.hid hbw2
          have HLS := Lib.hid hlS
          clear hbox2 hres2 hbw2 hlS hb2 HBox hb hbw hstr hpad
          obtain ⟨SS, hSS⟩ : ∃ SS, SS = feed st (padL st.n) := ⟨_, rfl⟩
          rw [← hSS] at HLS ⊢
          have HSS := Lib.hid hSS
          clear hSS
          go_wp2_with ((with_reducible show wpList _ _ _ ((⟨_, Op.store 122 (.tmp 1) _, _, _, _, _⟩ : Oper) :: _) _ _); refine wpList_store_row rfl 122 (.tmp 1) (.tmp 39) rfl _ _ rfl rfl _ _ HBox2.out (by rw [strm_size _ HLS.out]; exact info122) (by rw [strm_size _ HLS.out, strm_size _ hl'.out]) (strm_one _) ?_)
          obtain ⟨Bo, hBo⟩ : ∃ Bo, Bo = w2.heap.size := ⟨_, rfl⟩
          have hltB : w.heap.size + 1 < Bo := by omega
          have HO0 : Hid (HoldO w SS 0 Bo ((w2.setRow w.heap.size (strm SS)).alloc (.cells z32 126))) := Lib.hid (by
            rw [hBo]; exact holdO_mk HBox2.out HRes2.out HBW2.out hlt3 HLS.out)
          rw [← hBo]
          clear HBox2 HRes2 HBW2 hBo hlt3
          go_loopw [40] (fun c wr => ∃ i : Nat, i ≤ 32 ∧ c = .int .i64 i ∧ HoldO w SS i Bo wr) (fun c _ => 32 - (intOf c).toNat)
          case atStart => exact ⟨0, Nat.zero_le _, rfl, HO0.out⟩
          case round =>
            obtain ⟨i, hi, rfl, hold⟩ := hrel
            clear HO0
            have HO := Lib.hid hold
            clear hold
            by_cases hlt : i < 32
            · have cs := HO.out.at_w i hlt
              have cz := HO.out.at_z i hlt
              have cf := HO.out.free i
              go_wp2
              go_roundw
              case rel =>
                refine ⟨i + 1, by omega, by go_num, ?_⟩
                rw [out_byte SS.s i]
                exact HO.out.step i hlt
              case measure => simp [intOf]; omega
            · obtain rfl : i = 32 := by omega
              go_wp2_with (first
                | ((with_reducible show wpList _ _ _ ((⟨_, Op.load 126 (.tmp 6), _, _, _, _⟩ : Oper) :: _) _ _); refine wpList_load_row rfl 126 (.tmp 6) rfl _ rfl _ _ _ _ HO.out.out Tryd.underlying126 rfl (by rw [outArr_size _ _ (Nat.le_refl _)]; exact info126) ?_)
                | ((with_reducible show wpList _ _ _ ((⟨_, Op.store 126 (.tmp 2) _, _, _, _, _⟩ : Oper) :: _) _ _); refine wpList_store_row rfl 126 (.tmp 2) (.tmp 57) rfl _ _ rfl rfl _ _ HO.out.res (by rw [outArr_size _ _ (Nat.le_refl _)]; exact info126) (by rw [outArr_size _ _ (Nat.le_refl _)]; rfl) (outArr_one _ _) ?_))
              have hrow : (wr.setRow (w.heap.size + 1) (outArr SS.s 32)).heap[w.heap.size + 1]? = some (.cells (outArr SS.s 32) 126 (0, 0)) := setRow_heap _ _ _ _ _ _ HO.out.res
              rw [← HSS.out]
              exact bodyPost_ret (v := .agg (outArr SS.s 32)) (results_cell_row rfl _ _ (w.heap.size + 1) _ _ _ _ rfl hrow Tryd.underlying126 rfl (by rw [outArr_size _ _ (Nat.le_refl _)]; exact info126)) rfl ⟨rfl, below_setRow HO.out.below (by omega) _⟩
    · have hq : (((st.n : Int) + (1 + (j : Int))) % 64 == 56) = false := by
        have : (st.n + (1 + j)) % 64 ≠ 56 := by unfold zc at hz hj; omega
        simp; omega
      have hjz : j < zc st.n := by omega
      clear hz
      go_wp2_with ((with_reducible show wpList _ _ _ ((⟨_, Op.call _, _, _, _, _⟩ : Oper) :: _) _ _); refine append_byte (w.heap.size + 2) _ _ (1 + j) (by simp; omega) HOwn.out rfl (.tmp 20) (.tmp 21) rfl rfl 0 0 rfl rfl (by simp; omega) (by have := hb.size; have := HP.out.size; omega) W0 hb ?_; intro g' cap' w1 hown1 hb1)
      go_roundw
      case rel =>
        have el : (128 :: List.replicate j 0 ++ [0] : List UInt8) = 128 :: List.replicate (j + 1) 0 := by rw [List.cons_append, ← List.replicate_succ']
        rw [el] at hown1
        exact ⟨j + 1, g', cap', by omega, by rw [Nat.add_assoc], by rw [← Nat.add_assoc]; exact hown1, hb1⟩
      case measure => simp only [lenV]; omega
end Go.Proofs.YtfkpeabkcdhcfaaDoor
