/-
  Walk of the reference's Sum.
-/
import Derived.Test.YtfkpeabkcdhcfaaDoorX5
import Derived.Deep.DeepCutAuto
namespace Go.Proofs.YtfkpeabkcdhcfaaDoor
open Go.RowKit
set_option maxRecDepth 100000
/-- the second table of round constants -/
def HoldK2 (w : World) : Prop := w.rangeAt 1 0 (ks.map u32v)
theorem HoldK2.later {w w' : World} (h : HoldK2 w) (h0 : 1 < w.heap.size) (hb : Below w.heap.size w w') : HoldK2 w' := fun j v hv => (hb.cell (p := ⟨1, 0 + j, none⟩) h0).trans (h j v hv)
/-- between two blocks -/
structure HoldM (w : World) (M : List UInt8) (gm cap : Nat) (s : S8) (wx : World) : Prop where
  res : wx.heap[w.heap.size]? = some (.cells z32 126 (0, 0))
  st : wx.heap[w.heap.size + 1]? = some (.cells s.all 118 (0, 0))
  own : OwnB (w.heap.size + 2) (.slice (some ⟨gm, 0, none⟩) M.length cap) M wx
  below : Below w.heap.size w wx
  size : w.heap.size + 2 ≤ wx.heap.size
theorem HoldM.later {w : World} {M : List UInt8} {gm cap : Nat} {s : S8} {wx wy : World} (h : HoldM w M gm cap s wx) (hb : Below wx.heap.size wx wy) : HoldM w M gm cap s wy :=
  ⟨(hb.block _ (lt_of_block h.res)).trans h.res, (hb.block _ (lt_of_block h.st)).trans h.st, h.own.later hb, h.below.trans (hb.mono (by have := h.size; omega)), Nat.le_trans h.size hb.size⟩
theorem HoldM.drewN {w : World} {M : List UInt8} {gm cap : Nat} {s : S8} {wx : World} (h : HoldM w M gm cap s wx) (n : Nat) : HoldM w M gm cap s (wx.drewN n) := h.later (below_drewN (Below.refl _ _) n)
theorem HoldM.set {w : World} {M : List UInt8} {gm cap : Nat} {s : S8} {wx : World} (h : HoldM w M gm cap s wx) (s' : S8) : HoldM w M gm cap s' (wx.setRow (w.heap.size + 1) s'.all) := by
  refine ⟨(setRow_other _ _ _ _ (by omega)).trans h.res, setRow_heap _ _ _ _ _ _ h.st, ?_, below_setRow h.below (by omega) _, by rw [setRow_size]; exact h.size⟩
  rcases h.own.2 with ⟨h1, _⟩ | ⟨g, cap', cur, h1, h2, h3, h4⟩
  · cases h1
  · refine ⟨h.own.1, .inr ⟨g, cap', cur, h1, h2, ?_, h4⟩⟩
    rw [setRow_other _ _ _ _ (by omega)]; exact h3
/-- within a block -/
structure HoldQ (w : World) (M : List UInt8) (gm cap : Nat) (s : S8) (bs : Nat → UInt8) (Bw : Nat) (wx : World) : Prop where
  m : HoldM w M gm cap s wx
  row : wx.heap[Bw]? = some (.cells (schedArr bs 64) 138 (0, 0))
theorem HoldQ.drewN {w : World} {M : List UInt8} {gm cap : Nat} {s : S8} {bs : Nat → UInt8} {Bw : Nat} {wx : World} (h : HoldQ w M gm cap s bs Bw wx) (n : Nat) : HoldQ w M gm cap s bs Bw (wx.drewN n) := ⟨h.m.drewN n, h.row⟩
theorem HoldM.cell {w : World} {M : List UInt8} {gm cap : Nat} {s : S8} {wx : World} (h : HoldM w M gm cap s wx) (i : Nat) : wx.cell? ⟨w.heap.size + 1, i, none⟩ = s.all[i]? := cell_of_row _ _ _ _ _ _ h.st
theorem holdQ_mk {w : World} {M : List UInt8} {gm cap : Nat} {s : S8} {bs : Nat → UInt8} {w2 : World} (h : HoldM w M gm cap s w2) (Z : Array Value) : HoldQ w M gm cap s bs w2.heap.size ((w2.alloc (.cells Z 138)).setRow w2.heap.size (schedArr bs 64)) := by
  refine ⟨h.later (below_setRow ((Below.refl _ _).alloc (Nat.le_refl _) _) (Nat.le_refl _) _), setRow_heap _ _ _ _ _ _ (heap_alloc_new _ _)⟩
theorem HoldQ.k {w : World} {M : List UInt8} {gm cap : Nat} {s : S8} {bs : Nat → UInt8} {Bw : Nat} {wx : World} (h : HoldQ w M gm cap s bs Bw wx) (hsz : 1 < w.heap.size) (hK : HoldK2 w) (t : Nat) (ht : t < 64) : wx.cell? ⟨1, t, none⟩ = some (.int .u32 ((ks.getD t 0).toNat : Int)) := by
  have hl : t < ks.length := ht
  have h1 := hK t (u32v (ks.getD t 0)) (by simp [List.getD_eq_getElem?_getD, List.getElem?_eq_getElem hl])
  rw [Nat.zero_add] at h1
  exact (h.m.below.cell (p := ⟨1, t, none⟩) hsz).trans h1
theorem HoldQ.w {w : World} {M : List UInt8} {gm cap : Nat} {s : S8} {bs : Nat → UInt8} {Bw : Nat} {wx : World} (h : HoldQ w M gm cap s bs Bw wx) (t : Nat) (ht : t < 64) : wx.cell? ⟨Bw, t, none⟩ = some (.int .u32 (((sched bs 64).getD t 0).toNat : Int)) := by
  rw [cell_of_row _ _ _ _ _ _ h.row, schedArr_get _ _ _ ht]
/-- at the end: the bytes of the hash value are laid out -/
structure HoldZ (w : World) (S : S8) (i Bo : Nat) (wx : World) : Prop where
  st : wx.heap[w.heap.size + 1]? = some (.cells S.all 118 (0, 0))
  res : wx.heap[w.heap.size]? = some (.cells z32 126 (0, 0))
  out : wx.heap[Bo]? = some (.cells (outArr S i) 126 (0, 0))
  lt : w.heap.size + 1 < Bo
  below : Below w.heap.size w wx
theorem holdZ_mk {w : World} {M : List UInt8} {gm cap : Nat} {S : S8} {wr : World} (h : HoldM w M gm cap S wr) : HoldZ w S 0 wr.heap.size (wr.alloc (.cells z32 126)) := by
  have hs := h.size
  refine ⟨(Below.heap_alloc _ _ _ (by omega)).trans h.st, (Below.heap_alloc _ _ _ (by omega)).trans h.res, heap_alloc_new _ _, by omega, h.below.alloc (by omega) _⟩
theorem HoldZ.at_w {w wx : World} {S : S8} {i Bo : Nat} (h : HoldZ w S i Bo wx) (k : Nat) (hk : k < 32) : wx.cell? ⟨w.heap.size + 1, k / 4, none⟩ = some (.int .u32 ((S.word (k / 4)).toNat : Int)) := by
  rw [cell_of_row _ _ _ _ _ _ h.st]
  have h8 : k / 4 < 8 := by omega
  generalize k / 4 = m at h8
  match m, h8 with
  | 0, _ | 1, _ | 2, _ | 3, _ | 4, _ | 5, _ | 6, _ | 7, _ => rfl
theorem HoldZ.at_z {w wx : World} {S : S8} {i Bo : Nat} (h : HoldZ w S i Bo wx) (hk : i < 32) : wx.cell? ⟨Bo, i, none⟩ = some (u8v 0) := by
  rw [cell_of_row _ _ _ _ _ _ h.out, outArr_at _ _ hk]
theorem HoldZ.free {w wx : World} {S : S8} {i Bo : Nat} (h : HoldZ w S i Bo wx) (k : Nat) : wx.frozen? ⟨Bo, k, none⟩ = false := frozen_of_row _ _ _ _ _ h.out
theorem HoldZ.step {w wx : World} {S : S8} {i Bo : Nat} (h : HoldZ w S i Bo wx) (hk : i < 32) : HoldZ w S (i + 1) Bo (wx.setCell ⟨Bo, i, none⟩ (.int .u8 ((outB S i).toNat : Int))) := by
  obtain ⟨h1, h2, h3, h4, h6⟩ := h
  refine ⟨(heap_setCell_other _ _ _ _ (by show _ ≠ Bo; omega)).trans h1, (heap_setCell_other _ _ _ _ (by show _ ≠ Bo; omega)).trans h2, ?_, h4, h6.setCell (by show _ ≤ Bo; omega) _⟩
  rw [heap_setCell_same _ _ _ _ _ _ h3]
  exact congrArg (fun c => some (Obj.cells c 126 (0, 0))) (outArr_step S i hk)
theorem u32_neg (x : UInt32) : x ^^^ (4294967295 : UInt32) = ~~~x := by
  rw [UInt32.xor_comm, not_xor]
theorem rx_eq (kt wt : UInt32) (R : S8) : ((R.h.toNat : Int) + bits BinOp.xor IntKind.u32 (bits BinOp.xor IntKind.u32 ((rotr 6 R.e).toNat : Int) ((rotr 11 R.e).toNat : Int)) ((rotr 25 R.e).toNat : Int) +
    bits BinOp.xor IntKind.u32 (bits BinOp.and IntKind.u32 (R.e.toNat : Int) (R.f.toNat : Int)) (bits BinOp.and IntKind.u32 (bits BinOp.xor IntKind.u32 (R.e.toNat : Int) 4294967295) (R.g.toNat : Int)) + (kt.toNat : Int) + (wt.toNat : Int)) % 4294967296 = ((rndX kt wt R).toNat : Int) := by
  have e1 : (4294967295 : Int) = ((4294967295 : UInt32).toNat : Int) := rfl
  rw [e1, u32_and, u32_xor, u32_xor, u32_xor, u32_and, u32_xor, u32_sum5, u32_neg]
  rfl
theorem ry_eq (R : S8) : (bits BinOp.xor IntKind.u32 (bits BinOp.xor IntKind.u32 ((rotr 2 R.a).toNat : Int) ((rotr 13 R.a).toNat : Int)) ((rotr 22 R.a).toNat : Int) +
    bits BinOp.xor IntKind.u32 (bits BinOp.xor IntKind.u32 (bits BinOp.and IntKind.u32 (R.a.toNat : Int) (R.b.toNat : Int)) (bits BinOp.and IntKind.u32 (R.a.toNat : Int) (R.c.toNat : Int))) (bits BinOp.and IntKind.u32 (R.b.toNat : Int) (R.c.toNat : Int))) % 4294967296 = ((rndY R).toNat : Int) := by
  rw [u32_and, u32_and, u32_and, u32_xor, u32_xor, u32_xor, u32_xor, u32_add]
  rfl
theorem fin_eq (s R : S8) (bs : Nat → UInt8) (h : R = rounds (sched bs 64) s 64) : (#[.int .u32 (((s.a.toNat : Int) + (R.a.toNat : Int)) % 4294967296), .int .u32 (((s.b.toNat : Int) + (R.b.toNat : Int)) % 4294967296), .int .u32 (((s.c.toNat : Int) + (R.c.toNat : Int)) % 4294967296), .int .u32 (((s.d.toNat : Int) + (R.d.toNat : Int)) % 4294967296),
    .int .u32 (((s.e.toNat : Int) + (R.e.toNat : Int)) % 4294967296), .int .u32 (((s.f.toNat : Int) + (R.f.toNat : Int)) % 4294967296), .int .u32 (((s.g.toNat : Int) + (R.g.toNat : Int)) % 4294967296), .int .u32 (((s.h.toNat : Int) + (R.h.toNat : Int)) % 4294967296)] : Array Value) = (compress bs s).all := by
  simp only [u32_add, h]
  rfl
set_option maxHeartbeats 4000000 in
theorem rsum_any (g cap0 : Nat) (l : List UInt8) (h1 : 0 < l.length) (h2 : l.length ≤ 400000) (w : World) (hsz : 1 < w.heap.size) (hK : HoldK2 w) (hc : CellsAt w ⟨g, 0, none⟩ (l.map u8v)) :
    Calls Tryd.prog 128 #[.slice (some ⟨g, 0, none⟩) l.length cap0] w fun e w' => e = .returned (.agg (outArr (hashOf l) 32)) ∧ Below w.heap.size w w' := by
  have HC := Lib.hid hc
  have HK := Lib.hid hK
  clear hc hK
  go_enter Tryd.func128, Tryd.ntmps128
  go_wp2_with ((with_reducible show wpList _ _ _ ((⟨_, Op.store 118 (.tmp 3) _, _, _, _, _⟩ : Oper) :: _) _ _); refine wpList_store_row rfl 118 (.tmp 3) (.tmp 20) rfl _ iv.all rfl rfl _ _ (heap_alloc2_new _ _ _) (by exact info118) rfl (by decide) ?_)
  obtain ⟨W0, hW0⟩ : ∃ W0, W0 = (w.alloc (.cells z32 126)).alloc (.cells iv.all 118) := ⟨_, rfl⟩
  have hs0 : W0.heap.size = w.heap.size + 2 := by rw [hW0]; simp
  have hb0 : Below w.heap.size w W0 := by rw [hW0]; exact ((Below.refl _ _).alloc (Nat.le_refl _) _).alloc (by simp) _
  have hr0 : W0.heap[w.heap.size]? = some (.cells z32 126 (0, 0)) := by rw [hW0]; exact heap_alloc2_old _ _ _
  have hr1 : W0.heap[w.heap.size + 1]? = some (.cells iv.all 118 (0, 0)) := by rw [hW0]; exact heap_alloc2_new _ _ _
  show Calls Tryd.prog 130 _ ((w.alloc (.cells z32 126)).alloc (.cells iv.all 118)) _
  rw [← hW0]
  refine (padded_any g cap0 l h1 h2 W0 (CellsAt.later HC.out hb0)).mono ?_
  rintro e w1 ⟨gm, cap, rfl, hown, hb1⟩
  have hh : hashOf l = (feed str0 (l ++ padL l.length)).s := hashOf_eq l
  have hml : (l ++ padL l.length).length = l.length + (9 + zc l.length) := by rw [List.length_append, padL_len]
  have hzc : zc l.length < 64 := Nat.mod_lt _ (by omega)
  obtain ⟨nb, hnb⟩ := msg_len l
  obtain ⟨M, hM⟩ : ∃ M, M = l ++ padL l.length := ⟨_, rfl⟩
  rw [← hM] at hown hh hml hnb ⊢
  have hnb' : nb ≤ 10000 := by omega
  have hold : HoldM w M gm cap (sb M 0) w1 := ⟨(hb1.block _ (by omega)).trans hr0, (hb1.block _ (by omega)).trans hr1, by rw [← hs0]; exact hown, hb0.trans (hb1.mono (by omega)), by have := hb1.size; omega⟩
  have HH := Lib.hid hold
  have HHH := Lib.hid hh
  have HNB := Lib.hid hnb
  have hcap : M.length ≤ cap := by
    rcases hown.2 with ⟨h, _⟩ | ⟨g', cap', cur, h, _, _, h5, _⟩
    · cases h
    · simp only [Value.slice.injEq] at h; omega
  rw [hnb] at hcap ⊢
  clear hW0 hs0 hb0 hr0 hr1 hown hb1 hold hh hml hzc hnb hM HC h1 h2
  go_wp2_with fail
  go_loopw [5] (fun c wr => ∃ b : Nat, b ≤ nb ∧ c = .int .i64 ((64 * b : Nat) : Int) ∧ HoldM w M gm cap (sb M b) wr) (fun c _ => 64 * nb - (intOf c).toNat)
  case atStart => exact ⟨0, by omega, rfl, HH.out⟩
  case round =>
    obtain ⟨b, hb, rfl, hold⟩ := hrel
    have HO := Lib.hid hold
    clear hold HH
    by_cases hlt : b < nb
    · obtain ⟨at', hat⟩ : ∃ a, a = 64 * b := ⟨_, rfl⟩
      rw [← hat]
      have hat1 : at' + 64 ≤ 64 * nb := by omega
      have hcne : ¬ cap = at' := by omega
      have hwd := fun (W : World) (hW : Below wr.heap.size wr W) => words_any (blkOf M b) gm at' (cap - at') W (Nat.lt_of_lt_of_le (by
        rcases HO.out.own.2 with ⟨h, _⟩ | ⟨g', cap', cur, h, _, h5, _⟩
        · cases h
        · simp only [Value.slice.injEq, Option.some.injEq, Addr.mk.injEq] at h
          obtain ⟨⟨rfl, _⟩, _⟩ := h
          exact lt_of_block h5) hW.size) (fun i hi => by
        rw [((HO.out.own.later hW).cell (at' + i) (by rw [HNB.out]; omega)), blkOf, hat])
      have HWD := Lib.hid hwd
      have HAT := Lib.hid hat
      clear hwd hat
      go_wp2_with fail
      refine (HWD.out _ (Below.refl _ _)).mono ?_
      rintro e w2 ⟨rfl, hb2⟩
      have hold2 := HO.out.later hb2
      have HO2 := Lib.hid hold2
      clear hb2 hold2
      go_wp2_with ((with_reducible show wpList _ _ _ ((⟨_, Op.store 138 (.tmp 6) _, _, _, _, _⟩ : Oper) :: _) _ _); refine wpList_store_row rfl 138 (.tmp 6) (.tmp 34) rfl _ (schedArr (blkOf M b) 64) rfl rfl _ _ (heap_alloc_new _ _) (by rw [schedArr_size _ 64 (by omega)]; exact info138) (by rw [schedArr_size _ 64 (by omega)]; rfl) (schedArr_one _ 64) ?_)
      have hq0 := holdQ_mk (bs := blkOf M b) HO2.out zero64
      change Code.wp Tryd.prog _ _ _ ((w2.alloc (.cells zero64 138)).setRow w2.heap.size (schedArr (blkOf M b) 64))
      obtain ⟨w3, hw3⟩ : ∃ w3, w3 = (w2.alloc (.cells zero64 138)).setRow w2.heap.size (schedArr (blkOf M b) 64) := ⟨_, rfl⟩
      rw [← hw3] at hq0 ⊢
      clear hw3
      obtain ⟨Bw, hBw⟩ : ∃ Bw, Bw = w2.heap.size := ⟨_, rfl⟩
      rw [← hBw] at hq0 ⊢
      clear hBw HO2 HO HWD hcne hat1
      obtain ⟨s, hs⟩ : ∃ s, s = sb M b := ⟨_, rfl⟩
      rw [← hs] at hq0
      have HS := Lib.hid hs
      clear hs
      have c0 : w3.cell? ⟨w.heap.size + 1, 0, none⟩ = some (.int .u32 (s.a.toNat : Int)) := hq0.m.cell 0
      have c1 : w3.cell? ⟨w.heap.size + 1, 1, none⟩ = some (.int .u32 (s.b.toNat : Int)) := hq0.m.cell 1
      have c2 : w3.cell? ⟨w.heap.size + 1, 2, none⟩ = some (.int .u32 (s.c.toNat : Int)) := hq0.m.cell 2
      have c3 : w3.cell? ⟨w.heap.size + 1, 3, none⟩ = some (.int .u32 (s.d.toNat : Int)) := hq0.m.cell 3
      have c4 : w3.cell? ⟨w.heap.size + 1, 4, none⟩ = some (.int .u32 (s.e.toNat : Int)) := hq0.m.cell 4
      have c5 : w3.cell? ⟨w.heap.size + 1, 5, none⟩ = some (.int .u32 (s.f.toNat : Int)) := hq0.m.cell 5
      have c6 : w3.cell? ⟨w.heap.size + 1, 6, none⟩ = some (.int .u32 (s.g.toNat : Int)) := hq0.m.cell 6
      have c7 : w3.cell? ⟨w.heap.size + 1, 7, none⟩ = some (.int .u32 (s.h.toNat : Int)) := hq0.m.cell 7
      have HQ := Lib.hid hq0
      clear hq0
      go_quiet (fail)
      go_wp2_with fail
      go_loopw [7, 8, 9, 10, 11, 12, 13, 14, 15] (fun a' b' c' d' e' f' g' h' t' wr => ∃ (k : Nat) (R : S8), k ≤ 64 ∧ t' = .int .i64 k ∧ R = rounds (sched (blkOf M b) 64) s k ∧ a' = .int .u32 (R.a.toNat : Int) ∧ b' = .int .u32 (R.b.toNat : Int) ∧ c' = .int .u32 (R.c.toNat : Int) ∧ d' = .int .u32 (R.d.toNat : Int) ∧
        e' = .int .u32 (R.e.toNat : Int) ∧ f' = .int .u32 (R.f.toNat : Int) ∧ g' = .int .u32 (R.g.toNat : Int) ∧ h' = .int .u32 (R.h.toNat : Int) ∧ HoldQ w M gm cap s (blkOf M b) Bw wr) (fun _ _ _ _ _ _ _ _ t' _ => 64 - (intOf t').toNat)
      case atStart => exact ⟨0, s, by omega, rfl, rfl, rfl, rfl, rfl, rfl, rfl, rfl, rfl, rfl, HQ.out.drewN _⟩
      case round =>
        clear c0 c1 c2 c3 c4 c5 c6 c7
        obtain ⟨k, R, hk, rfl, hR, rfl, rfl, rfl, rfl, rfl, rfl, rfl, rfl, hq⟩ := hrel
        obtain ⟨wi, rfl⟩ : ∃ wi : World, wi = wr := ⟨_, rfl⟩
        have HR := Lib.hid hR
        have HQ1 := Lib.hid hq
        clear hR hq
        by_cases hk64 : k < 64
        · have ck := HQ1.out.k hsz HK.out k hk64
          have cw := HQ1.out.w k hk64
          obtain ⟨kt, hkt⟩ : ∃ x, x = ks.getD k 0 := ⟨_, rfl⟩
          obtain ⟨wt, hwt⟩ : ∃ x, x = (sched (blkOf M b) 64).getD k 0 := ⟨_, rfl⟩
          rw [← hkt] at ck
          rw [← hwt] at cw
          have HKT := Lib.hid hkt
          have HWT := Lib.hid hwt
          clear hkt hwt
          go_wp2_with fail
          go_quiet ((go_at_call 132; exact Calls.quiet_of (rotr_int _ _ _ (by decide))))
          go_wp2_with fail
          refine (rotr_int _ _ _ (by decide)).mono ?_; rintro e w' ⟨rfl, m1, rfl⟩
          go_wp2_with fail
          refine (rotr_int _ _ _ (by decide)).mono ?_; rintro e w' ⟨rfl, m2, rfl⟩
          go_wp2_with fail
          refine (rotr_int _ _ _ (by decide)).mono ?_; rintro e w' ⟨rfl, m3, rfl⟩
          go_wp2_with fail
          go_roundw
          case rel =>
            rw [rx_eq, ry_eq, u32_add, u32_add]
            exact ⟨k + 1, rnd kt wt R, by omega, by go_num, by rw [rounds, ← HR.out, ← HKT.out, ← HWT.out], rfl, rfl, rfl, rfl, rfl, rfl, rfl, rfl, HQ1.out.drewN _⟩
          case measure => simp [intOf]; omega
        · obtain rfl : k = 64 := by omega
          have c0 : wi.cell? ⟨w.heap.size + 1, 0, none⟩ = some (.int .u32 (s.a.toNat : Int)) := HQ1.out.m.cell 0
          have c1 : wi.cell? ⟨w.heap.size + 1, 1, none⟩ = some (.int .u32 (s.b.toNat : Int)) := HQ1.out.m.cell 1
          have c2 : wi.cell? ⟨w.heap.size + 1, 2, none⟩ = some (.int .u32 (s.c.toNat : Int)) := HQ1.out.m.cell 2
          have c3 : wi.cell? ⟨w.heap.size + 1, 3, none⟩ = some (.int .u32 (s.d.toNat : Int)) := HQ1.out.m.cell 3
          have c4 : wi.cell? ⟨w.heap.size + 1, 4, none⟩ = some (.int .u32 (s.e.toNat : Int)) := HQ1.out.m.cell 4
          have c5 : wi.cell? ⟨w.heap.size + 1, 5, none⟩ = some (.int .u32 (s.f.toNat : Int)) := HQ1.out.m.cell 5
          have c6 : wi.cell? ⟨w.heap.size + 1, 6, none⟩ = some (.int .u32 (s.g.toNat : Int)) := HQ1.out.m.cell 6
          have c7 : wi.cell? ⟨w.heap.size + 1, 7, none⟩ = some (.int .u32 (s.h.toNat : Int)) := HQ1.out.m.cell 7
          go_wp2_with ((with_reducible show wpList _ _ _ ((⟨_, Op.store 118 (.tmp 3) _, _, _, _, _⟩ : Oper) :: _) _ _); refine wpList_store_row rfl 118 (.tmp 3) (.tmp 146) rfl _ _ rfl rfl _ _ HQ1.out.m.st (by exact info118) rfl (by simp [Value.oneCell']) ?_)
          go_roundw
          case rel =>
            rw [fin_eq s R (blkOf M b) HR.out]
            refine ⟨b + 1, by omega, ?_, ?_⟩
            · rw [HAT.out]
              go_num
            · rw [sb, ← HS.out]
              exact HQ1.out.m.set _
          case measure =>
            have := HAT.out
            simp [intOf]; omega
    · obtain rfl : b = nb := by omega
      have hz := holdZ_mk HO.out
      have hS : sb M b = hashOf l := by rw [HHH.out]; exact (feed_all M b HNB.out).symm
      rw [hS] at hz
      obtain ⟨S, hSS⟩ : ∃ S, S = hashOf l := ⟨_, rfl⟩
      rw [← hSS] at hz
      have HZ := Lib.hid hz
      have HSS := Lib.hid hSS
      clear hz hS hSS HO
      go_wp2_with fail
      go_loopw [19] (fun c wz => ∃ i : Nat, i ≤ 32 ∧ c = .int .i64 i ∧ HoldZ w S i wr.heap.size wz) (fun c _ => 32 - (intOf c).toNat)
      case atStart => exact ⟨0, Nat.zero_le _, rfl, HZ.out⟩
      case round =>
        clear HZ
        obtain ⟨i, hi, rfl, hold⟩ := hrel
        have HO := Lib.hid hold
        clear hold
        by_cases hlt : i < 32
        · have cs := HO.out.at_w i hlt
          have cz := HO.out.at_z hlt
          have cf := HO.out.free i
          go_wp2_with fail
          go_roundw
          case rel =>
            refine ⟨i + 1, by omega, by go_num, ?_⟩
            rw [out_byte S i]
            exact HO.out.step hlt
          case measure => simp [intOf]; omega
        · obtain rfl : i = 32 := by omega
          go_wp2_with (first
            | ((with_reducible show wpList _ _ _ ((⟨_, Op.load 126 (.tmp 18), _, _, _, _⟩ : Oper) :: _) _ _); refine wpList_load_row rfl 126 (.tmp 18) rfl _ rfl _ _ _ _ HO.out.out Tryd.underlying126 rfl (by rw [outArr_size _ _ (Nat.le_refl _)]; exact info126) ?_)
            | ((with_reducible show wpList _ _ _ ((⟨_, Op.store 126 (.tmp 2) _, _, _, _, _⟩ : Oper) :: _) _ _); refine wpList_store_row rfl 126 (.tmp 2) (.tmp 163) rfl _ _ rfl rfl _ _ HO.out.res (by rw [outArr_size _ _ (Nat.le_refl _)]; exact info126) (by rw [outArr_size _ _ (Nat.le_refl _)]; rfl) (outArr_one _ _) ?_))
          have hrow : (wr.setRow w.heap.size (outArr S 32)).heap[w.heap.size]? = some (.cells (outArr S 32) 126 (0, 0)) := setRow_heap _ _ _ _ _ _ HO.out.res
          exact bodyPost_ret (v := .agg (outArr S 32)) (results_cell_row rfl _ _ w.heap.size _ _ _ _ rfl hrow Tryd.underlying126 rfl (by rw [outArr_size _ _ (Nat.le_refl _)]; exact info126)) rfl ⟨by rw [HSS.out], below_setRow HO.out.below (Nat.le_refl _) _⟩
end Go.Proofs.YtfkpeabkcdhcfaaDoor
