/-
  Walks of the reference's rotr and words.
-/
import Derived.Test.YtfkpeabkcdhcfaaDoorX2
import Derived.BigQuiet
import Derived.BigRegion
import Derived.Deep.QuietTactic
namespace Go.Proofs.YtfkpeabkcdhcfaaDoor
open Go.RowKit
set_option maxRecDepth 100000
theorem u32_or_comm (a b : UInt32) : a ||| b = b ||| a := by
  apply UInt32.eq_of_toBitVec_eq
  rw [UInt32.toBitVec_or, UInt32.toBitVec_or, BitVec.or_comm]
theorem rotr_any (x : UInt32) (n : Nat) (h0 : 0 < n) (h1 : n < 32) (w : World) : Calls Tryd.prog 132 #[.int .u32 x.toNat, .int .i64 (n : Int)] w fun e w' => e = .returned (.int .u32 (rotr n x).toNat) ∧ ∃ m, w' = w.drewN m := by
  have h32 : 0 ≤ 32 - (n : Int) := by omega
  have hs1 : 0 ≤ (n : Int) := by omega
  go_enter Tryd.func132, Tryd.ntmps132
  go_wp2_with fail
  go_quiet (fail)
  go_wp2
  go_ret
  refine ⟨?_, _, rfl⟩
  have e1 := u32_shl x (32 - n) (by omega)
  have e2 := u32_shr x n h1
  simp only [Array.getD_eq_getD_getElem?, List.getElem?_toArray, List.getElem?_cons_succ, List.getElem?_cons_zero, Option.getD_some, e1, e2, u32_or]
  rw [u32_or_comm]
  rfl
theorem word_eq (b0 b1 b2 b3 : UInt32) : ((b0 <<< 24 ||| b1 <<< 16) ||| b2 <<< 8) ||| b3 = ((((((((0 : UInt32) <<< 8) ||| b0) <<< 8) ||| b1) <<< 8) ||| b2) <<< 8) ||| b3 := by
  apply UInt32.eq_of_toBitVec_eq
  simp only [UInt32.toBitVec_or, UInt32.toBitVec_shiftLeft]
  show ((b0.toBitVec <<< (24#32 % 32) ||| b1.toBitVec <<< (16#32 % 32)) ||| b2.toBitVec <<< (8#32 % 32)) ||| b3.toBitVec = (((((((0#32 <<< (8#32 % 32)) ||| b0.toBitVec) <<< (8#32 % 32)) ||| b1.toBitVec) <<< (8#32 % 32)) ||| b2.toBitVec) <<< (8#32 % 32)) ||| b3.toBitVec
  simp only [BitVec.shiftLeft_eq']
  show ((b0.toBitVec <<< 24 ||| b1.toBitVec <<< 16) ||| b2.toBitVec <<< 8) ||| b3.toBitVec = (((((((0#32 <<< 8) ||| b0.toBitVec) <<< 8) ||| b1.toBitVec) <<< 8) ||| b2.toBitVec) <<< 8) ||| b3.toBitVec
  simp only [BitVec.shiftLeft_or_distrib, ← BitVec.shiftLeft_add, BitVec.zero_shiftLeft, BitVec.zero_or]
theorem shl8 (b : UInt8) : ((b.toNat : Int) * (16777216 : Int) = ((b.toUInt32 <<< 24).toNat : Int)) ∧ ((b.toNat : Int) * (65536 : Int) = ((b.toUInt32 <<< 16).toNat : Int)) ∧ ((b.toNat : Int) * (256 : Int) = ((b.toUInt32 <<< 8).toNat : Int)) ∧ ((b.toNat : Int) = (b.toUInt32.toNat : Int)) := by
  have hb := b.toNat_lt
  have he : b.toUInt32.toNat = b.toNat := by simp
  have h1 := u32_shl b.toUInt32 24 (by omega)
  have h2 := u32_shl b.toUInt32 16 (by omega)
  have h3 := u32_shl b.toUInt32 8 (by omega)
  rw [he] at h1 h2 h3
  rw [show ((2 : Int) ^ 24) = 16777216 from rfl] at h1
  rw [show ((2 : Int) ^ 16) = 65536 from rfl] at h2
  rw [show ((2 : Int) ^ 8) = 256 from rfl] at h3
  refine ⟨?_, ?_, ?_, by rw [he]⟩
  · rw [← show (UInt32.ofNat 24) = 24 from rfl, ← h1]; omega
  · rw [← show (UInt32.ofNat 16) = 16 from rfl, ← h2]; omega
  · rw [← show (UInt32.ofNat 8) = 8 from rfl, ← h3]; omega
theorem word_bits (bs : Nat → UInt8) (k : Nat) (b0 b1 b2 b3 : UInt8) (h0 : b0 = bs (4 * k + 0)) (h1 : b1 = bs (4 * k + 1)) (h2 : b2 = bs (4 * k + 2)) (h3 : b3 = bs (4 * k + 3)) :
    bits BinOp.or IntKind.u32 (bits BinOp.or IntKind.u32 (bits BinOp.or IntKind.u32 ((b0.toNat : Int) * 16777216) ((b1.toNat : Int) * 65536)) ((b2.toNat : Int) * 256)) (b3.toNat : Int) = ((word bs k).toNat : Int) := by
  rw [(shl8 b0).1, (shl8 b1).2.1, (shl8 b2).2.2.1, (shl8 b3).2.2.2, u32_or, u32_or, u32_or, word_eq, h0, h1, h2, h3]
  rfl
theorem draw_behind {P : Program} {f : FuncId} {args : Array Value} {w : World} {a n : Nat} {v : Value} (h : ∀ W : World, Calls P f args W fun e w' => e = .returned v ∧ ∃ m, w' = W.drewN m) :
    Calls P f args (w.drewN (a + n)) fun e w'' => e = .returned v ∧ ∃ m, w'' = w.drewN (a + m) := (h _).mono fun _ _ hh => by
  obtain ⟨h1, m, h2⟩ := hh
  exact ⟨h1, n + m, by rw [h2, World.drewN_drewN, Nat.add_assoc]⟩
theorem rotr_at (n : Nat) (k : Int) (hk : k = (n : Int)) (h0 : 0 < n) (h1 : n < 32) (x : UInt32) (w : World) : Calls Tryd.prog 132 #[.int .u32 x.toNat, .int .i64 k] w fun e w' => e = .returned (.int .u32 (rotr n x).toNat) ∧ ∃ m, w' = w.drewN m := by
  subst hk
  exact rotr_any x n h0 h1 w
theorem rotr_int (x : UInt32) (k : Int) (w : World) (h : 0 < k ∧ k < 32) : Calls Tryd.prog 132 #[.int .u32 x.toNat, .int .i64 k] w fun e w' => e = .returned (.int .u32 (rotr k.toNat x).toNat) ∧ ∃ m, w' = w.drewN m :=
  rotr_at k.toNat k (by omega) (by omega) (by omega) x w
theorem rotr_more {w : World} {a n : Nat} (x : UInt32) (k : Int) (h : 0 < k ∧ k < 32) : Calls Tryd.prog 132 #[.int .u32 x.toNat, .int .i64 k] (w.drewN (a + n)) fun e w'' => e = .returned (.int .u32 (rotr k.toNat x).toNat) ∧ ∃ m, w'' = w.drewN (a + m) :=
  draw_behind fun W => rotr_int x k W h
set_option maxHeartbeats 2000000 in
theorem words_any (bs : Nat → UInt8) (B off cap : Nat) (w : World) (hB : B < w.heap.size) (hc : ∀ i, i < 64 → w.cell? ⟨B, off + i, none⟩ = some (.int .u8 ((bs i).toNat : Int))) : Calls Tryd.prog 131 #[.slice (some ⟨B, off, none⟩) 64 cap] w fun e w' => e = .returned (.agg (schedArr bs 64)) ∧ Below w.heap.size w w' := by
  have hc' := Lib.hid hc
  clear hc
  go_enter Tryd.func131, Tryd.ntmps131
  go_wp2_with fail
  go_loopw [4] (fun c wr => ∃ k : Nat, k ≤ 16 ∧ c = .int .i64 k ∧ wr.heap[w.heap.size + 1]? = some (.cells (schedArr bs k) 138 (0,0)) ∧ wr.heap[w.heap.size]? = some (.cells zero64 138 (0,0)) ∧ wr.heap.size = w.heap.size + 2 ∧ Below w.heap.size w wr) (fun c _ => 16 - (intOf c).toNat)
  case atStart =>
    exact ⟨0, by omega, rfl, heap_alloc2_new _ _ _, heap_alloc2_old _ _ _, by simp, ((Below.refl _ _).alloc (Nat.le_refl _) _).alloc (by simp) _⟩
  case round =>
    obtain ⟨k, hk, rfl, h1, h0, hs, hb⟩ := hrel
    obtain ⟨wo, rfl⟩ : ∃ wo : World, wo = wr := ⟨_, rfl⟩
    have hsz := Lib.hid hs
    have H1 := Lib.hid h1
    have H0 := Lib.hid h0
    clear hs h1 h0
    by_cases hlt : k < 16
    · have hcell := fun j (hj : j < 4) => (hb.cell (p := ⟨B, off + (4 * k + j), none⟩) hB).trans (hc'.out (4 * k + j) (by omega))
      have g0 := hcell 0 (by omega)
      have g1 := hcell 1 (by omega)
      have g2 := hcell 2 (by omega)
      have g3 := hcell 3 (by omega)
      have gz : wo.cell? ⟨w.heap.size + 1, k, none⟩ = some (u32v 0) := by
        rw [cell_of_row _ _ _ _ _ _ H1.out, schedArr_zero _ _ (by omega)]
      have gf : wo.frozen? ⟨w.heap.size + 1, k, none⟩ = false := frozen_of_row _ _ _ _ _ H1.out
      obtain ⟨b0, hb0⟩ : ∃ b, b = bs (4 * k + 0) := ⟨_, rfl⟩
      obtain ⟨b1, hb1⟩ : ∃ b, b = bs (4 * k + 1) := ⟨_, rfl⟩
      obtain ⟨b2, hb2⟩ : ∃ b, b = bs (4 * k + 2) := ⟨_, rfl⟩
      obtain ⟨b3, hb3⟩ : ∃ b, b = bs (4 * k + 3) := ⟨_, rfl⟩
      rw [← hb0] at g0
      rw [← hb1] at g1
      rw [← hb2] at g2
      rw [← hb3] at g3
      rw [Nat.add_zero] at g0
      have l0 := b0.toNat_lt
      have l1 := b1.toNat_lt
      have l2 := b2.toNat_lt
      have l3 := b3.toNat_lt
      have HBB := Lib.hid (And.intro hb0 (And.intro hb1 (And.intro hb2 hb3)))
      have HB := Lib.hid hb
      clear hb0 hb1 hb2 hb3 hcell hb
      go_wp2_with fail
      go_region
      all_goals go_wp2
      go_roundw
      case rel =>
        obtain ⟨e0, e1, e2, e3⟩ := HBB.out
        rw [word_bits bs k b0 b1 b2 b3 e0 e1 e2 e3]
        refine ⟨k + 1, by omega, by go_num, ?_, ?_, ?_, ?_⟩
        · refine (heap_setCell_same wo _ _ _ _ _ H1.out).trans ?_
          exact congrArg (fun c => some (Obj.cells c 138 (0, 0))) (schedArr_step bs k (by omega) _ (by simp only [sched, if_pos hlt]))
        · exact (heap_setCell_other _ _ _ _ (by simp)).trans H0.out
        · simp; exact hsz.out
        · exact ((HB.out.setCell (by simp) _).drew)
      case measure => simp [intOf]; omega
    · obtain rfl : k = 16 := by omega
      have HB := Lib.hid hb
      clear hb
      go_wp2_with fail
      go_loopw [5] (fun c wr => ∃ k : Nat, 16 ≤ k ∧ k ≤ 64 ∧ c = .int .i64 k ∧ wr.heap[w.heap.size + 1]? = some (.cells (schedArr bs k) 138 (0,0)) ∧ wr.heap[w.heap.size]? = some (.cells zero64 138 (0,0)) ∧ wr.heap.size = w.heap.size + 2 ∧ Below w.heap.size w wr) (fun c _ => 64 - (intOf c).toNat)
      case atStart => exact ⟨16, by omega, by omega, rfl, H1.out, H0.out, hsz.out, HB.out⟩
      case round =>
        clear H1 H0 hsz HB
        obtain ⟨k, hk16, hk, rfl, h1, h0, hs, hb⟩ := hrel
        obtain ⟨wi, rfl⟩ : ∃ wi : World, wi = wr := ⟨_, rfl⟩
        have hsz := Lib.hid hs
        have H1 := Lib.hid h1
        have H0 := Lib.hid h0
        have HB := Lib.hid hb
        clear hs h1 h0 hb
        by_cases hlt : k < 64
        · obtain ⟨p, hp⟩ : ∃ p, p = (sched bs k).getD (k - 15) 0 := ⟨_, rfl⟩
          obtain ⟨q, hq⟩ : ∃ q, q = (sched bs k).getD (k - 2) 0 := ⟨_, rfl⟩
          obtain ⟨x, hx⟩ : ∃ x, x = (sched bs k).getD (k - 16) 0 := ⟨_, rfl⟩
          obtain ⟨y, hy⟩ : ∃ y, y = (sched bs k).getD (k - 7) 0 := ⟨_, rfl⟩
          have gp : wi.cell? ⟨w.heap.size + 1, k - 15, none⟩ = some (.int .u32 (p.toNat : Int)) := by
            rw [cell_of_row _ _ _ _ _ _ H1.out, schedArr_get _ _ _ (by omega), hp]
          have gq : wi.cell? ⟨w.heap.size + 1, k - 2, none⟩ = some (.int .u32 (q.toNat : Int)) := by
            rw [cell_of_row _ _ _ _ _ _ H1.out, schedArr_get _ _ _ (by omega), hq]
          have gx : wi.cell? ⟨w.heap.size + 1, k - 16, none⟩ = some (.int .u32 (x.toNat : Int)) := by
            rw [cell_of_row _ _ _ _ _ _ H1.out, schedArr_get _ _ _ (by omega), hx]
          have gy : wi.cell? ⟨w.heap.size + 1, k - 7, none⟩ = some (.int .u32 (y.toNat : Int)) := by
            rw [cell_of_row _ _ _ _ _ _ H1.out, schedArr_get _ _ _ (by omega), hy]
          have gz : wi.cell? ⟨w.heap.size + 1, k, none⟩ = some (u32v 0) := by
            rw [cell_of_row _ _ _ _ _ _ H1.out, schedArr_zero _ _ (by omega)]
          have gf : wi.frozen? ⟨w.heap.size + 1, k, none⟩ = false := frozen_of_row _ _ _ _ _ H1.out
          have HX := Lib.hid (And.intro hp (And.intro hq (And.intro hx hy)))
          clear hp hq hx hy
          go_wp2_with fail
          go_quiet ((go_at_call 132; exact Calls.quiet_of (rotr_int _ _ _ (by decide))))
          go_wp2_with fail
          go_quiet ((go_at_call 132; exact rotr_more _ _ (by decide)))
          go_wp2_with fail
          go_region
          all_goals go_wp2
          go_roundw
          case rel =>
            rw [u32_sig3, u32_sig10, u32_sum4]
            refine ⟨k + 1, by omega, by omega, by go_num, ?_, ?_, ?_, ?_⟩
            · refine (heap_setCell_same (wi.drewN _) _ _ _ _ _ H1.out).trans ?_
              obtain ⟨rfl, rfl, rfl, rfl⟩ := HX.out
              exact congrArg (fun c => some (Obj.cells c 138 (0, 0))) (schedArr_step bs k hlt _ (by simp only [sched, if_neg (show ¬ k < 16 by omega)]; rfl))
            · exact (heap_setCell_other _ _ _ _ (by simp)).trans H0.out
            · simp; exact hsz.out
            · exact (below_drewN HB.out _).setCell (by simp) _
          case measure => simp [intOf]; omega
        · obtain rfl : k = 64 := by omega
          go_wp2_with (first
            | ((with_reducible show wpList _ _ _ ((⟨_, Op.load 138 (.tmp 3), _, _, _, _⟩ : Oper) :: _) _ _); refine wpList_load_row rfl 138 (.tmp 3) rfl _ rfl _ _ _ _ H1.out Tryd.underlying138 rfl (by rw [schedArr_size bs 64 (by omega)]; exact info138) ?_)
            | ((with_reducible show wpList _ _ _ ((⟨_, Op.store 138 _ _, _, _, _, _⟩ : Oper) :: _) _ _); refine wpList_store_row rfl 138 _ _ rfl _ _ rfl rfl _ _ H0.out (by rw [schedArr_size bs 64 (by omega)]; exact info138) (by rw [schedArr_size bs 64 (by omega)]; rfl) (schedArr_one bs 64) ?_))
          have hrow : (wi.setRow w.heap.size (schedArr bs 64)).heap[w.heap.size]? = some (.cells (schedArr bs 64) 138 (0, 0)) := setRow_heap _ _ _ _ _ _ H0.out
          exact bodyPost_ret (v := .agg (schedArr bs 64)) (results_cell_row rfl _ _ w.heap.size _ _ _ _ rfl hrow Tryd.underlying138 rfl (by rw [schedArr_size bs 64 (by omega)]; exact info138)) rfl ⟨rfl, below_setRow HB.out (Nat.le_refl _) _⟩
end Go.Proofs.YtfkpeabkcdhcfaaDoor
