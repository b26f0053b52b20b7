/-
  Walk of hash.schedule: the 64 words of a block, for every 64 bytes that a slice shows; nothing that was there changes.
-/
import Derived.Test.YtfkpeabkcdhcfaaDoorH1
import Derived.BigQuiet
import Derived.Laws.CopyOwn
import Derived.Lib.Hide
import Derived.Deep.QuietTactic
namespace Go.Proofs.YtfkpeabkcdhcfaaDoor
open Go.RowKit
def u32v (x : UInt32) : Value := .int .u32 (x.toNat : Int)
def schedArr (bs : Nat → UInt8) (k : Nat) : Array Value := ((sched bs k).map u32v ++ List.replicate (64 - k) (u32v 0)).toArray
theorem schedArr_size (bs : Nat → UInt8) (k : Nat) (h : k ≤ 64) : (schedArr bs k).size = 64 := by simp [schedArr, sched_length]; omega
theorem schedArr_at (bs : Nat → UInt8) (k i : Nat) : (schedArr bs k)[i]? = if i < k then ((sched bs k)[i]?).map u32v else if i - k < 64 - k then some (u32v 0) else none := by
  simp only [schedArr, List.getElem?_toArray, List.getElem?_append, List.length_map, sched_length, List.getElem?_map, List.getElem?_replicate]
theorem schedArr_zero (bs : Nat → UInt8) (k : Nat) (h : k < 64) : (schedArr bs k)[k]? = some (u32v 0) := by
  rw [schedArr_at, if_neg (by omega), if_pos (by omega)]
theorem schedArr_set0 (bs : Nat → UInt8) (k : Nat) (h : k < 64) : (schedArr bs k).setIfInBounds k (u32v 0) = schedArr bs k := by
  apply Array.ext_getElem?
  intro i
  by_cases e : i = k
  · subst e; rw [schedArr_zero bs i h, Array.getElem?_setIfInBounds_self_of_lt (by rw [schedArr_size bs i (by omega)]; exact h)]
  · rw [Array.getElem?_setIfInBounds_ne (Ne.symm e)]
theorem schedArr_get (bs : Nat → UInt8) (k i : Nat) (h : i < k) : (schedArr bs k)[i]? = some (.int .u32 (((sched bs k).getD i 0).toNat : Int)) := by
  have hl : i < (sched bs k).length := by rw [sched_length]; exact h
  rw [schedArr_at, if_pos h, List.getD_eq_getElem?_getD, List.getElem?_eq_getElem hl]; rfl
theorem schedArr_step (bs : Nat → UInt8) (k : Nat) (h : k < 64) (x : UInt32) (hx : sched bs (k + 1) = sched bs k ++ [x]) : (schedArr bs k).setIfInBounds k (u32v x) = schedArr bs (k + 1) := by
  apply Array.ext_getElem?
  intro i
  by_cases e : i = k
  · subst e
    rw [Array.getElem?_setIfInBounds_self_of_lt (by rw [schedArr_size bs i (by omega)]; exact h), schedArr_at, if_pos (by omega), hx]
    simp [sched_length]
  · rw [Array.getElem?_setIfInBounds_ne (Ne.symm e), schedArr_at, schedArr_at]
    rcases Nat.lt_or_gt_of_ne e with h1 | h1
    · rw [if_pos h1, if_pos (by omega), hx, List.getElem?_append_left (by rw [sched_length]; exact h1)]
    · rw [if_neg (show ¬ i < k by omega), if_neg (show ¬ i < k + 1 by omega)]
      by_cases h2 : i < 64
      · rw [if_pos (show i - k < 64 - k by omega), if_pos (show i - (k + 1) < 64 - (k + 1) by omega)]
      · rw [if_neg (show ¬ i - k < 64 - k by omega), if_neg (show ¬ i - (k + 1) < 64 - (k + 1) by omega)]
theorem acc_step (x : UInt32) (c : UInt8) : bits BinOp.or IntKind.u32 (((x.toNat : Int) * 256) % 4294967296) (((c.toNat : Int)) % 4294967296) = (((x <<< 8) ||| c.toUInt32).toNat : Int) := by
  have h1 := u32_shl x 8 (by omega)
  rw [show ((2 : Int) ^ 8) = 256 from rfl] at h1
  have h2 : ((c.toNat : Int)) % 4294967296 = ((c.toUInt32.toNat : Nat) : Int) := by
    have := c.toNat_lt; simp; omega
  rw [h1, h2, u32_or]; rfl
theorem u32_sig3 (a b p : UInt32) : bits BinOp.xor IntKind.u32 (bits BinOp.xor IntKind.u32 (a.toNat : Int) (b.toNat : Int)) ((p.toNat : Int) / 8) = ((a ^^^ b ^^^ (p >>> 3)).toNat : Int) := by
  have h := u32_shr p 3 (by omega)
  rw [show ((2 : Int) ^ 3) = 8 from rfl] at h
  rw [h, u32_xor, u32_xor]; rfl
theorem u32_sig10 (a b p : UInt32) : bits BinOp.xor IntKind.u32 (bits BinOp.xor IntKind.u32 (a.toNat : Int) (b.toNat : Int)) ((p.toNat : Int) / 1024) = ((a ^^^ b ^^^ (p >>> 10)).toNat : Int) := by
  have h := u32_shr p 10 (by omega)
  rw [show ((2 : Int) ^ 10) = 1024 from rfl] at h
  rw [h, u32_xor, u32_xor]; rfl
theorem u32_sum4 (a b c d : UInt32) : ((a.toNat : Int) + (b.toNat : Int) + (c.toNat : Int) + (d.toNat : Int)) % 4294967296 = ((a + b + c + d).toNat : Int) := by
  simp only [UInt32.toNat_add]; omega
theorem schedArr_one (bs : Nat → UInt8) (k : Nat) : (schedArr bs k).all (fun x => x.oneCell') = true := by
  simp only [schedArr, List.all_toArray, List.all_eq_true, List.mem_append, List.mem_map, List.mem_replicate]
  rintro x (⟨y, _, rfl⟩ | ⟨_, rfl⟩) <;> rfl
theorem info138 : (Tryd.prog.info? 138).map (·.size) = some 64 := by kernel_rfl
def zero64 : Array Value := schedArr (fun _ => 0) 0
set_option maxRecDepth 100000
set_option maxHeartbeats 400000
theorem sched_any (bs : Nat → UInt8) (B off cap : Nat) (w : World) (hcap : 64 ≤ cap) (hB : B < w.heap.size) (hc : ∀ i, i < 64 → w.cell? ⟨B, off + i, none⟩ = some (.int .u8 ((bs i).toNat : Int))) : Calls Tryd.prog 120 #[.slice (some ⟨B, off, none⟩) 64 cap] w fun e w' => e = .returned (.agg (schedArr bs 64)) ∧ Below w.heap.size w w' := by
  have hc' := Lib.hid hc
  clear hc
  go_enter Tryd.func120, Tryd.ntmps120
  go_wp2
  go_loopw [11] (fun c wr => ∃ k : Nat, k ≤ 64 ∧ c = .int .i64 k ∧ wr.heap[w.heap.size + 1]? = some (.cells (schedArr bs k) 138 (0,0)) ∧ wr.heap[w.heap.size]? = some (.cells zero64 138 (0,0)) ∧ wr.heap.size = w.heap.size + 2 ∧ Below w.heap.size w wr) (fun c _ => 64 - (intOf c).toNat)
  case atStart => 
    exact ⟨0, by omega, rfl, heap_alloc2_new _ _ _, heap_alloc2_old _ _ _, by simp, ((Below.refl _ _).alloc (Nat.le_refl _) _).alloc (by simp) _⟩
  case round =>
    obtain ⟨k, hk, rfl, h1, h0, hs, hb⟩ := hrel
    obtain ⟨wo, rfl⟩ : ∃ wo : World, wo = wr := ⟨_, rfl⟩
    have hsz := Lib.hid hs
    have H1 := Lib.hid h1
    have H0 := Lib.hid h0
    clear hs h1 h0
    by_cases hlt : k < 64
    · by_cases h16 : k < 16
      · go_wp2
        go_loopw [24] (fun c wi => ∃ j : Nat, j ≤ 4 ∧ c = .int .i64 j ∧ wi.heap[w.heap.size + 1]? = some (.cells ((schedArr bs k).setIfInBounds k (u32v (wordAcc bs k j))) 138 (0,0)) ∧ wi.heap[w.heap.size]? = some (.cells zero64 138 (0,0)) ∧ wi.heap.size = w.heap.size + 2 ∧ Below w.heap.size w wi) (fun c _ => 4 - (intOf c).toNat)
        case atStart => 
          refine ⟨0, by omega, rfl, ?_, H0.out, hsz.out, hb⟩
          rw [show wordAcc bs k 0 = 0 from rfl, schedArr_set0 bs k hlt]; exact H1.out
        case round =>
          obtain ⟨j, hj, rfl, h1', h0', hs', hb'⟩ := hrel
          have H1' := Lib.hid h1'
          have H0' := Lib.hid h0'
          have hsz' := Lib.hid hs'
          clear h1' h0' hs'
          by_cases hj4 : j < 4
          · have hcell := (hb'.cell (p := ⟨B, off + (4 * k + j), none⟩) hB).trans (hc'.out (4 * k + j) (by omega))
            rw [show off + (4 * k + j) = off + 4 * k + j by omega] at hcell
            have hw1 : wr.cell? ⟨w.heap.size + 1, k, none⟩ = some (.int .u32 ((wordAcc bs k j).toNat : Int)) := by
              rw [cell_of_row _ _ _ _ _ _ H1'.out, Array.getElem?_setIfInBounds_self_of_lt (by rw [schedArr_size bs k hk]; exact hlt)]; rfl
            have hf1 : wr.frozen? ⟨w.heap.size + 1, k, none⟩ = false := frozen_of_row _ _ _ _ _ H1'.out
            go_wp2
            go_roundw
            case rel =>
              rw [acc_step]
              refine ⟨j + 1, by omega, by go_num, ?_, ?_, ?_, ?_⟩
              · rw [heap_setCell_same _ _ _ _ _ _ H1'.out, Array.setIfInBounds_setIfInBounds]; rfl
              · rw [heap_setCell_other _ _ _ _ (by simp)]; exact H0'.out
              · simp; exact hsz'.out
              · exact hb'.setCell (by simp) _
            case measure => simp [intOf]; omega
          · go_wp2
            go_roundw
            case rel =>
              obtain rfl : j = 4 := by omega
              refine ⟨k + 1, by omega, by go_num, ?_, H0'.out, hsz'.out, hb'⟩
              rw [H1'.out, schedArr_step bs k hlt _ (by simp only [sched, if_pos h16]; rfl)]
            case measure => simp [intOf]; omega
      · obtain ⟨p, hp⟩ : ∃ p, p = (sched bs k).getD (k - 15) 0 := ⟨_, rfl⟩
        obtain ⟨q, hq⟩ : ∃ q, q = (sched bs k).getD (k - 2) 0 := ⟨_, rfl⟩
        obtain ⟨x, hx⟩ : ∃ x, x = (sched bs k).getD (k - 16) 0 := ⟨_, rfl⟩
        obtain ⟨y, hy⟩ : ∃ y, y = (sched bs k).getD (k - 7) 0 := ⟨_, rfl⟩
        have gp : wo.cell? ⟨w.heap.size + 1, k - 15, none⟩ = some (.int .u32 (p.toNat : Int)) := by
          rw [cell_of_row _ _ _ _ _ _ H1.out, schedArr_get _ _ _ (by omega), hp]
        have gq : wo.cell? ⟨w.heap.size + 1, k - 2, none⟩ = some (.int .u32 (q.toNat : Int)) := by
          rw [cell_of_row _ _ _ _ _ _ H1.out, schedArr_get _ _ _ (by omega), hq]
        have gx : wo.cell? ⟨w.heap.size + 1, k - 16, none⟩ = some (.int .u32 (x.toNat : Int)) := by
          rw [cell_of_row _ _ _ _ _ _ H1.out, schedArr_get _ _ _ (by omega), hx]
        have gy : wo.cell? ⟨w.heap.size + 1, k - 7, none⟩ = some (.int .u32 (y.toNat : Int)) := by
          rw [cell_of_row _ _ _ _ _ _ H1.out, schedArr_get _ _ _ (by omega), hy]
        have gz : wo.cell? ⟨w.heap.size + 1, k, none⟩ = some (u32v 0) := by
          rw [cell_of_row _ _ _ _ _ _ H1.out, schedArr_zero _ _ (by omega)]
        have gf : wo.frozen? ⟨w.heap.size + 1, k, none⟩ = false := frozen_of_row _ _ _ _ _ H1.out
        have HX := Lib.hid (And.intro hp (And.intro hq (And.intro hx hy)))
        clear hp hq hx hy
        go_wp2
        go_quiet (fail)
        go_wp2_with fail
        refine (rot_any p 7 (by omega) (by omega) _).mono ?_; rintro e w' ⟨rfl, rfl⟩
        go_wp2_with fail
        refine (rot_any p 18 (by omega) (by omega) _).mono ?_; rintro e w' ⟨rfl, rfl⟩
        go_wp2_with fail
        refine (rot_any q 17 (by omega) (by omega) _).mono ?_; rintro e w' ⟨rfl, rfl⟩
        go_wp2_with fail
        refine (rot_any q 19 (by omega) (by omega) _).mono ?_; rintro e w' ⟨rfl, rfl⟩
        go_wp2
        go_region
        all_goals go_wp2
        go_roundw
        case rel =>
          rw [u32_sig3, u32_sig10, u32_sum4]
          refine ⟨k + 1, by omega, by go_num, ?_, ?_, ?_, ?_⟩
          · rw [heap_setCell_same (wo.drewN (nq + 1)) _ _ _ _ _ H1.out]
            obtain ⟨rfl, rfl, rfl, rfl⟩ := HX.out
            exact congrArg (fun c => some (Obj.cells c 138 (0, 0))) (schedArr_step bs k hlt _ (by simp only [sched, if_neg h16]; rfl))
          · rw [heap_setCell_other _ _ _ _ (by simp)]; exact H0.out
          · simp; exact hsz.out
          · exact (below_drewN hb _).setCell (by simp) _
        case measure => simp [intOf]; omega
    · obtain rfl : k = 64 := by omega
      go_wp2_with (first
        | ((with_reducible show wpList _ _ _ ((⟨_, Op.load 138 (.tmp 3), _, _, _, _⟩ : Oper) :: _) _ _); refine wpList_load_row rfl 138 (.tmp 3) rfl _ rfl _ _ _ _ H1.out Tryd.underlying138 rfl (by rw [schedArr_size bs 64 (by omega)]; exact info138) ?_)
        | ((with_reducible show wpList _ _ _ ((⟨_, Op.store 138 _ _, _, _, _, _⟩ : Oper) :: _) _ _); refine wpList_store_row rfl 138 _ _ rfl _ _ rfl rfl _ _ H0.out (by rw [schedArr_size bs 64 (by omega)]; exact info138) (by rw [schedArr_size bs 64 (by omega)]; rfl) (schedArr_one bs 64) ?_))
      have hrow : (wo.setRow w.heap.size (schedArr bs 64)).heap[w.heap.size]? = some (.cells (schedArr bs 64) 138 (0, 0)) := setRow_heap _ _ _ _ _ _ H0.out
      exact bodyPost_ret (v := .agg (schedArr bs 64)) (results_cell_row rfl _ _ w.heap.size _ _ _ _ rfl hrow Tryd.underlying138 rfl (by rw [schedArr_size bs 64 (by omega)]; exact info138)) rfl ⟨rfl, below_setRow hb (Nat.le_refl _) _⟩
end Go.Proofs.YtfkpeabkcdhcfaaDoor
