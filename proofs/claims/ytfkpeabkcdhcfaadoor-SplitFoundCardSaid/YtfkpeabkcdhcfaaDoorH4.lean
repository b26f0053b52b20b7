/-
  Plain lemmas: the model's 32-bit operations on numbers as UInt32, and the plain functions of SHA-256 as package hash computes them.
  Walks of package hash: RotateLeft32 and mix, each at the counts that the program uses: what they return; the world stands.
  Walk of hash.schedule: the 64 words of a block, for every 64 bytes that a slice shows; nothing that was there changes.
  Walk of hash.compress: the hash value behind a block, for every hash value and every 64 bytes that a slice shows; nothing that was there changes. It reads the round constants.
  Plain lemmas: a stream of package hash as a value (the hash value, the bytes of the last block, the length), fed byte by byte; what a chunk does that fits into the block.
  Walk of (hash.Stream).Add: the stream fed with the bytes of the text, for every stream and every text (their lengths together below 2^62); nothing that was there changes.
-/
import Derived.WalkKit
import Derived.Test.YtfkpeabkcdhcfaaDoorProg
import Derived.WalkLawsBesides
import Derived.WalkSpells
import Derived.BigQuiet
import Derived.Laws.CopyOwn
import Derived.Lib.Hide
import Derived.Deep.QuietTactic
import Derived.Deep.MidRow
import Derived.Deep.RegionHeld3
import Derived.Deep.DeepCutAuto
import Derived.Lib.BufferWrite
import Derived.Lib.SlBuf
namespace Go.Proofs.YtfkpeabkcdhcfaaDoor
open Go.RowKit

theorem bits32 (op : BinOp) (x y : UInt32) : bits op .u32 (x.toNat : Int) (y.toNat : Int) =
    (((match op with | .and => x.toBitVec &&& y.toBitVec | .or => x.toBitVec ||| y.toBitVec | .xor => x.toBitVec ^^^ y.toBitVec | _ => x.toBitVec &&& ~~~y.toBitVec).toNat : Nat) : Int) := by
  unfold bits
  have ex : BitVec.ofInt IntKind.u32.bits (x.toNat : Int) = x.toBitVec := by
    apply BitVec.eq_of_toNat_eq
    have h := x.toNat_lt
    simp only [BitVec.toNat_ofInt, IntKind.bits]
    show ((x.toNat : Int) % _).toNat = x.toNat
    omega
  have ey : BitVec.ofInt IntKind.u32.bits (y.toNat : Int) = y.toBitVec := by
    apply BitVec.eq_of_toNat_eq
    have h := y.toNat_lt
    simp only [BitVec.toNat_ofInt, IntKind.bits]
    show ((y.toNat : Int) % _).toNat = y.toNat
    omega
  rw [ex, ey, IntKind.wrap_u32]
  have key : ∀ z : BitVec 32, ((z.toNat : Nat) : Int) % 4294967296 = (z.toNat : Int) := by
    intro z; have := z.isLt; omega
  exact key _
theorem u32_and (x y : UInt32) : bits .and .u32 (x.toNat : Int) (y.toNat : Int) = ((x &&& y).toNat : Int) := bits32 .and x y
theorem u32_or (x y : UInt32) : bits .or .u32 (x.toNat : Int) (y.toNat : Int) = ((x ||| y).toNat : Int) := bits32 .or x y
theorem u32_xor (x y : UInt32) : bits .xor .u32 (x.toNat : Int) (y.toNat : Int) = ((x ^^^ y).toNat : Int) := bits32 .xor x y
theorem u32_add (x y : UInt32) : ((x.toNat : Int) + (y.toNat : Int)) % 4294967296 = ((x + y).toNat : Int) := by
  rw [UInt32.toNat_add]; omega
theorem u32_shl (x : UInt32) (n : Nat) (h : n < 32) : ((x.toNat : Int) * 2 ^ n) % 4294967296 = ((x <<< (UInt32.ofNat n)).toNat : Int) := by
  rw [UInt32.toNat_shiftLeft]
  have e : (UInt32.ofNat n).toNat % 32 = n := by simp [UInt32.toNat_ofNat']; omega
  rw [e, Nat.shiftLeft_eq]
  have : ((x.toNat * 2 ^ n : Nat) : Int) = (x.toNat : Int) * 2 ^ n := by simp
  rw [← this]
  omega
theorem u32_shr (x : UInt32) (n : Nat) (h : n < 32) : (x.toNat : Int) / 2 ^ n = ((x >>> (UInt32.ofNat n)).toNat : Int) := by
  rw [UInt32.toNat_shiftRight]
  have e : (UInt32.ofNat n).toNat % 32 = n := by simp [UInt32.toNat_ofNat']; omega
  rw [e, Nat.shiftRight_eq_div_pow]
  simp
theorem u32_of_u8 (c : UInt8) : ((c.toNat : Int)) = ((c.toUInt32.toNat : Nat) : Int) := by simp

/-- the rotation to the right -/
def rotr (n : Nat) (x : UInt32) : UInt32 := (x <<< UInt32.ofNat (32 - n)) ||| (x >>> UInt32.ofNat n)
def mix3 (i j k : Nat) (x : UInt32) : UInt32 := rotr i x ^^^ rotr j x ^^^ rotr k x

/-- the first j bytes of a word of a block, the first one being the highest -/
def wordAcc (bs : Nat → UInt8) (t : Nat) : Nat → UInt32
  | 0 => 0
  | j + 1 => (wordAcc bs t j <<< 8) ||| (bs (4 * t + j)).toUInt32
def word (bs : Nat → UInt8) (t : Nat) : UInt32 := wordAcc bs t 4
def sig0 (p : UInt32) : UInt32 := rotr 7 p ^^^ rotr 18 p ^^^ (p >>> 3)
def sig1 (q : UInt32) : UInt32 := rotr 17 q ^^^ rotr 19 q ^^^ (q >>> 10)
/-- the first t words of the schedule -/
def sched (bs : Nat → UInt8) : Nat → List UInt32
  | 0 => []
  | t + 1 =>
    let l := sched bs t
    l ++ [if t < 16 then word bs t else l.getD (t - 16) 0 + sig0 (l.getD (t - 15) 0) + l.getD (t - 7) 0 + sig1 (l.getD (t - 2) 0)]
theorem sched_length (bs : Nat → UInt8) (t : Nat) : (sched bs t).length = t := by
  induction t with
  | zero => rfl
  | succ t ih => simp [sched, ih]
end Go.Proofs.YtfkpeabkcdhcfaaDoor
namespace Go.Proofs.YtfkpeabkcdhcfaaDoor
open Go.RowKit

theorem rot_count : ∀ n : Fin 32, n.val ≠ 0 → bits BinOp.and .u64 (IntKind.u64.wrap (-(n.val : Int))) 31 = 32 - (n.val : Int) := by decide +kernel

/-- bits.RotateLeft32(x, -n) -/
theorem rot_any (x : UInt32) (n : Nat) (h0 : 0 < n) (h1 : n < 32) (w : World) : Calls Tryd.prog 127 #[.int .u32 x.toNat, .int .i64 (-(n : Int))] w fun e w' => e = .returned (.int .u32 (rotr n x).toNat) ∧ w = w' := by
  have e := rot_count ⟨n, h1⟩ (by simp; omega)
  simp only at e
  go_enter Tryd.func127, Tryd.ntmps127
  go_wp2
  go_ret
  refine ⟨?_, rfl⟩
  have e1 := u32_shl x (32 - n) (by omega)
  have e2 := u32_shr x n h1
  rw [show 32 - (32 - n) = n by omega]
  simp only [Array.getD_eq_getD_getElem?, List.getElem?_toArray, List.getElem?_cons_succ, List.getElem?_cons_zero, Option.getD_some, e1, e2, u32_or]
  rfl

/-- hash.mix -/
theorem mix_any (x : UInt32) (i j k : Nat) (hi0 : 0 < i) (hi : i < 32) (hj0 : 0 < j) (hj : j < 32) (hk0 : 0 < k) (hk : k < 32) (w : World) :
    Calls Tryd.prog 121 #[.int .u32 x.toNat, .int .i64 (i : Int), .int .i64 (j : Int), .int .i64 (k : Int)] w fun e w' => e = .returned (.int .u32 (mix3 i j k x).toNat) ∧ w = w' := by
  go_enter Tryd.func121, Tryd.ntmps121
  go_wp2_with fail
  refine (rot_any x i hi0 hi _).mono ?_; rintro e w' ⟨rfl, rfl⟩
  go_wp2_with fail
  refine (rot_any x j hj0 hj _).mono ?_; rintro e w' ⟨rfl, rfl⟩
  go_wp2_with fail
  refine (rot_any x k hk0 hk _).mono ?_; rintro e w' ⟨rfl, rfl⟩
  go_wp2
  go_ret
  refine ⟨?_, rfl⟩
  simp only [Array.getD_eq_getD_getElem?, List.getElem?_toArray, List.getElem?_cons_succ, List.getElem?_cons_zero, Option.getD_some, u32_xor]
  rfl
end Go.Proofs.YtfkpeabkcdhcfaaDoor
namespace Go.Proofs.YtfkpeabkcdhcfaaDoor
open Go.RowKit
def u32v (x : UInt32) : Value := .int .u32 (x.toNat : Int)
def schedArr (bs : Nat → UInt8) (k : Nat) : Array Value := ((sched bs k).map u32v ++ List.replicate (64 - k) (u32v 0)).toArray
theorem schedArr_size (bs : Nat → UInt8) (k : Nat) (h : k ≤ 64) : (schedArr bs k).size = 64 := by simp [schedArr, sched_length]; omega
theorem schedArr_at (bs : Nat → UInt8) (k i : Nat) : (schedArr bs k)[i]? = if i < k then ((sched bs k)[i]?).map u32v else if i - k < 64 - k then some (u32v 0) else none := by
  simp only [schedArr, List.getElem?_toArray, List.getElem?_append, List.length_map, sched_length, List.getElem?_map, List.getElem?_replicate]
theorem schedArr_zero (bs : Nat → UInt8) (k : Nat) (h : k < 64) : (schedArr bs k)[k]? = some (u32v 0) := by
  rw [schedArr_at, if_neg (by omega), if_pos (by omega)]
theorem schedArr_set0 (bs : Nat → UInt8) (k : Nat) (h : k < 64) : (schedArr bs k).setIfInBounds k (u32v 0) = schedArr bs k := by
  apply Array.ext_getElem?
  intro i
  by_cases e : i = k
  · subst e; rw [schedArr_zero bs i h, Array.getElem?_setIfInBounds_self_of_lt (by rw [schedArr_size bs i (by omega)]; exact h)]
  · rw [Array.getElem?_setIfInBounds_ne (Ne.symm e)]
theorem schedArr_get (bs : Nat → UInt8) (k i : Nat) (h : i < k) : (schedArr bs k)[i]? = some (.int .u32 (((sched bs k).getD i 0).toNat : Int)) := by
  have hl : i < (sched bs k).length := by rw [sched_length]; exact h
  rw [schedArr_at, if_pos h, List.getD_eq_getElem?_getD, List.getElem?_eq_getElem hl]; rfl
theorem schedArr_step (bs : Nat → UInt8) (k : Nat) (h : k < 64) (x : UInt32) (hx : sched bs (k + 1) = sched bs k ++ [x]) : (schedArr bs k).setIfInBounds k (u32v x) = schedArr bs (k + 1) := by
  apply Array.ext_getElem?
  intro i
  by_cases e : i = k
  · subst e
    rw [Array.getElem?_setIfInBounds_self_of_lt (by rw [schedArr_size bs i (by omega)]; exact h), schedArr_at, if_pos (by omega), hx]
    simp [sched_length]
  · rw [Array.getElem?_setIfInBounds_ne (Ne.symm e), schedArr_at, schedArr_at]
    rcases Nat.lt_or_gt_of_ne e with h1 | h1
    · rw [if_pos h1, if_pos (by omega), hx, List.getElem?_append_left (by rw [sched_length]; exact h1)]
    · rw [if_neg (show ¬ i < k by omega), if_neg (show ¬ i < k + 1 by omega)]
      by_cases h2 : i < 64
      · rw [if_pos (show i - k < 64 - k by omega), if_pos (show i - (k + 1) < 64 - (k + 1) by omega)]
      · rw [if_neg (show ¬ i - k < 64 - k by omega), if_neg (show ¬ i - (k + 1) < 64 - (k + 1) by omega)]
theorem acc_step (x : UInt32) (c : UInt8) : bits BinOp.or IntKind.u32 (((x.toNat : Int) * 256) % 4294967296) (((c.toNat : Int)) % 4294967296) = (((x <<< 8) ||| c.toUInt32).toNat : Int) := by
  have h1 := u32_shl x 8 (by omega)
  rw [show ((2 : Int) ^ 8) = 256 from rfl] at h1
  have h2 : ((c.toNat : Int)) % 4294967296 = ((c.toUInt32.toNat : Nat) : Int) := by
    have := c.toNat_lt; simp; omega
  rw [h1, h2, u32_or]; rfl
theorem u32_sig3 (a b p : UInt32) : bits BinOp.xor IntKind.u32 (bits BinOp.xor IntKind.u32 (a.toNat : Int) (b.toNat : Int)) ((p.toNat : Int) / 8) = ((a ^^^ b ^^^ (p >>> 3)).toNat : Int) := by
  have h := u32_shr p 3 (by omega)
  rw [show ((2 : Int) ^ 3) = 8 from rfl] at h
  rw [h, u32_xor, u32_xor]; rfl
theorem u32_sig10 (a b p : UInt32) : bits BinOp.xor IntKind.u32 (bits BinOp.xor IntKind.u32 (a.toNat : Int) (b.toNat : Int)) ((p.toNat : Int) / 1024) = ((a ^^^ b ^^^ (p >>> 10)).toNat : Int) := by
  have h := u32_shr p 10 (by omega)
  rw [show ((2 : Int) ^ 10) = 1024 from rfl] at h
  rw [h, u32_xor, u32_xor]; rfl
theorem u32_sum4 (a b c d : UInt32) : ((a.toNat : Int) + (b.toNat : Int) + (c.toNat : Int) + (d.toNat : Int)) % 4294967296 = ((a + b + c + d).toNat : Int) := by
  simp only [UInt32.toNat_add]; omega
theorem schedArr_one (bs : Nat → UInt8) (k : Nat) : (schedArr bs k).all (fun x => x.oneCell') = true := by
  simp only [schedArr, List.all_toArray, List.all_eq_true, List.mem_append, List.mem_map, List.mem_replicate]
  rintro x (⟨y, _, rfl⟩ | ⟨_, rfl⟩) <;> rfl
theorem info138 : (Tryd.prog.info? 138).map (·.size) = some 64 := by kernel_rfl
def zero64 : Array Value := schedArr (fun _ => 0) 0
set_option maxRecDepth 100000
set_option maxHeartbeats 400000
theorem sched_any (bs : Nat → UInt8) (B off cap : Nat) (w : World) (hcap : 64 ≤ cap) (hB : B < w.heap.size) (hc : ∀ i, i < 64 → w.cell? ⟨B, off + i, none⟩ = some (.int .u8 ((bs i).toNat : Int))) : Calls Tryd.prog 120 #[.slice (some ⟨B, off, none⟩) 64 cap] w fun e w' => e = .returned (.agg (schedArr bs 64)) ∧ Below w.heap.size w w' := by
  have hc' := Lib.hid hc
  clear hc
  go_enter Tryd.func120, Tryd.ntmps120
  go_wp2
  go_loopw [11] (fun c wr => ∃ k : Nat, k ≤ 64 ∧ c = .int .i64 k ∧ wr.heap[w.heap.size + 1]? = some (.cells (schedArr bs k) 138 (0,0)) ∧ wr.heap[w.heap.size]? = some (.cells zero64 138 (0,0)) ∧ wr.heap.size = w.heap.size + 2 ∧ Below w.heap.size w wr) (fun c _ => 64 - (intOf c).toNat)
  case atStart => 
    exact ⟨0, by omega, rfl, heap_alloc2_new _ _ _, heap_alloc2_old _ _ _, by simp, ((Below.refl _ _).alloc (Nat.le_refl _) _).alloc (by simp) _⟩
  case round =>
    obtain ⟨k, hk, rfl, h1, h0, hs, hb⟩ := hrel
    obtain ⟨wo, rfl⟩ : ∃ wo : World, wo = wr := ⟨_, rfl⟩
    have hsz := Lib.hid hs
    have H1 := Lib.hid h1
    have H0 := Lib.hid h0
    clear hs h1 h0
    by_cases hlt : k < 64
    · by_cases h16 : k < 16
      · go_wp2
        go_loopw [24] (fun c wi => ∃ j : Nat, j ≤ 4 ∧ c = .int .i64 j ∧ wi.heap[w.heap.size + 1]? = some (.cells ((schedArr bs k).setIfInBounds k (u32v (wordAcc bs k j))) 138 (0,0)) ∧ wi.heap[w.heap.size]? = some (.cells zero64 138 (0,0)) ∧ wi.heap.size = w.heap.size + 2 ∧ Below w.heap.size w wi) (fun c _ => 4 - (intOf c).toNat)
        case atStart => 
          refine ⟨0, by omega, rfl, ?_, H0.out, hsz.out, hb⟩
          rw [show wordAcc bs k 0 = 0 from rfl, schedArr_set0 bs k hlt]; exact H1.out
        case round =>
          obtain ⟨j, hj, rfl, h1', h0', hs', hb'⟩ := hrel
          have H1' := Lib.hid h1'
          have H0' := Lib.hid h0'
          have hsz' := Lib.hid hs'
          clear h1' h0' hs'
          by_cases hj4 : j < 4
          · have hcell := (hb'.cell (p := ⟨B, off + (4 * k + j), none⟩) hB).trans (hc'.out (4 * k + j) (by omega))
            rw [show off + (4 * k + j) = off + 4 * k + j by omega] at hcell
            have hw1 : wr.cell? ⟨w.heap.size + 1, k, none⟩ = some (.int .u32 ((wordAcc bs k j).toNat : Int)) := by
              rw [cell_of_row _ _ _ _ _ _ H1'.out, Array.getElem?_setIfInBounds_self_of_lt (by rw [schedArr_size bs k hk]; exact hlt)]; rfl
            have hf1 : wr.frozen? ⟨w.heap.size + 1, k, none⟩ = false := frozen_of_row _ _ _ _ _ H1'.out
            go_wp2
            go_roundw
            case rel =>
              rw [acc_step]
              refine ⟨j + 1, by omega, by go_num, ?_, ?_, ?_, ?_⟩
              · rw [heap_setCell_same _ _ _ _ _ _ H1'.out, Array.setIfInBounds_setIfInBounds]; rfl
              · rw [heap_setCell_other _ _ _ _ (by simp)]; exact H0'.out
              · simp; exact hsz'.out
              · exact hb'.setCell (by simp) _
            case measure => simp [intOf]; omega
          · go_wp2
            go_roundw
            case rel =>
              obtain rfl : j = 4 := by omega
              refine ⟨k + 1, by omega, by go_num, ?_, H0'.out, hsz'.out, hb'⟩
              rw [H1'.out, schedArr_step bs k hlt _ (by simp only [sched, if_pos h16]; rfl)]
            case measure => simp [intOf]; omega
      · obtain ⟨p, hp⟩ : ∃ p, p = (sched bs k).getD (k - 15) 0 := ⟨_, rfl⟩
        obtain ⟨q, hq⟩ : ∃ q, q = (sched bs k).getD (k - 2) 0 := ⟨_, rfl⟩
        obtain ⟨x, hx⟩ : ∃ x, x = (sched bs k).getD (k - 16) 0 := ⟨_, rfl⟩
        obtain ⟨y, hy⟩ : ∃ y, y = (sched bs k).getD (k - 7) 0 := ⟨_, rfl⟩
        have gp : wo.cell? ⟨w.heap.size + 1, k - 15, none⟩ = some (.int .u32 (p.toNat : Int)) := by
          rw [cell_of_row _ _ _ _ _ _ H1.out, schedArr_get _ _ _ (by omega), hp]
        have gq : wo.cell? ⟨w.heap.size + 1, k - 2, none⟩ = some (.int .u32 (q.toNat : Int)) := by
          rw [cell_of_row _ _ _ _ _ _ H1.out, schedArr_get _ _ _ (by omega), hq]
        have gx : wo.cell? ⟨w.heap.size + 1, k - 16, none⟩ = some (.int .u32 (x.toNat : Int)) := by
          rw [cell_of_row _ _ _ _ _ _ H1.out, schedArr_get _ _ _ (by omega), hx]
        have gy : wo.cell? ⟨w.heap.size + 1, k - 7, none⟩ = some (.int .u32 (y.toNat : Int)) := by
          rw [cell_of_row _ _ _ _ _ _ H1.out, schedArr_get _ _ _ (by omega), hy]
        have gz : wo.cell? ⟨w.heap.size + 1, k, none⟩ = some (u32v 0) := by
          rw [cell_of_row _ _ _ _ _ _ H1.out, schedArr_zero _ _ (by omega)]
        have gf : wo.frozen? ⟨w.heap.size + 1, k, none⟩ = false := frozen_of_row _ _ _ _ _ H1.out
        have HX := Lib.hid (And.intro hp (And.intro hq (And.intro hx hy)))
        clear hp hq hx hy
        go_wp2
        go_quiet (fail)
        go_wp2_with fail
        refine (rot_any p 7 (by omega) (by omega) _).mono ?_; rintro e w' ⟨rfl, rfl⟩
        go_wp2_with fail
        refine (rot_any p 18 (by omega) (by omega) _).mono ?_; rintro e w' ⟨rfl, rfl⟩
        go_wp2_with fail
        refine (rot_any q 17 (by omega) (by omega) _).mono ?_; rintro e w' ⟨rfl, rfl⟩
        go_wp2_with fail
        refine (rot_any q 19 (by omega) (by omega) _).mono ?_; rintro e w' ⟨rfl, rfl⟩
        go_wp2
        go_region
        all_goals go_wp2
        go_roundw
        case rel =>
          rw [u32_sig3, u32_sig10, u32_sum4]
          refine ⟨k + 1, by omega, by go_num, ?_, ?_, ?_, ?_⟩
          · rw [heap_setCell_same (wo.drewN (nq + 1)) _ _ _ _ _ H1.out]
            obtain ⟨rfl, rfl, rfl, rfl⟩ := HX.out
            exact congrArg (fun c => some (Obj.cells c 138 (0, 0))) (schedArr_step bs k hlt _ (by simp only [sched, if_neg h16]; rfl))
          · rw [heap_setCell_other _ _ _ _ (by simp)]; exact H0.out
          · simp; exact hsz.out
          · exact (below_drewN hb _).setCell (by simp) _
        case measure => simp [intOf]; omega
    · obtain rfl : k = 64 := by omega
      go_wp2_with (first
        | ((with_reducible show wpList _ _ _ ((⟨_, Op.load 138 (.tmp 3), _, _, _, _⟩ : Oper) :: _) _ _); refine wpList_load_row rfl 138 (.tmp 3) rfl _ rfl _ _ _ _ H1.out Tryd.underlying138 rfl (by rw [schedArr_size bs 64 (by omega)]; exact info138) ?_)
        | ((with_reducible show wpList _ _ _ ((⟨_, Op.store 138 _ _, _, _, _, _⟩ : Oper) :: _) _ _); refine wpList_store_row rfl 138 _ _ rfl _ _ rfl rfl _ _ H0.out (by rw [schedArr_size bs 64 (by omega)]; exact info138) (by rw [schedArr_size bs 64 (by omega)]; rfl) (schedArr_one bs 64) ?_))
      have hrow : (wo.setRow w.heap.size (schedArr bs 64)).heap[w.heap.size]? = some (.cells (schedArr bs 64) 138 (0, 0)) := setRow_heap _ _ _ _ _ _ H0.out
      exact bodyPost_ret (v := .agg (schedArr bs 64)) (results_cell_row rfl _ _ w.heap.size _ _ _ _ rfl hrow Tryd.underlying138 rfl (by rw [schedArr_size bs 64 (by omega)]; exact info138)) rfl ⟨rfl, below_setRow hb (Nat.le_refl _) _⟩
end Go.Proofs.YtfkpeabkcdhcfaaDoor
namespace Go.Proofs.YtfkpeabkcdhcfaaDoor
open Go.RowKit
set_option maxRecDepth 100000
def st8 (s0 s1 s2 s3 s4 s5 s6 s7 : UInt32) : Array Value := #[u32v s0, u32v s1, u32v s2, u32v s3, u32v s4, u32v s5, u32v s6, u32v s7]
def st4 (s0 s1 s2 s3 : UInt32) : Array Value := #[u32v s0, u32v s1, u32v s2, u32v s3]
/-- the eight words between two rounds -/
structure S8 where
  a : UInt32
  b : UInt32
  c : UInt32
  d : UInt32
  e : UInt32
  f : UInt32
  g : UInt32
  h : UInt32
def rndX (k wt : UInt32) (s : S8) : UInt32 := s.h + mix3 6 11 25 s.e + ((s.e &&& s.f) ^^^ (~~~s.e &&& s.g)) + k + wt
def rndY (s : S8) : UInt32 := mix3 2 13 22 s.a + ((s.a &&& s.b) ^^^ (s.a &&& s.c) ^^^ (s.b &&& s.c))
def rnd (k wt : UInt32) (s : S8) : S8 := ⟨rndX k wt s + rndY s, s.a, s.b, s.c, s.d + rndX k wt s, s.e, s.f, s.g⟩
/-- the round constants -/
def ks : List UInt32 := [0x428a2f98, 0x71374491, 0xb5c0fbcf, 0xe9b5dba5, 0x3956c25b, 0x59f111f1, 0x923f82a4, 0xab1c5ed5,
    0xd807aa98, 0x12835b01, 0x243185be, 0x550c7dc3, 0x72be5d74, 0x80deb1fe, 0x9bdc06a7, 0xc19bf174,
    0xe49b69c1, 0xefbe4786, 0x0fc19dc6, 0x240ca1cc, 0x2de92c6f, 0x4a7484aa, 0x5cb0a9dc, 0x76f988da,
    0x983e5152, 0xa831c66d, 0xb00327c8, 0xbf597fc7, 0xc6e00bf3, 0xd5a79147, 0x06ca6351, 0x14292967,
    0x27b70a85, 0x2e1b2138, 0x4d2c6dfc, 0x53380d13, 0x650a7354, 0x766a0abb, 0x81c2c92e, 0x92722c85,
    0xa2bfe8a1, 0xa81a664b, 0xc24b8b70, 0xc76c51a3, 0xd192e819, 0xd6990624, 0xf40e3585, 0x106aa070,
    0x19a4c116, 0x1e376c08, 0x2748774c, 0x34b0bcb5, 0x391c0cb3, 0x4ed8aa4a, 0x5b9cca4f, 0x682e6ff3,
    0x748f82ee, 0x78a5636f, 0x84c87814, 0x8cc70208, 0x90befffa, 0xa4506ceb, 0xbef9a3f7, 0xc67178f2]
def rounds (ws : List UInt32) (s : S8) : Nat → S8
  | 0 => s
  | t + 1 => rnd (ks.getD t 0) (ws.getD t 0) (rounds ws s t)
def S8.v (s : S8) : Array Value := st4 s.a s.b s.c s.d
def S8.w (s : S8) : Array Value := st4 s.e s.f s.g s.h
def S8.all (s : S8) : Array Value := st8 s.a s.b s.c s.d s.e s.f s.g s.h
def HoldK (w : World) : Prop := w.rangeAt 0 0 (ks.map u32v)
structure HoldC (w : World) (bs : Nat → UInt8) (sv : Array Value) (Bw Bv Be : Nat) (v e : Array Value) (wx : World) : Prop where
  box : wx.heap[w.heap.size]? = some (.cells sv 118 (0, 0))
  res : wx.heap[w.heap.size + 1]? = some (.cells (st8 0 0 0 0 0 0 0 0) 118 (0, 0))
  ww : wx.heap[Bw]? = some (.cells (schedArr bs 64) 138 (0, 0))
  vv : wx.heap[Bv]? = some (.cells v 140 (0, 0))
  ee : wx.heap[Be]? = some (.cells e 140 (0, 0))
  hw : w.heap.size + 1 < Bw
  hv : w.heap.size + 1 < Bv
  he : w.heap.size + 1 < Be
  hwv : Bw ≠ Bv
  hwe : Bw ≠ Be
  hve : Bv ≠ Be
  below : Below w.heap.size w wx
theorem HoldC.e_set {w : World} {bs : Nat → UInt8} {sv : Array Value} {Bw Bv Be : Nat} {v e : Array Value} {wx : World} (h : HoldC w bs sv Bw Bv Be v e wx) (n : Nat) (e' : Array Value) :
    HoldC w bs sv Bw Bv Be v e' ((wx.drewN n).setRow Be e') := by
  obtain ⟨h1, h2, h3, h4, h5, h6, h7, h8, h9, h10, h11, h12⟩ := h
  exact ⟨(setRow_other _ _ _ _ (by omega)).trans h1, (setRow_other _ _ _ _ (by omega)).trans h2, (setRow_other _ _ _ _ (by omega)).trans h3, (setRow_other _ _ _ _ (by omega)).trans h4, setRow_heap _ _ _ _ _ _ h5, h6, h7, h8, h9, h10, h11, below_setRow (below_drewN h12 n) (by omega) _⟩
theorem HoldC.v_set {w : World} {bs : Nat → UInt8} {sv : Array Value} {Bw Bv Be : Nat} {v e : Array Value} {wx : World} (h : HoldC w bs sv Bw Bv Be v e wx) (v' : Array Value) :
    HoldC w bs sv Bw Bv Be v' e (wx.setRow Bv v') := by
  obtain ⟨h1, h2, h3, h4, h5, h6, h7, h8, h9, h10, h11, h12⟩ := h
  exact ⟨(setRow_other _ _ _ _ (by omega)).trans h1, (setRow_other _ _ _ _ (by omega)).trans h2, (setRow_other _ _ _ _ (by omega)).trans h3, setRow_heap _ _ _ _ _ _ h4, (setRow_other _ _ _ _ (by omega)).trans h5, h6, h7, h8, h9, h10, h11, below_setRow h12 (by omega) _⟩
theorem HoldC.at_v {w : World} {bs : Nat → UInt8} {sv : Array Value} {Bw Bv Be : Nat} {v e : Array Value} {wx : World} (h : HoldC w bs sv Bw Bv Be v e wx) (i : Nat) : wx.cell? ⟨Bv, i, none⟩ = v[i]? := cell_of_row _ _ _ _ _ _ h.vv
theorem info140 : (Tryd.prog.info? 140).map (·.size) = some 4 := by kernel_rfl
theorem store_e {ops : Array Oper} {rest : List Oper} {o : Oper} {a : Act} {Q : Exit → Act → World → Prop} {w : World} {bs : Nat → UInt8} {sv : Array Value} {Bw Bv Be : Nat} {v e : Array Value} {wx : World} (hgd : o.guard = none) (x y : Operand) (ho : o.op = .store 140 x y)
    (hx : a.eval x = .pointer (some ⟨Be, 0, none⟩)) (cells : Array Value) (hy : a.eval y = .agg cells) (h4 : cells.size = 4) (h1 : cells.all (fun x => x.oneCell') = true) (n : Nat) (HO : HoldC w bs sv Bw Bv Be v e wx)
    (h : ∀ W3, HoldC w bs sv Bw Bv Be v cells W3 → wpList Tryd.prog ops Q rest (a.put o.dst undef) W3) (he : e.size = 4 := by rfl) : wpList Tryd.prog ops Q (o :: rest) a (wx.drewN n) :=
  wpList_store_row hgd 140 x y ho _ _ hx hy _ _ (w := wx.drewN n) HO.ee (by rw [h4]; exact info140) (by rw [he, h4]) h1 (h _ (HO.e_set n cells))
theorem store_v {ops : Array Oper} {rest : List Oper} {o : Oper} {a : Act} {Q : Exit → Act → World → Prop} {w : World} {bs : Nat → UInt8} {sv : Array Value} {Bw Bv Be : Nat} {v e : Array Value} {wx : World} (hgd : o.guard = none) (x y : Operand) (ho : o.op = .store 140 x y)
    (hx : a.eval x = .pointer (some ⟨Bv, 0, none⟩)) (cells : Array Value) (hy : a.eval y = .agg cells) (h4 : cells.size = 4) (h1 : cells.all (fun x => x.oneCell') = true) (HO : HoldC w bs sv Bw Bv Be v e wx)
    (h : ∀ W3, HoldC w bs sv Bw Bv Be cells e W3 → wpList Tryd.prog ops Q rest (a.put o.dst undef) W3) (he : v.size = 4 := by rfl) : wpList Tryd.prog ops Q (o :: rest) a wx :=
  wpList_store_row hgd 140 x y ho _ _ hx hy _ _ HO.vv (by rw [h4]; exact info140) (by rw [he, h4]) h1 (h _ (HO.v_set cells))
theorem u32_max : IntKind.u32.max = ((4294967295 : UInt32).toNat : Int) := rfl
theorem u32_sum5 (a b c d e : UInt32) : ((a.toNat : Int) + (b.toNat : Int) + (c.toNat : Int) + (d.toNat : Int) + (e.toNat : Int)) % 4294967296 = ((a + b + c + d + e).toNat : Int) := by
  simp only [UInt32.toNat_add]; omega
theorem not_xor (e : UInt32) : (4294967295 : UInt32) ^^^ e = ~~~e := by
  apply UInt32.eq_of_toBitVec_eq
  have h := BitVec.allOnes_xor (x := e.toBitVec)
  rw [UInt32.toBitVec_xor, UInt32.toBitVec_not, ← h]
  rfl
theorem u32_not (e : UInt32) : bits BinOp.xor IntKind.u32 IntKind.u32.max (e.toNat : Int) = ((~~~e).toNat : Int) := by
  rw [u32_max, u32_xor, not_xor]
theorem rndX_eq (kt wt a b c d e f g h : UInt32) : (((h.toNat : Int) + ((mix3 6 11 25 e).toNat : Int) + bits .xor .u32 (bits .and .u32 (e.toNat : Int) (f.toNat : Int)) (bits .and .u32 (bits .xor .u32 (if IntKind.u32.signed = true then -1 else IntKind.u32.max) (e.toNat : Int)) (g.toNat : Int)) + (kt.toNat : Int)) % 4294967296 + (wt.toNat : Int)) % 4294967296 =
    ((rndX kt wt ⟨a, b, c, d, e, f, g, h⟩).toNat : Int) := by
  rw [if_neg (by decide), u32_not, u32_and, u32_and, u32_xor, u32_sum4, u32_add]; rfl
theorem rndY_eq (a b c d e f g h : UInt32) : (((mix3 2 13 22 a).toNat : Int) + bits .xor .u32 (bits .xor .u32 (bits .and .u32 (a.toNat : Int) (b.toNat : Int)) (bits .and .u32 (a.toNat : Int) (c.toNat : Int))) (bits .and .u32 (b.toNat : Int) (c.toNat : Int))) % 4294967296 =
    ((rndY ⟨a, b, c, d, e, f, g, h⟩).toNat : Int) := by
  rw [u32_and, u32_and, u32_and, u32_xor, u32_xor, u32_add]; rfl
theorem info118 : (Tryd.prog.info? 118).map (·.size) = some 8 := by kernel_rfl
/-- the hash value behind a block -/
def compress (bs : Nat → UInt8) (s : S8) : S8 :=
  let r := rounds (sched bs 64) s 64
  ⟨s.a + r.a, s.b + r.b, s.c + r.c, s.d + r.d, s.e + r.e, s.f + r.f, s.g + r.g, s.h + r.h⟩
def fin8 (s S : S8) (i : Nat) : Array Value := st8 (if 0 < i then s.a + S.a else s.a) (if 1 < i then s.b + S.b else s.b) (if 2 < i then s.c + S.c else s.c) (if 3 < i then s.d + S.d else s.d)
  (if 0 < i then s.e + S.e else s.e) (if 1 < i then s.f + S.f else s.f) (if 2 < i then s.g + S.g else s.g) (if 3 < i then s.h + S.h else s.h)
theorem HoldC.at_e {w : World} {bs : Nat → UInt8} {sv : Array Value} {Bw Bv Be : Nat} {v e : Array Value} {wx : World} (h : HoldC w bs sv Bw Bv Be v e wx) (i : Nat) : wx.cell? ⟨Be, i, none⟩ = e[i]? := cell_of_row _ _ _ _ _ _ h.ee
theorem HoldC.at_b {w : World} {bs : Nat → UInt8} {sv : Array Value} {Bw Bv Be : Nat} {v e : Array Value} {wx : World} (h : HoldC w bs sv Bw Bv Be v e wx) (i : Nat) : wx.cell? ⟨w.heap.size, i, none⟩ = sv[i]? := cell_of_row _ _ _ _ _ _ h.box
theorem HoldC.b_set {w : World} {bs : Nat → UInt8} {sv : Array Value} {Bw Bv Be : Nat} {v e : Array Value} {wx : World} (h : HoldC w bs sv Bw Bv Be v e wx) (i : Nat) (x : Value) :
    HoldC w bs (sv.setIfInBounds i x) Bw Bv Be v e (wx.setCell ⟨w.heap.size, i, none⟩ x) := by
  obtain ⟨h1, h2, h3, h4, h5, h6, h7, h8, h9, h10, h11, h12⟩ := h
  exact ⟨heap_setCell_same _ _ _ _ _ _ h1, (heap_setCell_other _ _ _ _ (by show _ ≠ w.heap.size; omega)).trans h2, (heap_setCell_other _ _ _ _ (by show _ ≠ w.heap.size; omega)).trans h3, (heap_setCell_other _ _ _ _ (by show _ ≠ w.heap.size; omega)).trans h4, (heap_setCell_other _ _ _ _ (by show _ ≠ w.heap.size; omega)).trans h5, h6, h7, h8, h9, h10, h11, h12.setCell (Nat.le_refl _) _⟩
theorem HoldC.drewN {w : World} {bs : Nat → UInt8} {sv : Array Value} {Bw Bv Be : Nat} {v e : Array Value} {wx : World} (h : HoldC w bs sv Bw Bv Be v e wx) (n : Nat) : HoldC w bs sv Bw Bv Be v e (wx.drewN n) := by
  obtain ⟨h1, h2, h3, h4, h5, h6, h7, h8, h9, h10, h11, h12⟩ := h
  exact ⟨h1, h2, h3, h4, h5, h6, h7, h8, h9, h10, h11, below_drewN h12 n⟩
theorem HoldC.b_step {w : World} {bs : Nat → UInt8} {sv : Array Value} {Bw Bv Be : Nat} {v e : Array Value} {wx : World} (h : HoldC w bs sv Bw Bv Be v e wx) (i j : Nat) (x y : Value) :
    HoldC w bs ((sv.setIfInBounds i x).setIfInBounds j y) Bw Bv Be v e (((wx.setCell ⟨w.heap.size, i, none⟩ x).setCell ⟨w.heap.size, j, none⟩ y).drew.drew) := ((h.b_set i x).b_set j y).drewN 2
theorem fin8_0 (s S : S8) : ((fin8 s S 0).setIfInBounds 0 (u32v (s.a + S.a))).setIfInBounds 4 (u32v (s.e + S.e)) = fin8 s S 1 := rfl
theorem fin8_1 (s S : S8) : ((fin8 s S 1).setIfInBounds 1 (u32v (s.b + S.b))).setIfInBounds 5 (u32v (s.f + S.f)) = fin8 s S 2 := rfl
theorem fin8_2 (s S : S8) : ((fin8 s S 2).setIfInBounds 2 (u32v (s.c + S.c))).setIfInBounds 6 (u32v (s.g + S.g)) = fin8 s S 3 := rfl
theorem fin8_3 (s S : S8) : ((fin8 s S 3).setIfInBounds 3 (u32v (s.d + S.d))).setIfInBounds 7 (u32v (s.h + S.h)) = fin8 s S 4 := rfl
theorem holdC_mk {w W2 : World} {bs : Nat → UInt8} {sv : Array Value} {Bw : Nat} (hz : w.heap.size + 2 ≤ Bw) (HWW : W2.heap[Bw]? = some (.cells (schedArr bs 64) 138 (0, 0)))
    (HRS : W2.heap[w.heap.size + 1]? = some (.cells (st8 0 0 0 0 0 0 0 0) 118 (0, 0))) (HBX : W2.heap[w.heap.size]? = some (.cells sv 118 (0, 0)))
    (HB2 : Below w.heap.size w W2) (HZ2 : W2.heap.size = Bw + 1) (x y : Array Value) :
    HoldC w bs sv Bw W2.heap.size (W2.heap.size + 1) x y ((W2.alloc (.cells x 140 (0, 0))).alloc (.cells y 140 (0, 0))).drew ∧
    HoldC w bs sv Bw (W2.heap.size + 1) W2.heap.size y x ((W2.alloc (.cells x 140 (0, 0))).alloc (.cells y 140 (0, 0))).drew := by
  have old : ∀ i, i < W2.heap.size → ((W2.alloc (.cells x 140 (0, 0))).alloc (.cells y 140 (0, 0))).drew.heap[i]? = W2.heap[i]? := fun i hi => by
    rw [heap_drew, Below.heap_alloc _ _ _ (by simp; omega), Below.heap_alloc _ _ _ hi]
  have n0 : ((W2.alloc (.cells x 140 (0, 0))).alloc (.cells y 140 (0, 0))).drew.heap[W2.heap.size]? = some (.cells x 140 (0, 0)) := heap_alloc2_old _ _ _
  have n1 : ((W2.alloc (.cells x 140 (0, 0))).alloc (.cells y 140 (0, 0))).drew.heap[W2.heap.size + 1]? = some (.cells y 140 (0, 0)) := heap_alloc2_new _ _ _
  have hb : Below w.heap.size w ((W2.alloc (.cells x 140 (0, 0))).alloc (.cells y 140 (0, 0))).drew := ((HB2.alloc (by omega) _).alloc (by simp; omega) _).drew
  exact ⟨⟨(old _ (by omega)).trans HBX, (old _ (by omega)).trans HRS, (old _ (by omega)).trans HWW, n0, n1, by omega, by omega, by omega, by omega, by omega, by omega, hb⟩,
    ⟨(old _ (by omega)).trans HBX, (old _ (by omega)).trans HRS, (old _ (by omega)).trans HWW, n1, n0, by omega, by omega, by omega, by omega, by omega, by omega, hb⟩⟩
/-- a call that leaves the world alone, in a region behind other draws -/
theorem calm_behind {P : Program} {f : FuncId} {args : Array Value} {w : World} {a n : Nat} {v : Value} (h : ∀ W : World, Calls P f args W fun e w' => e = .returned v ∧ w' = W) :
    Calls P f args (w.drewN (a + n)) fun e w'' => e = .returned v ∧ ∃ m, w'' = w.drewN (a + m) := (h _).mono fun _ _ hh => ⟨hh.1, n, hh.2⟩
theorem index_u32 (cs : Array Value) (t : Nat) (h : t < 64) (v : Value) (hv : cs[t]? = some v) (wx : World) : (Instr.index 138 (.agg cs) (.int .i64 t)).run Tryd.prog wx = .ok v wx := by
  have h0 : (0 : Int) ≤ (t : Int) := by omega
  simp [Instr.index, run_underlying Tryd.underlying138, asIntOf, h0, go_sem, part, hv]
  intro hh
  omega
theorem ks_at (t : Nat) (h : t < 64) : ((ks.map u32v).toArray)[t]? = some (.int .u32 ((ks.getD t 0).toNat : Int)) := by
  have hl : t < ks.length := h
  simp only [List.getElem?_toArray, List.getElem?_map, List.getD_eq_getElem?_getD, List.getElem?_eq_getElem hl]
  rfl
theorem mix_e (x : UInt32) (w : World) : Calls Tryd.prog 121 #[.int .u32 x.toNat, .int .i64 6, .int .i64 11, .int .i64 25] w fun e w' => e = .returned (.int .u32 (mix3 6 11 25 x).toNat) ∧ w' = w :=
  (mix_any x 6 11 25 (by omega) (by omega) (by omega) (by omega) (by omega) (by omega) w).mono fun _ _ h => ⟨h.1, h.2.symm⟩
theorem mix_v (x : UInt32) (w : World) : Calls Tryd.prog 121 #[.int .u32 x.toNat, .int .i64 2, .int .i64 13, .int .i64 22] w fun e w' => e = .returned (.int .u32 (mix3 2 13 22 x).toNat) ∧ w' = w :=
  (mix_any x 2 13 22 (by omega) (by omega) (by omega) (by omega) (by omega) (by omega) w).mono fun _ _ h => ⟨h.1, h.2.symm⟩
set_option maxHeartbeats 1600000 in
theorem comp_any (bs : Nat → UInt8) (s0 s1 s2 s3 s4 s5 s6 s7 : UInt32) (B off cap : Nat) (w : World) (hcap : 64 ≤ cap) (hB : B < w.heap.size) (hK : HoldK w) (hc : ∀ i, i < 64 → w.cell? ⟨B, off + i, none⟩ = some (.int .u8 ((bs i).toNat : Int))) :
    Calls Tryd.prog 115 #[.agg #[u32v s0, u32v s1, u32v s2, u32v s3, u32v s4, u32v s5, u32v s6, u32v s7], .slice (some ⟨B, off, none⟩) 64 cap] w fun e w' => e = .returned (.agg (compress bs ⟨s0, s1, s2, s3, s4, s5, s6, s7⟩).all) ∧ Below w.heap.size w w' := by
  have hc' := Lib.hid hc
  have hK' := Lib.hid hK
  clear hc hK
  go_enter Tryd.func115, Tryd.ntmps115
  go_wp2_with fail
  have hb0 : Below w.heap.size w ((w.alloc (Obj.cells #[u32v s0, u32v s1, u32v s2, u32v s3, u32v s4, u32v s5, u32v s6, u32v s7] 118)).alloc (Obj.cells #[Value.int IntKind.u32 0, Value.int IntKind.u32 0, Value.int IntKind.u32 0, Value.int IntKind.u32 0, Value.int IntKind.u32 0, Value.int IntKind.u32 0, Value.int IntKind.u32 0, Value.int IntKind.u32 0] 118)) := ((Below.refl _ _).alloc (Nat.le_refl _) _).alloc (by simp) _
  have hx0 := heap_alloc2_new w (Obj.cells #[u32v s0, u32v s1, u32v s2, u32v s3, u32v s4, u32v s5, u32v s6, u32v s7] 118) (Obj.cells #[Value.int IntKind.u32 0, Value.int IntKind.u32 0, Value.int IntKind.u32 0, Value.int IntKind.u32 0, Value.int IntKind.u32 0, Value.int IntKind.u32 0, Value.int IntKind.u32 0, Value.int IntKind.u32 0] 118)
  have hx1 := heap_alloc2_old w (Obj.cells #[u32v s0, u32v s1, u32v s2, u32v s3, u32v s4, u32v s5, u32v s6, u32v s7] 118) (Obj.cells #[Value.int IntKind.u32 0, Value.int IntKind.u32 0, Value.int IntKind.u32 0, Value.int IntKind.u32 0, Value.int IntKind.u32 0, Value.int IntKind.u32 0, Value.int IntKind.u32 0, Value.int IntKind.u32 0] 118)
  have hsz0 : ((w.alloc (Obj.cells #[u32v s0, u32v s1, u32v s2, u32v s3, u32v s4, u32v s5, u32v s6, u32v s7] 118)).alloc (Obj.cells #[Value.int IntKind.u32 0, Value.int IntKind.u32 0, Value.int IntKind.u32 0, Value.int IntKind.u32 0, Value.int IntKind.u32 0, Value.int IntKind.u32 0, Value.int IntKind.u32 0, Value.int IntKind.u32 0] 118)).heap.size = w.heap.size + 2 := by simp
  generalize ((w.alloc (Obj.cells #[u32v s0, u32v s1, u32v s2, u32v s3, u32v s4, u32v s5, u32v s6, u32v s7] 118)).alloc (Obj.cells #[Value.int IntKind.u32 0, Value.int IntKind.u32 0, Value.int IntKind.u32 0, Value.int IntKind.u32 0, Value.int IntKind.u32 0, Value.int IntKind.u32 0, Value.int IntKind.u32 0, Value.int IntKind.u32 0] 118)) = W1 at hb0 hx0 hx1 hsz0 ⊢
  with_reducible refine (sched_any bs B off cap _ hcap ?_ ?_).mono ?_
  · omega
  · intro i hi
    exact (hb0.cell (p := ⟨B, off + i, none⟩) hB).trans (hc'.out i hi)
  rintro e w1 ⟨rfl, hb1⟩
  have hz : w.heap.size + 2 ≤ w1.heap.size := by have := hb1.size; omega
  have HX0 := Lib.hid ((hb1.block (w.heap.size + 1) (by omega)).trans hx0)
  have HX1 := Lib.hid ((hb1.block w.heap.size (by omega)).trans hx1)
  have HB := Lib.hid (hb0.trans (hb1.mono (by omega)))
  clear hx0 hx1 hb1 hb0 hsz0
  go_wp2_with ((with_reducible show wpList _ _ _ ((⟨_, Op.store 138 (.tmp 5) _, _, _, _, _⟩ : Oper) :: _) _ _); refine wpList_store_row rfl 138 (.tmp 5) (.tmp 14) rfl _ _ rfl rfl _ _ (heap_alloc_new _ _) (by rw [schedArr_size bs 64 (by omega)]; exact info138) (by rw [schedArr_size bs 64 (by omega)]; rfl) (schedArr_one bs 64) ?_)
  generalize hW2 : (w1.alloc _).setRow w1.heap.size (schedArr bs 64) = W2
  have HWW : Hid (W2.heap[w1.heap.size]? = some (.cells (schedArr bs 64) 138 (0, 0))) := by
    rw [← hW2]; exact setRow_heap _ _ _ _ _ _ (heap_alloc_new _ _)
  have HRS : Hid (W2.heap[w.heap.size + 1]? = some (.cells (st8 0 0 0 0 0 0 0 0) 118 (0, 0))) := by
    rw [← hW2, setRow_other _ _ _ _ (by omega), Below.heap_alloc _ _ _ (by omega)]; exact HX0.out
  have HBX : Hid (W2.heap[w.heap.size]? = some (.cells (st8 s0 s1 s2 s3 s4 s5 s6 s7) 118 (0, 0))) := by
    rw [← hW2, setRow_other _ _ _ _ (by omega), Below.heap_alloc _ _ _ (by omega)]; exact HX1.out
  have HB2 : Hid (Below w.heap.size w W2) := by
    rw [← hW2]; exact below_setRow (HB.out.alloc (by omega) _) (by omega) _
  have HZ2 : Hid (W2.heap.size = w1.heap.size + 1) := Lib.hid (by rw [← hW2, setRow_size]; simp)
  clear hW2 HB HX0 HX1
  simp only [Act.put]
  -- cut
  go_cut [6, 7] (fun p6 p7 wx => ∃ Bv Be, p6 = .pointer (some ⟨Bv, 0, none⟩) ∧ p7 = .pointer (some ⟨Be, 0, none⟩) ∧ HoldC w bs (st8 s0 s1 s2 s3 s4 s5 s6 s7) w1.heap.size Bv Be (st4 s0 s1 s2 s3) (st4 s4 s5 s6 s7) wx)
  case first =>
    have hne : w.heap.size ≠ w1.heap.size := by omega
    have k0 : ∀ i, W2.cell? ⟨w.heap.size, i, none⟩ = (st8 s0 s1 s2 s3 s4 s5 s6 s7)[i]? := fun i => by rw [cell_of_row _ _ _ _ _ _ HBX.out]
    have c0 := k0 0
    have c1 := k0 1
    have c2 := k0 2
    have c3 := k0 3
    have c4 := k0 4
    have c5 := k0 5
    have c6 := k0 6
    have c7 := k0 7
    clear k0
    have hq : w.heap.size < W2.heap.size := by have := HZ2.out; omega
    simp only [st8, u32v, List.getElem?_toArray, List.getElem?_cons_succ, List.getElem?_cons_zero] at c0 c1 c2 c3 c4 c5 c6 c7
    have hA4 : ∀ (wx : World) (a : Option Addr) (cap : Nat), (Instr.arrayAt 140 (.slice a 4 cap)).run Tryd.prog wx = .ok (.pointer a) wx := fun wx a cap => run_arrayAt (P := Tryd.prog) (w := wx) 140 117 4 a 4 cap Tryd.underlying140 (by omega)
    go_region
    all_goals (go_wp2_with fail; go_meet)
    · exact ⟨_, _, rfl, rfl, (holdC_mk hz HWW.out HRS.out HBX.out HB2.out HZ2.out _ _).1⟩
    · exact ⟨_, _, rfl, rfl, (holdC_mk hz HWW.out HRS.out HBX.out HB2.out HZ2.out _ _).2⟩
  case rest =>
    obtain ⟨Bv, Be, rfl, rfl, hold⟩ := hcut
    obtain ⟨Bw, hBw⟩ : ∃ Bw, Bw = w1.heap.size := ⟨_, rfl⟩
    rw [← hBw] at hold ⊢
    clear hBw HWW HRS HBX HB2 HZ2 hz
    have h0w : 0 < w.heap.size := by omega
    have hKc : Hid (wc.rangeAt 0 0 (ks.map u32v)) := fun j v hv => (hold.below.cell (p := ⟨0, 0 + j, none⟩) h0w).trans (hK'.out j v hv)
    have HO := Lib.hid hold
    clear hold
    go_wp2_with ((with_reducible show wpList _ _ _ ((⟨_, Op.load 138 (.global 0), _, _, _, _⟩ : Oper) :: _) _ _); refine wpList_load_mid rfl 138 (.global 0) rfl 0 0 rfl _ _ hKc.out Tryd.underlying138 rfl info138 ?_)
    go_loopw [22] (fun c wr => ∃ t : Nat, t ≤ 64 ∧ c = .int .i64 t ∧ HoldC w bs (st8 s0 s1 s2 s3 s4 s5 s6 s7) Bw Bv Be (rounds (sched bs 64) ⟨s0, s1, s2, s3, s4, s5, s6, s7⟩ t).v (rounds (sched bs 64) ⟨s0, s1, s2, s3, s4, s5, s6, s7⟩ t).w wr) (fun c _ => 64 - (intOf c).toNat)
    case atStart => exact ⟨0, by omega, rfl, HO.out⟩
    case round =>
      obtain ⟨t, ht, rfl, hold⟩ := hrel
      clear hKc HO
      have HO := Lib.hid hold
      clear hold
      by_cases hlt : t < 64
      · have hidx : ∀ wx, (Instr.index 138 (.agg (ks.map u32v).toArray) (.int .i64 t)).run Tryd.prog wx = .ok (.int .u32 ((ks.getD t 0).toNat : Int)) wx := fun wx => index_u32 _ t hlt _ (ks_at t hlt) wx
        obtain ⟨S, hS⟩ : ∃ S, S = rounds (sched bs 64) ⟨s0, s1, s2, s3, s4, s5, s6, s7⟩ t := ⟨_, rfl⟩
        rw [← hS] at HO
        have HS := Lib.hid hS
        clear hS
        obtain ⟨a, b, c, d, e, f, g, hh⟩ := S
        obtain ⟨kt, hkt⟩ : ∃ kt, kt = ks.getD t 0 := ⟨_, rfl⟩
        rw [← hkt] at hidx
        have HKT := Lib.hid hkt
        clear hkt
        obtain ⟨wt, hwt⟩ : ∃ wt, wt = (sched bs 64).getD t 0 := ⟨_, rfl⟩
        have cw : wr.cell? ⟨Bw, t, none⟩ = some (.int .u32 (wt.toNat : Int)) := by rw [cell_of_row _ _ _ _ _ _ HO.out.ww, schedArr_get _ _ _ hlt, hwt]
        have HWT := Lib.hid hwt
        clear hwt
        have ce0 : wr.cell? ⟨Be, 0, none⟩ = some (.int .u32 (e.toNat : Int)) := by rw [cell_of_row _ _ _ _ _ _ HO.out.ee]; rfl
        have ce1 : wr.cell? ⟨Be, 1, none⟩ = some (.int .u32 (f.toNat : Int)) := by rw [cell_of_row _ _ _ _ _ _ HO.out.ee]; rfl
        have ce2 : wr.cell? ⟨Be, 2, none⟩ = some (.int .u32 (g.toNat : Int)) := by rw [cell_of_row _ _ _ _ _ _ HO.out.ee]; rfl
        have ce3 : wr.cell? ⟨Be, 3, none⟩ = some (.int .u32 (hh.toNat : Int)) := by rw [cell_of_row _ _ _ _ _ _ HO.out.ee]; rfl
        have cv0 : wr.cell? ⟨Bv, 0, none⟩ = some (.int .u32 (a.toNat : Int)) := by rw [cell_of_row _ _ _ _ _ _ HO.out.vv]; rfl
        have cv1 : wr.cell? ⟨Bv, 1, none⟩ = some (.int .u32 (b.toNat : Int)) := by rw [cell_of_row _ _ _ _ _ _ HO.out.vv]; rfl
        have cv2 : wr.cell? ⟨Bv, 2, none⟩ = some (.int .u32 (c.toNat : Int)) := by rw [cell_of_row _ _ _ _ _ _ HO.out.vv]; rfl
        have cv3 : wr.cell? ⟨Bv, 3, none⟩ = some (.int .u32 (d.toNat : Int)) := by rw [cell_of_row _ _ _ _ _ _ HO.out.vv]; rfl
        go_wp2_with fail
        go_quiet ((go_at_call 121; exact Calls.quiet_of_same (mix_e _ _)))
        obtain ⟨X, hX⟩ : ∃ X, X = rndX kt wt ⟨a, b, c, d, e, f, g, hh⟩ := ⟨_, rfl⟩
        rw [rndX_eq kt wt a b c d e f g hh, ← hX]
        have HX := Lib.hid hX
        clear hX
        go_wp2_with fail
        go_quiet ((go_at_call 121; exact calm_behind (mix_v _)))
        obtain ⟨Y, hY⟩ : ∃ Y, Y = rndY ⟨a, b, c, d, e, f, g, hh⟩ := ⟨_, rfl⟩
        rw [rndY_eq a b c d e f g hh, ← hY]
        have HY := Lib.hid hY
        clear hY
        go_wp2_with (first
          | ((with_reducible show wpList _ _ _ ((⟨_, Op.store 140 (.tmp 7) _, _, _, _, _⟩ : Oper) :: _) _ _); refine store_e rfl (.tmp 7) (.tmp 82) rfl rfl _ rfl rfl (by simp [Value.oneCell']) _ HO.out ?_; intro W3 HO2; clear HO cv0 cv1 cv2 ce0 ce1 ce2 ce3 cw; have cv0 := HO2.at_v 0; have cv1 := HO2.at_v 1; have cv2 := HO2.at_v 2; (simp only [S8.v, st4, u32v, List.getElem?_toArray, List.getElem?_cons_succ, List.getElem?_cons_zero] at cv0 cv1 cv2); have HO3 := Lib.hid HO2; clear HO2)
          | ((with_reducible show wpList _ _ _ ((⟨_, Op.store 140 (.tmp 6) _, _, _, _, _⟩ : Oper) :: _) _ _); refine store_v rfl (.tmp 6) (.tmp 92) rfl rfl _ rfl rfl (by simp [Value.oneCell']) HO3.out ?_; intro W4 HO2; clear HO3 cv0 cv1 cv2; have HO4 := Lib.hid HO2; clear HO2))
        go_roundw
        case rel =>
          refine ⟨t + 1, by omega, by go_num, ?_⟩
          have hf := HO4.out
          rw [u32_add, u32_add] at hf
          have es : rounds (sched bs 64) ⟨s0, s1, s2, s3, s4, s5, s6, s7⟩ (t + 1) = ⟨X + Y, a, b, c, d + X, e, f, g⟩ := by
            rw [rounds, ← HS.out, ← HKT.out, ← HWT.out, HX.out, HY.out]; rfl
          rw [es]
          exact hf
        case measure => simp [intOf]; omega
      · obtain rfl : t = 64 := by omega
        obtain ⟨S, hS⟩ : ∃ S, S = rounds (sched bs 64) ⟨s0, s1, s2, s3, s4, s5, s6, s7⟩ 64 := ⟨_, rfl⟩
        rw [← hS] at HO
        have HS := Lib.hid hS
        clear hS
        go_wp2_with fail
        go_loopw [94] (fun c wr => ∃ i : Nat, i ≤ 4 ∧ c = .int .i64 i ∧ HoldC w bs (fin8 ⟨s0, s1, s2, s3, s4, s5, s6, s7⟩ S i) Bw Bv Be S.v S.w wr) (fun c _ => 4 - (intOf c).toNat)
        case atStart => exact ⟨0, by omega, rfl, HO.out⟩
        case round =>
          obtain ⟨i, hi, rfl, hold⟩ := hrel
          clear HO
          obtain ⟨a, b, c, d, e, f, g, hh⟩ := S
          by_cases hlt : i < 4
          · have HO := Lib.hid hold
            have cb : wr.cell? ⟨w.heap.size, i, none⟩ = _ := hold.at_b i
            have cb4 : wr.cell? ⟨w.heap.size, i + 4, none⟩ = _ := hold.at_b (i + 4)
            have cv : wr.cell? ⟨Bv, i, none⟩ = _ := hold.at_v i
            have ce : wr.cell? ⟨Be, i, none⟩ = _ := hold.at_e i
            have cf := frozen_of_row _ _ i _ _ hold.box
            have cf4 := frozen_of_row _ _ (i + 4) _ _ hold.box
            have hne : w.heap.size ≠ Bv := by have := hold.hv; omega
            have hne' : w.heap.size ≠ Be := by have := hold.he; omega
            clear hold
            rcases (show i = 0 ∨ i = 1 ∨ i = 2 ∨ i = 3 by omega) with rfl | rfl | rfl | rfl
            all_goals
              simp only [fin8, st8, st4, u32v, S8.v, S8.w, List.getElem?_toArray, List.getElem?_cons_succ, List.getElem?_cons_zero, Nat.zero_add, Nat.reduceAdd, Nat.lt_irrefl, if_false, Nat.reduceLT] at cb cb4 cv ce
              go_wp2
              go_region
              go_wp2
              go_region
              go_wp2
              go_roundw
              case rel =>
                rw [u32_add, u32_add]
                first
                  | exact ⟨1, by omega, rfl, (fin8_0 ⟨s0, s1, s2, s3, s4, s5, s6, s7⟩ ⟨a, b, c, d, e, f, g, hh⟩) ▸ HO.out.b_step 0 4 (u32v (s0 + a)) (u32v (s4 + e))⟩
                  | exact ⟨2, by omega, rfl, (fin8_1 ⟨s0, s1, s2, s3, s4, s5, s6, s7⟩ ⟨a, b, c, d, e, f, g, hh⟩) ▸ HO.out.b_step 1 5 (u32v (s1 + b)) (u32v (s5 + f))⟩
                  | exact ⟨3, by omega, rfl, (fin8_2 ⟨s0, s1, s2, s3, s4, s5, s6, s7⟩ ⟨a, b, c, d, e, f, g, hh⟩) ▸ HO.out.b_step 2 6 (u32v (s2 + c)) (u32v (s6 + g))⟩
                  | exact ⟨4, by omega, rfl, (fin8_3 ⟨s0, s1, s2, s3, s4, s5, s6, s7⟩ ⟨a, b, c, d, e, f, g, hh⟩) ▸ HO.out.b_step 3 7 (u32v (s3 + d)) (u32v (s7 + hh))⟩
              case measure => simp [intOf]
          · obtain rfl : i = 4 := by omega
            have HO := Lib.hid hold
            clear hold
            go_wp2_with (first
              | ((with_reducible show wpList _ _ _ ((⟨_, Op.load 118 (.tmp 2), _, _, _, _⟩ : Oper) :: _) _ _); refine wpList_load_row rfl 118 (.tmp 2) rfl _ rfl _ _ _ _ HO.out.box Tryd.underlying118 rfl info118 ?_)
              | ((with_reducible show wpList _ _ _ ((⟨_, Op.store 118 (.tmp 4) _, _, _, _, _⟩ : Oper) :: _) _ _); refine wpList_store_row rfl 118 (.tmp 4) (.tmp 115) rfl _ _ rfl rfl _ _ HO.out.res info118 rfl (by simp [fin8, st8, u32v, Value.oneCell']) ?_))
            have hrow : (wr.setRow (w.heap.size + 1) (fin8 ⟨s0, s1, s2, s3, s4, s5, s6, s7⟩ ⟨a, b, c, d, e, f, g, hh⟩ 4)).heap[w.heap.size + 1]? = some (.cells _ 118 (0, 0)) := setRow_heap _ _ _ _ _ _ HO.out.res
            have ec : (compress bs ⟨s0, s1, s2, s3, s4, s5, s6, s7⟩).all = fin8 ⟨s0, s1, s2, s3, s4, s5, s6, s7⟩ ⟨a, b, c, d, e, f, g, hh⟩ 4 := by
              rw [compress, ← HS.out]; rfl
            rw [← ec] at hrow
            exact bodyPost_ret (v := .agg (compress bs ⟨s0, s1, s2, s3, s4, s5, s6, s7⟩).all) (results_cell_row rfl _ _ (w.heap.size + 1) 118 _ (0, 0) _ rfl (by rw [← ec]; exact hrow) Tryd.underlying118 rfl info118) rfl ⟨rfl, below_setRow HO.out.below (by omega) _⟩
end Go.Proofs.YtfkpeabkcdhcfaaDoor
namespace Go.Proofs.YtfkpeabkcdhcfaaDoor
open Go.RowKit
def u8v (c : UInt8) : Value := .int .u8 (c.toNat : Int)
structure Str where
  s : S8
  blk : List UInt8
  n : Nat
def bytesAt (blk : List UInt8) : Nat → UInt8 := fun i => blk.getD i 0
def feed1 (st : Str) (c : UInt8) : Str :=
  ⟨if st.n % 64 = 63 then compress (bytesAt (st.blk.set (st.n % 64) c)) st.s else st.s, st.blk.set (st.n % 64) c, st.n + 1⟩
def feed (st : Str) (l : List UInt8) : Str := l.foldl feed1 st
theorem feed1_len (st : Str) (c : UInt8) : (feed1 st c).blk.length = st.blk.length := by simp [feed1]
theorem feed_len (l : List UInt8) : ∀ st : Str, (feed st l).blk.length = st.blk.length := by
  induction l with
  | nil => intro st; rfl
  | cons c l ih => intro st; show (feed (feed1 st c) l).blk.length = _; rw [ih, feed1_len]
theorem feed_n (l : List UInt8) : ∀ st : Str, (feed st l).n = st.n + l.length := by
  induction l with
  | nil => intro st; rfl
  | cons c l ih => intro st; show (feed (feed1 st c) l).n = _; rw [ih]; simp [feed1]; omega
theorem feed_append (st : Str) (a b : List UInt8) : feed st (a ++ b) = feed (feed st a) b := by simp [feed, List.foldl_append]
/-- the block behind a chunk -/
def put (blk : List UInt8) (at' : Nat) (l : List UInt8) : List UInt8 := blk.take at' ++ l ++ blk.drop (at' + l.length)
theorem put_cons (blk : List UInt8) (a : Nat) (c : UInt8) (l : List UInt8) (h : a + (l.length + 1) ≤ blk.length) : put (blk.set a c) (a + 1) l = put blk a (c :: l) := by
  unfold put
  apply List.ext_getElem?
  intro i
  simp only [List.getElem?_append, List.length_append, List.length_take, List.length_set, List.length_cons, List.getElem?_take, List.getElem?_drop, List.getElem?_set]
  rcases Nat.lt_trichotomy i a with hi | hi | hi
  · simp [show i < min (a + 1) blk.length + l.length by omega, show i < min (a + 1) blk.length by omega, show i < a + 1 by omega, show ¬ a = i by omega, show i < min a blk.length + (l.length + 1) by omega, show i < min a blk.length by omega, hi]
  · subst hi
    simp [show i < min (i + 1) blk.length + l.length by omega, show i < min (i + 1) blk.length by omega, show i < blk.length by omega, show i < min i blk.length + (l.length + 1) by omega, show ¬ i < min i blk.length by omega, show i - min i blk.length = 0 by omega]
  · by_cases h2 : i < a + 1 + l.length
    · simp [show i < min (a + 1) blk.length + l.length by omega, show ¬ i < min (a + 1) blk.length by omega, show i < min a blk.length + (l.length + 1) by omega, show ¬ i < min a blk.length by omega]
      rw [show i - min a blk.length = (i - min (a + 1) blk.length) + 1 by omega, List.getElem?_cons_succ]
    · simp [show ¬ i < min (a + 1) blk.length + l.length by omega, show ¬ i < min a blk.length + (l.length + 1) by omega]
      rw [if_neg (by omega)]
      congr 1
      omega
theorem feed_chunk (l : List UInt8) : ∀ st : Str, st.blk.length = 64 → 0 < l.length → st.n % 64 + l.length ≤ 64 →
    feed st l = ⟨if st.n % 64 + l.length = 64 then compress (bytesAt (put st.blk (st.n % 64) l)) st.s else st.s, put st.blk (st.n % 64) l, st.n + l.length⟩ := by
  induction l with
  | nil => intro st _ h; simp at h
  | cons c l ih =>
    intro st hb _ hfit
    show feed (feed1 st c) l = _
    simp only [List.length_cons] at hfit ⊢
    by_cases hl : l.length = 0
    · have : l = [] := List.length_eq_zero_iff.1 hl
      subst this
      have hp : st.blk.set (st.n % 64) c = put st.blk (st.n % 64) [c] := by
        have := put_cons st.blk (st.n % 64) c [] (by simp; omega)
        rw [← this]; simp [put]
      simp only [feed, List.foldl, feed1, hp, List.length_nil, Nat.zero_add]
      by_cases h63 : st.n % 64 = 63
      · simp [h63]
      · simp [h63]
    · have hm : (st.n + 1) % 64 = st.n % 64 + 1 := by omega
      have h63 : ¬ st.n % 64 = 63 := by omega
      rw [ih (feed1 st c) (by rw [feed1_len]; exact hb) (by omega) (by simp only [feed1, hm]; omega)]
      simp only [feed1, hm, if_neg h63, put_cons st.blk (st.n % 64) c l (by omega)]
      rw [show st.n % 64 + 1 + l.length = st.n % 64 + (l.length + 1) by omega, show st.n + 1 + l.length = st.n + (l.length + 1) by omega]
/-- a stream as the cells of its struct -/
def strmL (st : Str) : List Value := st.s.all.toList ++ st.blk.map u8v ++ [.int .u64 (st.n : Int)]
def strm (st : Str) : Array Value := (strmL st).toArray
theorem strm_size (st : Str) (h : st.blk.length = 64) : (strm st).size = 73 := by simp [strm, strmL, S8.all, st8, h]
theorem strm_n (st : Str) (h : st.blk.length = 64) : (strm st)[72]? = some (.int .u64 (st.n : Int)) := by
  simp [strm, strmL, S8.all, st8, h]
theorem strm_blk (st : Str) (h : st.blk.length = 64) (i : Nat) (hi : i < 64) : (strm st)[8 + i]? = some (.int .u8 ((bytesAt st.blk i).toNat : Int)) := by
  have hi' : i < st.blk.length := by omega
  have h8 : st.s.all.toList.length = 8 := rfl
  rw [strm, strmL, List.getElem?_toArray, List.append_assoc, List.getElem?_append_right (by rw [h8]; omega), h8, show 8 + i - 8 = i by omega,
    List.getElem?_append_left (by rw [List.length_map]; exact hi'), List.getElem?_map, List.getElem?_eq_getElem hi']
  simp only [bytesAt, List.getD_eq_getElem?_getD, List.getElem?_eq_getElem hi']
  rfl
theorem strm_s (st : Str) (j : Nat) (v : Value) (hv : st.s.all.toList[j]? = some v) : (strm st)[j]? = some v := by
  have hj : j < 8 := by have := (List.getElem?_eq_some_iff.1 hv).1; simpa [S8.all, st8] using this
  simp only [strm, strmL, List.getElem?_toArray, List.append_assoc]
  rw [List.getElem?_append_left (by simp [S8.all, st8]; exact hj)]
  exact hv
theorem strm_set_n (st : Str) (h : st.blk.length = 64) (m : Nat) : (strm st).setIfInBounds 72 (.int .u64 (m : Int)) = strm ⟨st.s, st.blk, m⟩ := by
  apply Array.ext'
  simp [strm, strmL, S8.all, st8, h]
theorem strm_set_blk (st : Str) (h : st.blk.length = 64) (a : Nat) (l : List UInt8) (hl : a + l.length ≤ 64) :
    ((strm st).toList.take (8 + a) ++ l.map u8v ++ (strm st).toList.drop (8 + a + l.length)).toArray = strm ⟨st.s, put st.blk a l, st.n⟩ := by
  apply congrArg List.toArray
  show (strmL st).take (8 + a) ++ l.map u8v ++ (strmL st).drop (8 + a + l.length) = strmL ⟨st.s, put st.blk a l, st.n⟩
  have h8 : st.s.all.toList.length = 8 := rfl
  simp only [strmL, put, List.append_assoc, List.take_append, List.drop_append, h8, List.length_map, List.map_append, List.map_take, List.map_drop]
  rw [List.take_of_length_le (by rw [h8]; omega), List.drop_eq_nil_of_le (by rw [h8]; omega)]
  rw [show 8 + a - 8 = a by omega, show 8 + a + l.length - 8 = a + l.length by omega, h]
  rw [show a - 64 = 0 by omega, show a + l.length - 64 = 0 by omega]
  simp
end Go.Proofs.YtfkpeabkcdhcfaaDoor
namespace Go.Proofs.YtfkpeabkcdhcfaaDoor
open Go.RowKit
set_option maxRecDepth 100000
theorem u8v_cells (l : List UInt8) : l.map u8v = Lib.byteCells l := rfl
theorem run_copy_str {P : Program} (w : World) (dT sT ty elem : TypeId) (g o dLen dCap : Nat) (s : ByteArray) (cur : Array Value) (t : TypeId) (n : Nat) (hn : n = min s.size dLen)
    (hu : P.underlying dT = some (.slice elem)) (hs : (P.info? elem).map (·.size) = some 1) (hg : w.heap[g]? = some (.cells cur t (0, 0))) (hfit : o + n ≤ cur.size) :
    (Builtin.copy_ #[dT, sT] ty #[.slice (some ⟨g, o, none⟩) dLen dCap, .string s]).run P w =
      .ok (.int .i64 (n : Int)) (w.setRow g (cur.toList.take o ++ (s.data.toList.take n).map u8v ++ cur.toList.drop (o + (s.data.toList.take n).length)).toArray) := by
  have hlen : (Lib.byteCells (s.data.toList.take n)).length = n := by
    rw [Lib.byteCells_length, List.length_take, ← Lib.size_eq]; omega
  have hlen' : (s.data.toList.take n).length = n := by rw [List.length_take, ← Lib.size_eq]; omega
  have hst := run_storeCells_at P g o t (Lib.byteCells (s.data.toList.take n)) 0 cur w hg (by rw [hlen]; simpa using hfit) (Lib.byteCells_one _)
  have hmin : Nat.min s.size dLen = n := hn.symm
  rw [hlen] at hst
  rw [hlen']
  simp only [Nat.add_zero] at hst
  cases hq : P.info? elem with
  | none => simp [hq] at hs
  | some i =>
    simp [Builtin.copy_, run_underlying hu, Builtin.lenOf, Builtin.firstCells, sizeOf, typeInfo, hq, hmin]
    have hmap : List.take n (List.map (fun b : UInt8 => Value.int IntKind.u8 (b.toNat : Int)) s.data.toList) = Lib.byteCells (s.data.toList.take n) := by
      rw [Lib.byteCells, List.map_take]
    rw [hmap, hst]
    simp only [Result.andThen_ok]
    have e1 : List.take n (List.map u8v s.data.toList) = Lib.byteCells (s.data.toList.take n) := by rw [← List.map_take]; rfl
    rw [e1, List.append_assoc]
    rfl
theorem info119 : (Tryd.prog.info? 5).map (·.size) = some 1 := by kernel_rfl
theorem info122 : (Tryd.prog.info? 122).map (·.size) = some 73 := by kernel_rfl
def zeroStr : Str := ⟨⟨0, 0, 0, 0, 0, 0, 0, 0⟩, List.replicate 64 0, 0⟩
structure HoldS (w : World) (st : Str) (wx : World) : Prop where
  len : st.blk.length = 64
  box : wx.heap[w.heap.size]? = some (.cells (strm st) 122 (0, 0))
  res : wx.heap[w.heap.size + 1]? = some (.cells Tryd.zeroCells122 122 (0, 0))
  below : Below w.heap.size w wx
theorem len119 : Tryd.prog.arrayLen 119 = 64 := by kernel_rfl
theorem elem119 : Tryd.prog.elem 119 = 5 := by kernel_rfl
theorem size5 (w : World) : (sizeOf 5).run Tryd.prog w = .ok 1 w := by kernel_rfl
theorem slice119 (B a : Nat) (h : a < 64) (wx : World) : (Instr.sliceAt 119 (.pointer (some ⟨B, 8, none⟩)) (some (.int .i64 a)) none none).run Tryd.prog wx = .ok (.slice (some ⟨B, 8 + a, none⟩) (64 - a) (64 - a)) wx := by
  have hu : Tryd.prog.underlying 119 = some (.array (Tryd.prog.arrayLen 119) (Tryd.prog.elem 119)) := by rw [len119, elem119]; exact Tryd.underlying119
  rw [run_sliceAt_array_l (P := Tryd.prog) wx 119 ⟨B, 8, none⟩ hu .i64 (a : Int) (by omega) (by rw [len119]; omega), elem119, size5, len119]
  simp only [Result.andThen_ok, slicedAt, Int.toNat_natCast, Nat.mul_one, if_neg (show ¬ 64 = a by omega), Addr.add_mid]
theorem slice119_all (B : Nat) (wx : World) : (Instr.sliceAt 119 (.pointer (some ⟨B, 8, none⟩)) none none none).run Tryd.prog wx = .ok (.slice (some ⟨B, 8, none⟩) 64 64) wx := by
  have hu : Tryd.prog.underlying 119 = some (.array (Tryd.prog.arrayLen 119) (Tryd.prog.elem 119)) := by rw [len119, elem119]; exact Tryd.underlying119
  rw [run_sliceAt_array_all (P := Tryd.prog) wx 119 ⟨B, 8, none⟩ hu, elem119, size5, len119]
  rfl
theorem HoldS.copy {w wx : World} {sx : Str} (h : HoldS w sx wx) (a : Nat) (l : List UInt8) (hl : a + l.length ≤ 64) :
    HoldS w ⟨sx.s, put sx.blk a l, sx.n⟩ (wx.setRow w.heap.size ((strm sx).toList.take (8 + a) ++ l.map u8v ++ (strm sx).toList.drop (8 + a + l.length)).toArray) := by
  obtain ⟨h1, h2, h3, h4⟩ := h
  rw [strm_set_blk sx h1 a l hl]
  refine ⟨?_, setRow_heap _ _ _ _ _ _ h2, (setRow_other _ _ _ _ (by omega)).trans h3, below_setRow h4 (Nat.le_refl _) _⟩
  simp [put, h1]; omega
theorem copy_s {ops : Array Oper} {rest : List Oper} {o : Oper} {A : Act} {Q : Exit → Act → World → Prop} {w wx : World} {sx : Str} (HO : HoldS w sx wx) (hgd : o.guard = none) (d s : Operand)
    (ho : o.op = .call { callee := .builtin .copy, args := #[d, s], argTypes := #[92, 9] }) (a k : Nat) (tx : ByteArray) (ha : a < 64) (hk : k = min tx.size (64 - a))
    (hd : A.eval d = .slice (some ⟨w.heap.size, 8 + a, none⟩) (64 - a) (64 - a)) (hs : A.eval s = .string tx)
    (h : ∀ W3, HoldS w ⟨sx.s, put sx.blk a (tx.data.toList.take k), sx.n⟩ W3 → wpList Tryd.prog ops Q rest (A.put o.dst (.int .i64 (k : Int))) W3) : wpList Tryd.prog ops Q (o :: rest) A wx := by
  have hkl : (tx.data.toList.take k).length = k := by rw [List.length_take, ← Lib.size_eq]; omega
  exact Lib.wpList_copy_run wx hgd d s 92 9 ho _ _ hd hs (run_copy_str (P := Tryd.prog) wx 92 9 o.type 5 w.heap.size (8 + a) (64 - a) (64 - a) tx (strm sx) 122 k hk Tryd.underlying92 info119 HO.box (by rw [strm_size _ HO.len]; omega)) (h _ (HO.copy a _ (by omega)))
theorem HoldS.at_n {w wx : World} {sx : Str} (h : HoldS w sx wx) : wx.cell? ⟨w.heap.size, 72, none⟩ = some (.int .u64 (sx.n : Int)) := by rw [cell_of_row _ _ _ _ _ _ h.box, strm_n _ h.len]
theorem HoldS.free {w wx : World} {sx : Str} (h : HoldS w sx wx) (i : Nat) : wx.frozen? ⟨w.heap.size, i, none⟩ = false := frozen_of_row _ _ _ _ _ h.box
theorem HoldS.set_n {w wx : World} {sx : Str} (h : HoldS w sx wx) (m : Nat) : HoldS w ⟨sx.s, sx.blk, m⟩ (wx.setCell ⟨w.heap.size, 72, none⟩ (.int .u64 (m : Int))) := by
  obtain ⟨h1, h2, h3, h4⟩ := h
  refine ⟨h1, ?_, (heap_setCell_other _ _ _ _ (by show _ ≠ w.heap.size; omega)).trans h3, h4.setCell (Nat.le_refl _) _⟩
  rw [heap_setCell_same _ _ _ _ _ _ h2, strm_set_n sx h1]
theorem comp_ex (bs : Nat → UInt8) (s0 s1 s2 s3 s4 s5 s6 s7 r0 r1 r2 r3 r4 r5 r6 r7 : UInt32) (hr : (⟨r0, r1, r2, r3, r4, r5, r6, r7⟩ : S8) = compress bs ⟨s0, s1, s2, s3, s4, s5, s6, s7⟩) (B off cap : Nat) (w : World) (hcap : 64 ≤ cap) (hB : B < w.heap.size) (hK : HoldK w) (hc : ∀ i, i < 64 → w.cell? ⟨B, off + i, none⟩ = some (.int .u8 ((bs i).toNat : Int))) :
    Calls Tryd.prog 115 #[.agg #[.int .u32 (s0.toNat : Int), .int .u32 (s1.toNat : Int), .int .u32 (s2.toNat : Int), .int .u32 (s3.toNat : Int), .int .u32 (s4.toNat : Int), .int .u32 (s5.toNat : Int), .int .u32 (s6.toNat : Int), .int .u32 (s7.toNat : Int)], .slice (some ⟨B, off, none⟩) 64 cap] w
      fun e w' => e = .returned (.agg #[.int .u32 (r0.toNat : Int), .int .u32 (r1.toNat : Int), .int .u32 (r2.toNat : Int), .int .u32 (r3.toNat : Int), .int .u32 (r4.toNat : Int), .int .u32 (r5.toNat : Int), .int .u32 (r6.toNat : Int), .int .u32 (r7.toNat : Int)]) ∧ Below w.heap.size w w' :=
  (comp_any bs s0 s1 s2 s3 s4 s5 s6 s7 B off cap w hcap hB hK hc).mono fun _ _ h => by rw [← hr] at h; exact h
theorem HoldS.lt {w wx : World} {sx : Str} (h : HoldS w sx wx) : w.heap.size + 1 < wx.heap.size := lt_of_block h.res
theorem HoldS.after {w wx wy : World} {sx : Str} (h : HoldS w sx wx) (hb : Below wx.heap.size wx.drew wy) : HoldS w sx wy := by
  have hlt := h.lt
  obtain ⟨h1, h2, h3, h4⟩ := h
  exact ⟨h1, (hb.block _ (by omega)).trans h2, (hb.block _ (by omega)).trans h3, h4.drew.trans (hb.mono (by omega))⟩
theorem HoldS.at_s {w wx : World} {sx : Str} (h : HoldS w sx wx) (i : Nat) (v : Value) (hv : sx.s.all.toList[i]? = some v) : wx.cell? ⟨w.heap.size, i, none⟩ = some v := by
  rw [cell_of_row _ _ _ _ _ _ h.box]; exact strm_s _ _ _ hv
theorem HoldS.at_b {w wx : World} {sx : Str} (h : HoldS w sx wx) (i : Nat) (hi : i < 64) : wx.cell? ⟨w.heap.size, 8 + i, none⟩ = some (.int .u8 ((bytesAt sx.blk i).toNat : Int)) := by
  rw [cell_of_row _ _ _ _ _ _ h.box]; exact strm_blk _ h.len _ hi
theorem HoldS.k {w wx : World} {sx : Str} (h : HoldS w sx wx) (h0 : 0 < w.heap.size) (hK : HoldK w) : HoldK wx := fun j v hv => (h.below.cell (p := ⟨0, 0 + j, none⟩) h0).trans (hK j v hv)
theorem HoldS.set_s {w wx : World} {sx : Str} (h : HoldS w sx wx) (r0 r1 r2 r3 r4 r5 r6 r7 : UInt32) : HoldS w ⟨⟨r0, r1, r2, r3, r4, r5, r6, r7⟩, sx.blk, sx.n⟩
    ((((((((wx.setCell ⟨w.heap.size, 0, none⟩ (u32v r0)).setCell ⟨w.heap.size, 1, none⟩ (u32v r1)).setCell ⟨w.heap.size, 2, none⟩ (u32v r2)).setCell ⟨w.heap.size, 3, none⟩ (u32v r3)).setCell ⟨w.heap.size, 4, none⟩ (u32v r4)).setCell ⟨w.heap.size, 5, none⟩ (u32v r5)).setCell ⟨w.heap.size, 6, none⟩ (u32v r6)).setCell ⟨w.heap.size, 7, none⟩ (u32v r7)) := by
  obtain ⟨h1, h2, h3, h4⟩ := h
  have g0 := heap_setCell_same _ _ 0 _ _ (u32v r0) h2
  have g1 := heap_setCell_same _ _ 1 _ _ (u32v r1) g0
  have g2 := heap_setCell_same _ _ 2 _ _ (u32v r2) g1
  have g3 := heap_setCell_same _ _ 3 _ _ (u32v r3) g2
  have g4 := heap_setCell_same _ _ 4 _ _ (u32v r4) g3
  have g5 := heap_setCell_same _ _ 5 _ _ (u32v r5) g4
  have g6 := heap_setCell_same _ _ 6 _ _ (u32v r6) g5
  have g7 := heap_setCell_same _ _ 7 _ _ (u32v r7) g6
  refine ⟨h1, g7.trans ?_, ?_, ?_⟩
  · apply congrArg (fun c => some (Obj.cells c 122 (0, 0)))
    apply Array.ext'
    simp [strm, strmL, S8.all, st8]
  · iterate 8 rw [heap_setCell_other _ _ _ _ (by show _ ≠ w.heap.size; omega)]
    exact h3
  · have hB : ∀ {W : World} (i : Nat) (u : Value), Below w.heap.size w W → Below w.heap.size w (W.setCell ⟨w.heap.size, i, none⟩ u) := fun i u h => h.setCell (p := ⟨w.heap.size, i, none⟩) (Nat.le_refl _) u
    exact hB 7 _ (hB 6 _ (hB 5 _ (hB 4 _ (hB 3 _ (hB 2 _ (hB 1 _ (hB 0 _ h4)))))))
theorem feed_step (sx : Str) (hb : sx.blk.length = 64) (tx : ByteArray) (a k : Nat) (ha : a = sx.n % 64) (hk : k = min tx.size (64 - a)) (h0 : 0 < tx.size) :
    feed ⟨if a + k = 64 then compress (bytesAt (put sx.blk a (tx.data.toList.take k))) sx.s else sx.s, put sx.blk a (tx.data.toList.take k), sx.n + k⟩ (tx.extract k tx.size).data.toList = feed sx tx.data.toList := by
  have hl : (tx.data.toList.take k).length = k := by rw [List.length_take, ← Lib.size_eq]; omega
  have hc := feed_chunk (tx.data.toList.take k) sx hb (by omega) (by omega)
  rw [hl, ← ha] at hc
  rw [← hc, Lib.extract_data, ← feed_append, List.take_of_length_le (l := tx.data.toList.drop k) (by rw [List.length_drop, ← Lib.size_eq]; exact Nat.le_refl _), List.take_append_drop]
theorem zero122 : Tryd.zeroCells122.size = 73 := by rfl
theorem strm_one (st : Str) : (strm st).all (fun x => x.oneCell') = true := by
  simp only [strm, strmL, List.all_toArray, List.all_eq_true, List.mem_append, List.mem_map, List.mem_singleton]
  rintro x ((h | ⟨y, _, rfl⟩) | rfl)
  · simp only [S8.all, st8, List.mem_cons, List.not_mem_nil, or_false] at h
    rcases h with rfl | rfl | rfl | rfl | rfl | rfl | rfl | rfl <;> rfl
  · rfl
  · rfl
def sizeOfStr : Value → Nat
  | .string s => s.size
  | _ => 0
set_option maxHeartbeats 1000000 in
theorem add_any (st : Str) (hlen : st.blk.length = 64) (text : ByteArray) (hn : st.n + text.size < 4611686018427387904) (w : World) (h0 : 0 < w.heap.size) (hK : HoldK w) :
    Calls Tryd.prog 98 #[.agg (strm st), .string text] w fun e w' => e = .returned (.agg (strm (feed st text.data.toList))) ∧ Below w.heap.size w w' := by
  have hK' := Lib.hid hK
  clear hK
  have hl' := Lib.hid hlen
  clear hlen
  go_enter Tryd.func98, Tryd.ntmps98
  go_wp2
  go_loopw [1] (fun v wr => ∃ (tx : ByteArray) (sx : Str), v = .string tx ∧ HoldS w sx wr ∧ feed sx tx.data.toList = feed st text.data.toList ∧ sx.n + tx.size = st.n + text.size) (fun v _ => sizeOfStr v)
  case atStart => exact ⟨text, st, rfl, ⟨hl'.out, heap_alloc2_old _ _ _, heap_alloc2_new _ _ _, ((Below.refl _ _).alloc (Nat.le_refl _) _).alloc (by simp) _⟩, rfl, rfl⟩
  case round =>
    obtain ⟨tx, sx, rfl, hold, hfeed, hnx⟩ := hrel
    have HF := Lib.hid hfeed
    have HN := Lib.hid hnx
    clear hfeed hnx
    have hsn : sx.n + tx.size < 4611686018427387904 := by rw [HN.out]; exact hn
    have cn : wr.cell? ⟨w.heap.size, 72, none⟩ = some (.int .u64 (sx.n : Int)) := by rw [cell_of_row _ _ _ _ _ _ hold.box, strm_n _ hold.len]
    have cf : wr.frozen? ⟨w.heap.size, 72, none⟩ = false := frozen_of_row _ _ _ _ _ hold.box
    have HO := Lib.hid hold
    clear hold
    obtain ⟨a, ha⟩ : ∃ a, a = sx.n % 64 := ⟨_, rfl⟩
    have hmod : ((sx.n : Int) % 64) = (a : Int) := by omega
    have ha64 : a < 64 := by omega
    have hai : (a : Int) < 64 := by omega
    have HA := Lib.hid ha
    clear ha
    by_cases hne : tx.toList.isEmpty = true
    · have hsz : strm sx = strm (feed st text.data.toList) := by
        rw [← HF.out]
        have : tx.data.toList = [] := by rw [← Lib.toList_data]; simpa using hne
        rw [this]; rfl
      have hone : (strm sx).all (fun x => x.oneCell') = true := strm_one sx
      have HSZ := Lib.hid hsz
      clear hsz
      go_wp2_with (first
        | ((with_reducible show wpList _ _ _ ((⟨_, Op.load 122 (.tmp 2), _, _, _, _⟩ : Oper) :: _) _ _); refine wpList_load_row rfl 122 (.tmp 2) rfl _ rfl _ _ _ _ HO.out.box Tryd.underlying122 rfl (by rw [strm_size _ HO.out.len]; exact info122) ?_)
        | ((with_reducible show wpList _ _ _ ((⟨_, Op.store 122 (.tmp 4) _, _, _, _, _⟩ : Oper) :: _) _ _); refine wpList_store_row rfl 122 (.tmp 4) (.tmp 37) rfl _ _ rfl rfl _ _ HO.out.res (by rw [strm_size _ HO.out.len]; exact info122) (by rw [strm_size _ HO.out.len]; exact zero122) hone ?_))
      have hrow : (wr.setRow (w.heap.size + 1) (strm sx)).heap[w.heap.size + 1]? = some (.cells (strm sx) 122 (0, 0)) := setRow_heap _ _ _ _ _ _ HO.out.res
      rw [HSZ.out] at hrow ⊢
      exact bodyPost_ret (v := .agg (strm (feed st text.data.toList))) (results_cell_row rfl _ _ (w.heap.size + 1) _ _ _ _ rfl hrow Tryd.underlying122 rfl (by rw [strm_size _ (by rw [feed_len]; exact hl'.out)]; exact info122)) rfl ⟨rfl, below_setRow HO.out.below (by omega) _⟩
    · have hne' : tx.toList.isEmpty = false := by simpa using hne
      have hsl := slice119 w.heap.size a ha64
      obtain ⟨k, hk⟩ : ∃ k, k = min tx.size (64 - a) := ⟨_, rfl⟩
      have hsz : 0 < tx.size := by
        rw [Lib.size_eq, ← Lib.toList_data]
        cases h : tx.toList with
        | nil => rw [h] at hne'; simp at hne'
        | cons => simp
      have hk1 : 0 < k := by omega
      have hk2 : k ≤ tx.size := by omega
      have hk3 : a + k ≤ 64 := by omega
      have HK3 := Lib.hid hk
      clear hk
      have hnk : (sx.n : Int) + (k : Int) < 4611686018427387904 := by omega
      by_cases hfull : a + k = 64
      · have hq : ((a : Int) + (k : Int) == 64) = true := by simp; omega
        have HFull := Lib.hid hfull
        clear hfull
        go_wp2_with ((with_reducible show wpList _ _ _ ((⟨_, Op.call _, _, _, _, _⟩ : Oper) :: _) _ _); refine copy_s HO.out rfl (.tmp 15) (.tmp 16) rfl a k tx ha64 HK3.out rfl rfl ?_; intro W3 h3; clear cn cf; have cn3 := h3.at_n; have cf3 := h3.free 72; have H3 := Lib.hid h3; clear h3; simp only at cn3)
        have H4 : Hid (HoldS w ⟨sx.s, put sx.blk a (tx.data.toList.take k), sx.n + k⟩ (W3.setCell ⟨w.heap.size, 72, none⟩ (.int .u64 ((sx.n : Int) + (k : Int))))) := by
          have h4 := H3.out.set_n (sx.n + k)
          rw [show (((sx.n + k : Nat)) : Int) = (sx.n : Int) + (k : Int) by omega] at h4
          exact Lib.hid h4
        generalize W3.setCell ⟨w.heap.size, 72, none⟩ (.int .u64 ((sx.n : Int) + (k : Int))) = W4 at H4 ⊢
        clear H3 cn3 cf3
        have hall := slice119_all w.heap.size
        obtain ⟨⟨a0, a1, a2, a3, a4, a5, a6, a7⟩, hsx⟩ : ∃ S, S = sx.s := ⟨_, rfl⟩
        rw [← hsx] at H4
        obtain ⟨⟨r0, r1, r2, r3, r4, r5, r6, r7⟩, hr⟩ : ∃ R, R = compress (bytesAt (put sx.blk a (tx.data.toList.take k))) ⟨a0, a1, a2, a3, a4, a5, a6, a7⟩ := ⟨_, rfl⟩
        have c0 := H4.out.at_s 0 _ rfl
        have c1 := H4.out.at_s 1 _ rfl
        have c2 := H4.out.at_s 2 _ rfl
        have c3 := H4.out.at_s 3 _ rfl
        have c4 := H4.out.at_s 4 _ rfl
        have c5 := H4.out.at_s 5 _ rfl
        have c6 := H4.out.at_s 6 _ rfl
        have c7 := H4.out.at_s 7 _ rfl
        simp only [u32v] at c0 c1 c2 c3 c4 c5 c6 c7
        have HSX := Lib.hid hsx
        have HR := Lib.hid hr
        clear hsx hr
        have hcall : ∀ wx, wx = W4.drew → Calls Tryd.prog 115 #[.agg #[.int .u32 (a0.toNat : Int), .int .u32 (a1.toNat : Int), .int .u32 (a2.toNat : Int), .int .u32 (a3.toNat : Int), .int .u32 (a4.toNat : Int), .int .u32 (a5.toNat : Int), .int .u32 (a6.toNat : Int), .int .u32 (a7.toNat : Int)], .slice (some ⟨w.heap.size, 8, none⟩) 64 64] wx
            fun e w' => e = .returned (.agg #[.int .u32 (r0.toNat : Int), .int .u32 (r1.toNat : Int), .int .u32 (r2.toNat : Int), .int .u32 (r3.toNat : Int), .int .u32 (r4.toNat : Int), .int .u32 (r5.toNat : Int), .int .u32 (r6.toNat : Int), .int .u32 (r7.toNat : Int)]) ∧ Below W4.heap.size W4.drew w' := by
          rintro _ rfl
          exact comp_ex (bytesAt (put sx.blk a (tx.data.toList.take k))) a0 a1 a2 a3 a4 a5 a6 a7 r0 r1 r2 r3 r4 r5 r6 r7 HR.out w.heap.size 8 64 W4.drew (by omega) (by have := H4.out.lt; show _ < W4.heap.size; omega) (H4.out.k h0 hK'.out) (fun i hi => H4.out.at_b i hi)
        have HCall := Lib.hid hcall
        clear hcall
        go_region_with ((go_at_call 115; with_reducible refine (HCall.out _ rfl).mono ?_; rintro e w5 ⟨rfl, hb5⟩; have h5 := H4.out.after hb5; clear c0 c1 c2 c3 c4 c5 c6 c7; have c0 := h5.at_s 0 _ rfl; have c1 := h5.at_s 1 _ rfl; have c2 := h5.at_s 2 _ rfl; have c3 := h5.at_s 3 _ rfl; have c4 := h5.at_s 4 _ rfl; have c5 := h5.at_s 5 _ rfl; have c6 := h5.at_s 6 _ rfl; have c7 := h5.at_s 7 _ rfl; have f0 := h5.free 0; have f1 := h5.free 1; have f2 := h5.free 2; have f3 := h5.free 3; have f4 := h5.free 4; have f5 := h5.free 5; have f6 := h5.free 6; have f7 := h5.free 7; have H5 := Lib.hid h5; clear h5 hb5; (simp only [u32v] at c0 c1 c2 c3 c4 c5 c6 c7)))
        all_goals go_wp2
        go_roundw
        case rel =>
          refine ⟨tx.extract k tx.size, ⟨⟨r0, r1, r2, r3, r4, r5, r6, r7⟩, put sx.blk a (tx.data.toList.take k), sx.n + k⟩, rfl, H5.out.set_s r0 r1 r2 r3 r4 r5 r6 r7, ?_, ?_⟩
          · rw [← HF.out, ← feed_step sx HO.out.len tx a k HA.out HK3.out hsz, if_pos HFull.out, ← HSX.out, ← HR.out]
          · rw [← HN.out, ByteArray.size_extract]
            show sx.n + k + (min tx.size tx.size - k) = _
            omega
        case measure =>
          show (tx.extract k tx.size).size < tx.size
          rw [ByteArray.size_extract]; omega
      · have hq : ((a : Int) + (k : Int) == 64) = false := by simp; omega
        have HFull := Lib.hid hfull
        clear hfull
        go_wp2_with ((with_reducible show wpList _ _ _ ((⟨_, Op.call _, _, _, _, _⟩ : Oper) :: _) _ _); refine copy_s HO.out rfl (.tmp 15) (.tmp 16) rfl a k tx ha64 HK3.out rfl rfl ?_; intro W3 h3; clear cn cf; have cn3 := h3.at_n; have cf3 := h3.free 72; have H3 := Lib.hid h3; clear h3; simp only at cn3)
        go_roundw
        case rel =>
          refine ⟨tx.extract k tx.size, ⟨sx.s, put sx.blk a (tx.data.toList.take k), sx.n + k⟩, rfl, ?_, ?_, ?_⟩
          · have h4 := H3.out.set_n (sx.n + k)
            rw [show (((sx.n + k : Nat)) : Int) = (sx.n : Int) + (k : Int) by omega] at h4
            exact h4
          · rw [← HF.out, ← feed_step sx HO.out.len tx a k HA.out HK3.out hsz, if_neg HFull.out]
          · rw [← HN.out, ByteArray.size_extract]
            show sx.n + k + (min tx.size tx.size - k) = _
            omega
        case measure =>
          show (tx.extract k tx.size).size < tx.size
          rw [ByteArray.size_extract]; omega
end Go.Proofs.YtfkpeabkcdhcfaaDoor
