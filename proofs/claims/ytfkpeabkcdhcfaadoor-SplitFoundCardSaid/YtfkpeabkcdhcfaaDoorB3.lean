/-
  Walk of wire.Int: the encoding of an integer, for every integer; nothing that was there changes.
  Walks of slices.Clone at integers and of wire.Bytes; nothing that was there changes.
  Walk of wire.Ints: the encoding of a list of integers that lies in new memory; nothing that was there changes.
-/
import Derived.Test.YtfkpeabkcdhcfaaDoorA
import Derived.WalkMore
namespace Go.Proofs.YtfkpeabkcdhcfaaDoor
open Go.RowKit
set_option maxRecDepth 100000
/-- the number of digits to the base 256 -/
def nd (m : Nat) : Nat := if m = 0 then 0 else nd (m / 256) + 1
termination_by m
theorem nd_unique : ∀ (k m : Nat), m < 256 ^ k → (k = 0 ∨ 256 ^ (k - 1) ≤ m) → nd m = k := by
  intro k
  induction k with
  | zero => intro m h _; have : m = 0 := by simpa using h
            subst this; unfold nd; simp
  | succ k ih =>
    intro m h h1
    have h2 : 256 ^ k ≤ m := by rcases h1 with h1 | h1 <;> simp at h1; exact h1
    have hp : 0 < 256 ^ k := Nat.pow_pos (by omega)
    unfold nd
    rw [if_neg (by omega), ih (m / 256) (by rw [Nat.pow_succ] at h; omega) (by
      rcases Nat.eq_zero_or_pos k with h0 | h0
      · exact .inl h0
      · right
        obtain ⟨j, rfl⟩ : ∃ j, k = j + 1 := ⟨k - 1, by omega⟩
        rw [Nat.pow_succ] at h2
        simp only [Nat.add_sub_cancel]
        omega)]
/-- the digits of a number, t of them, the highest first, combined with a byte -/
def digs (m k : Nat) (f : UInt8) (t : Nat) : List UInt8 := (List.range t).map fun j => UInt8.ofNat (m / 256 ^ (k - 1 - j)) ^^^ f
def encOf (m : Nat) (f : UInt8) : List UInt8 := (UInt8.ofNat (128 + nd m) ^^^ f) :: digs m (nd m) f (nd m)
/-- the encoding of an integer -/
def encInt (n : Int) : List UInt8 := if 0 ≤ n then encOf n.toNat 0 else encOf (-1 - n).toNat 255
theorem div_cast (m e : Nat) : ((m / 2 ^ e : Nat) : Int) = (m : Int) / 2 ^ e := by simp
/-- a result that owns the bytes l -/
def RetB (l : List UInt8) (w : World) (e : Ending) (w' : World) : Prop := ∃ g cap, e = .returned (.slice (some ⟨g, 0, none⟩) l.length cap) ∧ OwnB w.heap.size (.slice (some ⟨g, 0, none⟩) l.length cap) l w' ∧ Below w.heap.size w w'
theorem bits8 (x y : UInt8) : bits .xor .u8 (x.toNat : Int) (y.toNat : Int) = ((x ^^^ y).toNat : Int) := by
  unfold bits
  have ex : BitVec.ofInt IntKind.u8.bits (x.toNat : Int) = x.toBitVec := by
    apply BitVec.eq_of_toNat_eq
    have h := x.toNat_lt
    simp only [BitVec.toNat_ofInt, IntKind.bits]
    show ((x.toNat : Int) % _).toNat = x.toNat
    omega
  have ey : BitVec.ofInt IntKind.u8.bits (y.toNat : Int) = y.toBitVec := by
    apply BitVec.eq_of_toNat_eq
    have h := y.toNat_lt
    simp only [BitVec.toNat_ofInt, IntKind.bits]
    show ((y.toNat : Int) % _).toNat = y.toNat
    omega
  rw [ex, ey, IntKind.wrap_u8]
  have key : ∀ z : BitVec 8, ((z.toNat : Nat) : Int) % 256 = (z.toNat : Int) := by
    intro z; have := z.isLt; omega
  exact key _
theorem hd_eq (k : Nat) (f : UInt8) (fi : Int) (hf : fi = (f.toNat : Int)) (hk : k ≤ 8) : bits BinOp.xor IntKind.u8 (128 + (k : Int)) fi = ((UInt8.ofNat (128 + k) ^^^ f).toNat : Int) := by
  rw [hf, ← bits8, UInt8.toNat_ofNat']
  congr 1
  omega
theorem dg_eq (m e : Nat) (f : UInt8) (fi : Int) (hf : fi = (f.toNat : Int)) : bits BinOp.xor IntKind.u8 ((m : Int) / 2 ^ (8 * e) % 256) fi = ((UInt8.ofNat (m / 256 ^ e) ^^^ f).toNat : Int) := by
  rw [hf, ← bits8, UInt8.toNat_ofNat', ← div_cast, Nat.pow_mul]
  rfl
theorem digs_succ (m k : Nat) (f : UInt8) (t : Nat) : digs m k f (t + 1) = digs m k f t ++ [UInt8.ofNat (m / 256 ^ (k - 1 - t)) ^^^ f] := by
  simp [digs, List.range_succ]
theorem digs_length (m k : Nat) (f : UInt8) (t : Nat) : (digs m k f t).length = t := by simp [digs]
theorem not64 (m : Nat) (hm : m < 9223372036854775808) : bits BinOp.xor IntKind.u64 IntKind.u64.max (IntKind.u64.wrap (-1 - (m : Int))) = (m : Int) := by
  have e1 : IntKind.u64.wrap (-1 - (m : Int)) = ((18446744073709551615 - m : Nat) : Int) := by
    have : IntKind.u64.wrap (-1 - (m : Int)) = (-1 - (m : Int)) % 18446744073709551616 := by simp [IntKind.wrap, IntKind.bits, IntKind.signed]
    rw [this]; omega
  rw [e1]
  unfold bits
  have ex : BitVec.ofInt IntKind.u64.bits IntKind.u64.max = BitVec.allOnes 64 := rfl
  have ey : BitVec.ofInt IntKind.u64.bits ((18446744073709551615 - m : Nat) : Int) = BitVec.ofNat 64 (18446744073709551615 - m) := rfl
  have ez : ∀ z : Int, IntKind.u64.wrap z = z % 18446744073709551616 := fun z => by simp [IntKind.wrap, IntKind.bits, IntKind.signed]
  have hx : ((BitVec.allOnes 64) ^^^ (BitVec.ofNat 64 (18446744073709551615 - m))).toNat = m := by
    rw [BitVec.allOnes_xor, BitVec.toNat_not, BitVec.toNat_ofNat]
    omega
  rw [ex, ey, ez]
  show (((BitVec.allOnes 64) ^^^ (BitVec.ofNat 64 (18446744073709551615 - m))).toNat : Int) % _ = _
  rw [hx]
  omega
set_option maxHeartbeats 2000000 in
theorem wint_pos (m : Nat) (hm : m < 9223372036854775808) (w : World) : Calls Tryd.prog 101 #[.int .i64 (m : Int)] w (RetB (encOf m 0) w) := by
  go_enter Tryd.func101, Tryd.ntmps101
  go_wp2
  go_step3
  go_wp2
  go_step3
  go_wp2
  go_loop [5] (fun c => ∃ k : Nat, k ≤ 8 ∧ c = .int .i64 k ∧ m < 256 ^ k) (fun c => (intOf c).toNat)
  case atStart => exact ⟨8, Nat.le_refl _, rfl, by omega⟩
  case round =>
    obtain ⟨k, hk, rfl, hmk⟩ := hrel
    have HMK := Lib.hid hmk
    clear hmk
    by_cases hgo : k ≠ 0 ∧ m / 2 ^ (8 * (k - 1)) = 0
    · obtain ⟨hk0, hz⟩ := hgo
      have hzi : (m : Int) / 2 ^ (8 * (k - 1)) = 0 := by rw [← div_cast, hz]; rfl
      have hk1 : 0 < k := by omega
      have HZ := Lib.hid hz
      clear hz
      go_wp2
      go_round
      case rel =>
        refine ⟨k - 1, by omega, by go_num, ?_⟩
        have h := HZ.out
        rw [Nat.pow_mul, show (2 ^ 8 : Nat) = 256 from rfl] at h
        have hp : 0 < 256 ^ (k - 1) := Nat.pow_pos (by omega)
        rcases Nat.lt_or_ge m (256 ^ (k - 1)) with h1 | h1
        · exact h1
        · have := Nat.div_pos h1 hp; omega
      case measure => simp [intOf]; omega
    · have hnd : nd m = k := by
        apply nd_unique k m HMK.out
        by_cases h0 : k = 0
        · exact .inl h0
        · right
          have h1 : m / 2 ^ (8 * (k - 1)) ≠ 0 := fun h => hgo ⟨h0, h⟩
          rw [Nat.pow_mul, show (2 ^ 8 : Nat) = 256 from rfl] at h1
          rcases Nat.lt_or_ge m (256 ^ (k - 1)) with h2 | h2
          · exact absurd (Nat.div_eq_of_lt h2) h1
          · exact h2
      have HND := Lib.hid hnd
      have hq : k ≠ 0 → (0 : Int) < (m : Int) / 2 ^ (8 * (k - 1)) := fun h0 => by
        have h1 : m / 2 ^ (8 * (k - 1)) ≠ 0 := fun h => hgo ⟨h0, h⟩
        rw [← div_cast]; exact Int.natCast_pos.2 (Nat.pos_of_ne_zero h1)
      clear hnd hgo
      by_cases h0 : k = 0
      · have hk0 : (k : Int) < 1 := by omega
        clear hq h0
        go_wp2
        go_loopw [6, 7] (fun v c wr => ∃ i g cap, i ≤ k ∧ c = .int .i64 ((i : Int) - 1) ∧ v = .slice (some ⟨g, 0, none⟩) (1 + (k - i)) cap ∧ OwnB w.heap.size (.slice (some ⟨g, 0, none⟩) (1 + (k - i)) cap) ((UInt8.ofNat (128 + k) ^^^ 0) :: digs m k 0 (k - i)) wr ∧ Below w.heap.size w wr) (fun _ c _ => (intOf c + 1).toNat)
        case atStart =>
          refine ⟨k, _, _, Nat.le_refl _, rfl, by rw [Nat.sub_self], ?_, (Below.refl _ _).alloc (Nat.le_refl _) _⟩
          rw [Nat.sub_self]
          exact own_new' w.heap.size w w.heap.size rfl (Nat.le_refl _) _ _ (hd_eq k 0 0 rfl hk)
        case round =>
          obtain ⟨i, g, cap, hi, rfl, rfl, hown, hb⟩ := hrel
          have HOwn := Lib.hid hown
          clear hown
          by_cases hi0 : i = 0
          · have hi1 : (i : Int) < 1 := by omega
            have HI := Lib.hid hi0
            clear hi0
            go_wp2
            try rw [Exit.noGoto_ret]
            go_ret
            have ho := HOwn.out
            rw [HI.out, Nat.sub_zero] at ho
            have el : (UInt8.ofNat (128 + k) ^^^ 0) :: digs m k 0 k = encOf m 0 := by rw [encOf, HND.out]
            rw [el] at ho
            have hlen : (encOf m 0).length = 1 + k := by rw [← el]; simp [digs_length]; omega
            refine ⟨g, cap, ?_, by rw [hlen]; exact ho, hb⟩
            rw [hlen, HI.out]
            rfl
          · exfalso; omega
      · have hq1 := hq h0
        have hk1 : 0 < k := by omega
        clear hq h0
        go_wp2
        go_loopw [6, 7] (fun v c wr => ∃ i g cap, i ≤ k ∧ c = .int .i64 ((i : Int) - 1) ∧ v = .slice (some ⟨g, 0, none⟩) (1 + (k - i)) cap ∧ OwnB w.heap.size (.slice (some ⟨g, 0, none⟩) (1 + (k - i)) cap) ((UInt8.ofNat (128 + k) ^^^ 0) :: digs m k 0 (k - i)) wr ∧ Below w.heap.size w wr) (fun _ c _ => (intOf c + 1).toNat)
        case atStart =>
          refine ⟨k, _, _, Nat.le_refl _, rfl, by rw [Nat.sub_self], ?_, (Below.refl _ _).alloc (Nat.le_refl _) _⟩
          rw [Nat.sub_self]
          exact own_new' w.heap.size w w.heap.size rfl (Nat.le_refl _) _ _ (hd_eq k 0 0 rfl hk)
        case round =>
          obtain ⟨i, g, cap, hi, rfl, rfl, hown, hb⟩ := hrel
          have HOwn := Lib.hid hown
          clear hown
          by_cases hi0 : i = 0
          · have hi1 : (i : Int) < 1 := by omega
            have HI := Lib.hid hi0
            clear hi0
            go_wp2
            try rw [Exit.noGoto_ret]
            go_ret
            have ho := HOwn.out
            rw [HI.out, Nat.sub_zero] at ho
            have el : (UInt8.ofNat (128 + k) ^^^ 0) :: digs m k 0 k = encOf m 0 := by rw [encOf, HND.out]
            rw [el] at ho
            have hlen : (encOf m 0).length = 1 + k := by rw [← el]; simp [digs_length]; omega
            refine ⟨g, cap, ?_, by rw [hlen]; exact ho, hb⟩
            rw [hlen, HI.out]
            rfl
          · have hi1 : 1 ≤ i := by omega
            clear hi0
            go_wp2_with ((with_reducible show wpList _ _ _ ((⟨_, Op.call _, _, _, _, _⟩ : Oper) :: _) _ _); refine append_byte w.heap.size _ _ (1 + (k - i)) (by simp [digs_length]; omega) HOwn.out rfl (.tmp 36) (.tmp 44) rfl rfl (UInt8.ofNat (m / 256 ^ (i - 1)) ^^^ 0) _ (dg_eq m (i - 1) 0 0 rfl) rfl (by simp [digs_length]; omega) hb.size w hb ?_; intro g' cap' w1 hown1 hb1; have HOwn1 := Lib.hid hown1; clear hown1)
            go_roundw
            case rel =>
              have ho := HOwn1.out
              have el : (UInt8.ofNat (128 + k) ^^^ 0) :: digs m k 0 (k - i) ++ [UInt8.ofNat (m / 256 ^ (i - 1)) ^^^ 0] = (UInt8.ofNat (128 + k) ^^^ 0) :: digs m k 0 (k - (i - 1)) := by
                rw [show k - (i - 1) = (k - i) + 1 by omega, digs_succ, show k - 1 - (k - i) = i - 1 by omega]; rfl
              rw [el] at ho
              exact ⟨i - 1, g', cap', by omega, by go_num, by rw [show 1 + (k - (i - 1)) = 1 + (k - i) + 1 by omega], by rw [show 1 + (k - (i - 1)) = 1 + (k - i) + 1 by omega]; exact ho, hb1⟩
            case measure => simp [intOf]; omega
set_option maxHeartbeats 2000000 in
theorem wint_neg (m : Nat) (hm : m < 9223372036854775808) (w : World) : Calls Tryd.prog 101 #[.int .i64 (-1 - (m : Int))] w (RetB (encOf m 255) w) := by
  have hw : bits BinOp.xor IntKind.u64 IntKind.u64.max (IntKind.u64.wrap (-1 - (m : Int))) = (m : Int) := not64 m hm
  have hneg : -1 - (m : Int) < 0 := by omega
  go_enter Tryd.func101, Tryd.ntmps101
  go_wp2
  go_step3
  go_wp2
  go_step3
  go_wp2
  go_loop [5] (fun c => ∃ k : Nat, k ≤ 8 ∧ c = .int .i64 k ∧ m < 256 ^ k) (fun c => (intOf c).toNat)
  case atStart => exact ⟨8, Nat.le_refl _, rfl, by omega⟩
  case round =>
    obtain ⟨k, hk, rfl, hmk⟩ := hrel
    have HMK := Lib.hid hmk
    clear hmk
    by_cases hgo : k ≠ 0 ∧ m / 2 ^ (8 * (k - 1)) = 0
    · obtain ⟨hk0, hz⟩ := hgo
      have hzi : (m : Int) / 2 ^ (8 * (k - 1)) = 0 := by rw [← div_cast, hz]; rfl
      have hk1 : 0 < k := by omega
      have HZ := Lib.hid hz
      clear hz
      go_wp2
      go_round
      case rel =>
        refine ⟨k - 1, by omega, by go_num, ?_⟩
        have h := HZ.out
        rw [Nat.pow_mul, show (2 ^ 8 : Nat) = 256 from rfl] at h
        have hp : 0 < 256 ^ (k - 1) := Nat.pow_pos (by omega)
        rcases Nat.lt_or_ge m (256 ^ (k - 1)) with h1 | h1
        · exact h1
        · have := Nat.div_pos h1 hp; omega
      case measure => simp [intOf]; omega
    · have hnd : nd m = k := by
        apply nd_unique k m HMK.out
        by_cases h0 : k = 0
        · exact .inl h0
        · right
          have h1 : m / 2 ^ (8 * (k - 1)) ≠ 0 := fun h => hgo ⟨h0, h⟩
          rw [Nat.pow_mul, show (2 ^ 8 : Nat) = 256 from rfl] at h1
          rcases Nat.lt_or_ge m (256 ^ (k - 1)) with h2 | h2
          · exact absurd (Nat.div_eq_of_lt h2) h1
          · exact h2
      have HND := Lib.hid hnd
      have hq : k ≠ 0 → (0 : Int) < (m : Int) / 2 ^ (8 * (k - 1)) := fun h0 => by
        have h1 : m / 2 ^ (8 * (k - 1)) ≠ 0 := fun h => hgo ⟨h0, h⟩
        rw [← div_cast]; exact Int.natCast_pos.2 (Nat.pos_of_ne_zero h1)
      clear hnd hgo
      by_cases h0 : k = 0
      · have hk0 : (k : Int) < 1 := by omega
        clear hq h0
        go_wp2
        go_loopw [6, 7] (fun v c wr => ∃ i g cap, i ≤ k ∧ c = .int .i64 ((i : Int) - 1) ∧ v = .slice (some ⟨g, 0, none⟩) (1 + (k - i)) cap ∧ OwnB w.heap.size (.slice (some ⟨g, 0, none⟩) (1 + (k - i)) cap) ((UInt8.ofNat (128 + k) ^^^ 255) :: digs m k 255 (k - i)) wr ∧ Below w.heap.size w wr) (fun _ c _ => (intOf c + 1).toNat)
        case atStart =>
          refine ⟨k, _, _, Nat.le_refl _, rfl, by rw [Nat.sub_self], ?_, (Below.refl _ _).alloc (Nat.le_refl _) _⟩
          rw [Nat.sub_self]
          exact own_new' w.heap.size w w.heap.size rfl (Nat.le_refl _) _ _ (hd_eq k 255 255 rfl hk)
        case round =>
          obtain ⟨i, g, cap, hi, rfl, rfl, hown, hb⟩ := hrel
          have HOwn := Lib.hid hown
          clear hown
          by_cases hi0 : i = 0
          · have hi1 : (i : Int) < 1 := by omega
            have HI := Lib.hid hi0
            clear hi0
            go_wp2
            try rw [Exit.noGoto_ret]
            go_ret
            have ho := HOwn.out
            rw [HI.out, Nat.sub_zero] at ho
            have el : (UInt8.ofNat (128 + k) ^^^ 255) :: digs m k 255 k = encOf m 255 := by rw [encOf, HND.out]
            rw [el] at ho
            have hlen : (encOf m 255).length = 1 + k := by rw [← el]; simp [digs_length]; omega
            refine ⟨g, cap, ?_, by rw [hlen]; exact ho, hb⟩
            rw [hlen, HI.out]
            rfl
          · exfalso; omega
      · have hq1 := hq h0
        have hk1 : 0 < k := by omega
        clear hq h0
        go_wp2
        go_loopw [6, 7] (fun v c wr => ∃ i g cap, i ≤ k ∧ c = .int .i64 ((i : Int) - 1) ∧ v = .slice (some ⟨g, 0, none⟩) (1 + (k - i)) cap ∧ OwnB w.heap.size (.slice (some ⟨g, 0, none⟩) (1 + (k - i)) cap) ((UInt8.ofNat (128 + k) ^^^ 255) :: digs m k 255 (k - i)) wr ∧ Below w.heap.size w wr) (fun _ c _ => (intOf c + 1).toNat)
        case atStart =>
          refine ⟨k, _, _, Nat.le_refl _, rfl, by rw [Nat.sub_self], ?_, (Below.refl _ _).alloc (Nat.le_refl _) _⟩
          rw [Nat.sub_self]
          exact own_new' w.heap.size w w.heap.size rfl (Nat.le_refl _) _ _ (hd_eq k 255 255 rfl hk)
        case round =>
          obtain ⟨i, g, cap, hi, rfl, rfl, hown, hb⟩ := hrel
          have HOwn := Lib.hid hown
          clear hown
          by_cases hi0 : i = 0
          · have hi1 : (i : Int) < 1 := by omega
            have HI := Lib.hid hi0
            clear hi0
            go_wp2
            try rw [Exit.noGoto_ret]
            go_ret
            have ho := HOwn.out
            rw [HI.out, Nat.sub_zero] at ho
            have el : (UInt8.ofNat (128 + k) ^^^ 255) :: digs m k 255 k = encOf m 255 := by rw [encOf, HND.out]
            rw [el] at ho
            have hlen : (encOf m 255).length = 1 + k := by rw [← el]; simp [digs_length]; omega
            refine ⟨g, cap, ?_, by rw [hlen]; exact ho, hb⟩
            rw [hlen, HI.out]
            rfl
          · have hi1 : 1 ≤ i := by omega
            clear hi0
            go_wp2_with ((with_reducible show wpList _ _ _ ((⟨_, Op.call _, _, _, _, _⟩ : Oper) :: _) _ _); refine append_byte w.heap.size _ _ (1 + (k - i)) (by simp [digs_length]; omega) HOwn.out rfl (.tmp 36) (.tmp 44) rfl rfl (UInt8.ofNat (m / 256 ^ (i - 1)) ^^^ 255) _ (dg_eq m (i - 1) 255 255 rfl) rfl (by simp [digs_length]; omega) hb.size w hb ?_; intro g' cap' w1 hown1 hb1; have HOwn1 := Lib.hid hown1; clear hown1)
            go_roundw
            case rel =>
              have ho := HOwn1.out
              have el : (UInt8.ofNat (128 + k) ^^^ 255) :: digs m k 255 (k - i) ++ [UInt8.ofNat (m / 256 ^ (i - 1)) ^^^ 255] = (UInt8.ofNat (128 + k) ^^^ 255) :: digs m k 255 (k - (i - 1)) := by
                rw [show k - (i - 1) = (k - i) + 1 by omega, digs_succ, show k - 1 - (k - i) = i - 1 by omega]; rfl
              rw [el] at ho
              exact ⟨i - 1, g', cap', by omega, by go_num, by rw [show 1 + (k - (i - 1)) = 1 + (k - i) + 1 by omega], by rw [show 1 + (k - (i - 1)) = 1 + (k - i) + 1 by omega]; exact ho, hb1⟩
            case measure => simp [intOf]; omega
/-- wire.Int -/
theorem wint_any (n : Int) (h0 : -9223372036854775808 ≤ n) (h1 : n < 9223372036854775808) (w : World) : Calls Tryd.prog 101 #[.int .i64 n] w (RetB (encInt n) w) := by
  unfold encInt
  by_cases hn : 0 ≤ n
  · rw [if_pos hn]
    obtain ⟨m, rfl⟩ : ∃ m : Nat, n = m := ⟨n.toNat, by omega⟩
    exact wint_pos m (by omega) w
  · rw [if_neg hn]
    obtain ⟨m, rfl⟩ : ∃ m : Nat, n = -1 - (m : Int) := ⟨(-1 - n).toNat, by omega⟩
    rw [show (-1 - (-1 - (m : Int))).toNat = m by omega]
    exact wint_neg m (by omega) w
end Go.Proofs.YtfkpeabkcdhcfaaDoor
namespace Go.Proofs.YtfkpeabkcdhcfaaDoor
open Go.RowKit
set_option maxRecDepth 100000
/-- a call that hands back a slice which owns the integers l -/
def RetI (l : List Int) (w : World) (e : Ending) (w' : World) : Prop := ∃ v, e = .returned v ∧ OwnI w.heap.size v l w' ∧ Below w.heap.size w w'
theorem CellsAt.alloc {w : World} {a : Addr} {l : List Value} (h : CellsAt w a l) (o : Obj) : CellsAt (w.alloc o) a l := fun j u hj => by
  have hc := h j u hj
  rw [World.cell?_alloc_lt _ _ _ (World.block_lt_of_cell? w _ hc)]; exact hc
theorem ownI_empty (base : Nat) (w : World) (hb : base ≤ w.heap.size) : OwnI base (.slice (some ⟨w.heap.size, 0, none⟩) 0 0) [] (w.alloc (.cells #[] 3)) :=
  ⟨rfl, .inr ⟨w.heap.size, 0, #[], rfl, hb, heap_alloc_new _ _, Nat.le_refl _, by unfold maxLen; omega, rfl, rfl⟩⟩
set_option maxHeartbeats 1000000 in
theorem clone_nil (w : World) : Calls Tryd.prog 73 #[.slice none 0 0] w (RetI [] w) := by
  have hq : ∀ (wx : World) (a : Option Addr) (n c : Nat), (binOp .eql 22 (.slice a n c) (.slice none 0 0)).run Tryd.prog wx = .ok (.bool a.isNone) wx := fun wx a n c => Lib.run_eql_slice_nil wx _ _ a n c 0 0 Tryd.underlying22
  go_enter Tryd.func73, Tryd.ntmps73
  go_wp2
  go_ret
  exact ⟨_, rfl, World.ownsRow_nil _ _ _ _, Below.refl _ _⟩
set_option maxHeartbeats 1000000 in
theorem clone_some (ad : Addr) (cap : Nat) (l : List Int) (hl : l.length ≤ 1000000) (w : World) (hc : CellsAt w ad (l.map (Value.int .i64))) : Calls Tryd.prog 73 #[.slice (some ad) l.length cap] w (RetI l w) := by
  have hq : ∀ (wx : World) (a : Option Addr) (n c : Nat), (binOp .eql 22 (.slice a n c) (.slice none 0 0)).run Tryd.prog wx = .ok (.bool a.isNone) wx := fun wx a n c => Lib.run_eql_slice_nil wx _ _ a n c 0 0 Tryd.underlying22
  have HC := Lib.hid hc
  clear hc
  go_enter Tryd.func73, Tryd.ntmps73
  go_wp2_with ((with_reducible show wpList _ _ _ ((⟨_, Op.call _, _, _, _, _⟩ : Oper) :: _) _ _); refine append_ints w.heap.size _ [] (ownI_empty w.heap.size w (Nat.le_refl _)) rfl (.tmp 5) (.tmp 6) rfl rfl l ad cap rfl (HC.out.alloc _) (by simp; omega) (by simp) w ((Below.refl _ _).alloc (Nat.le_refl _) _) ?_; intro v' w1 hown1 _ hb1; have HOwn1 := Lib.hid hown1; clear hown1)
  go_ret
  exact ⟨_, rfl, HOwn1.out, hb1⟩
/-- slices.Clone at integers -/
theorem clone_any (v : Value) (l : List Int) (hl : l.length ≤ 1000000) (w : World) (hr : ReadI v l w) : Calls Tryd.prog 73 #[v] w (RetI l w) := by
  rcases hr with ⟨rfl, rfl⟩ | ⟨ad, cap, rfl, hc⟩
  · exact clone_nil w
  · exact clone_some ad cap l hl w hc
theorem nd_le : ∀ (k m : Nat), m < 256 ^ k → nd m ≤ k := by
  intro k
  induction k with
  | zero => intro m h; have : m = 0 := by simpa using h
            subst this; unfold nd; simp
  | succ k ih =>
    intro m h
    unfold nd
    by_cases h0 : m = 0
    · rw [if_pos h0]; omega
    · rw [if_neg h0]
      have := ih (m / 256) (by rw [Nat.pow_succ] at h; omega)
      omega
theorem encInt_len (n : Int) (h : -9223372036854775808 ≤ n ∧ n < 9223372036854775808) : (encInt n).length ≤ 9 := by
  unfold encInt encOf
  have h8 : (256 : Nat) ^ 8 = 18446744073709551616 := by decide
  by_cases hn : 0 ≤ n
  · rw [if_pos hn]
    have := nd_le 8 n.toNat (by omega)
    simp [digs_length]; omega
  · rw [if_neg hn]
    have := nd_le 8 (-1 - n).toNat (by omega)
    simp [digs_length]; omega
set_option maxHeartbeats 1000000 in
theorem wbytes_any (s : ByteArray) (hs : s.size ≤ 1000000) (w : World) : Calls Tryd.prog 99 #[.string s] w (RetB (encInt s.size ++ s.data.toList) w) := by
  go_enter Tryd.func99, Tryd.ntmps99
  go_wp2_with fail
  refine (wint_any (s.size : Int) (by omega) (by omega) _).mono ?_
  rintro e w1 ⟨g, cap, rfl, hown, hb⟩
  have HOwn := Lib.hid hown
  clear hown
  have hlen : 0 < (encInt s.size).length := by
    unfold encInt encOf; split <;> simp
  have hle := encInt_len s.size (by omega)
  go_wp2_with ((with_reducible show wpList _ _ _ ((⟨_, Op.call _, _, _, _, _⟩ : Oper) :: _) _ _); refine append_str w.heap.size _ _ (encInt s.size).length rfl hlen HOwn.out rfl (.tmp 5) (.tmp 6) rfl rfl s rfl (by omega) hb.size w hb ?_; intro g' cap' w2 hown2 hb2; have HOwn2 := Lib.hid hown2; clear hown2)
  go_ret
  have el : (encInt (s.size : Int) ++ s.data.toList).length = (encInt (s.size : Int)).length + s.size := by rw [List.length_append, ← Lib.size_eq]
  refine ⟨g', cap', ?_, by rw [el]; exact HOwn2.out, hb2⟩
  rw [el]
  rfl
end Go.Proofs.YtfkpeabkcdhcfaaDoor
namespace Go.Proofs.YtfkpeabkcdhcfaaDoor
open Go.RowKit
set_option maxRecDepth 100000
/-- the encoding of a list of integers -/
def encInts (l : List Int) : List UInt8 := encInt l.length ++ l.flatMap encInt
def Ok64 (l : List Int) : Prop := ∀ n ∈ l, -9223372036854775808 ≤ n ∧ n < 9223372036854775808
theorem flat_len (l : List Int) (h : Ok64 l) : (l.flatMap encInt).length ≤ 9 * l.length := by
  induction l with
  | nil => simp
  | cons a l ih =>
    have h1 := encInt_len a (h a (by simp))
    have h2 := ih (fun n hn => h n (by simp [hn]))
    simp only [List.flatMap_cons, List.length_append, List.length_cons]
    omega
theorem encInt_pos (n : Int) : 0 < (encInt n).length := by
  unfold encInt encOf; split <;> simp
theorem OwnB.later {base : Nat} {v : Value} {l : List UInt8} {w w' : World} (h : OwnB base v l w) (hb : Below w.heap.size w w') : OwnB base v l w' := by
  refine ⟨h.1, ?_⟩
  rcases h.2 with h2 | ⟨g, cap, cur, h3, h4, h5, h6⟩
  · exact .inl h2
  · exact .inr ⟨g, cap, cur, h3, h4, (hb.block g (lt_of_block h5)).trans h5, h6⟩
theorem OwnI.later {base : Nat} {v : Value} {l : List Int} {w w' : World} (h : OwnI base v l w) (hb : Below w.heap.size w w') : OwnI base v l w' := by
  refine ⟨h.1, ?_⟩
  rcases h.2 with h2 | ⟨g, cap, cur, h3, h4, h5, h6⟩
  · exact .inl h2
  · exact .inr ⟨g, cap, cur, h3, h4, (hb.block g (lt_of_block h5)).trans h5, h6⟩
theorem OwnB.cells {base g n cap : Nat} {l : List UInt8} {w : World} (h : OwnB base (.slice (some ⟨g, 0, none⟩) n cap) l w) : CellsAt w ⟨g, 0, none⟩ (l.map u8v) := World.ownsRow.cells h (g := g) rfl
theorem OwnI.cells {base g n cap : Nat} {l : List Int} {w : World} (h : OwnI base (.slice (some ⟨g, 0, none⟩) n cap) l w) : CellsAt w ⟨g, 0, none⟩ (l.map (Value.int .i64)) := World.ownsRow.cells h (g := g) rfl
theorem take_flat (l : List Int) (i : Nat) (h : i < l.length) : (l.take (i + 1)).flatMap encInt = (l.take i).flatMap encInt ++ encInt (l.getD i 0) := by
  rw [List.take_succ_eq_append_getElem h, List.flatMap_append, List.getD_eq_getElem?_getD, List.getElem?_eq_getElem h]
  simp
set_option maxHeartbeats 1000000 in
theorem wints_any (base g cap : Nat) (l : List Int) (hl : l.length ≤ 1000) (h64 : Ok64 l) (w : World) (hown : OwnI base (.slice (some ⟨g, 0, none⟩) l.length cap) l w) (hg : g < w.heap.size) :
    Calls Tryd.prog 72 #[.slice (some ⟨g, 0, none⟩) l.length cap] w (RetB (encInts l) w) := by
  have HI := Lib.hid hown
  clear hown
  go_enter Tryd.func72, Tryd.ntmps72
  go_wp2_with fail
  refine (wint_any (l.length : Int) (by omega) (by omega) _).mono ?_
  rintro e w1 ⟨g0, cap0, rfl, hown, hb⟩
  have HOwn := Lib.hid hown
  have HB := Lib.hid hb
  clear hown hb
  obtain ⟨m0, hm0⟩ : ∃ m0, m0 = (encInt (l.length : Int)).length := ⟨_, rfl⟩
  rw [← hm0] at HOwn ⊢
  have HM := Lib.hid hm0
  clear hm0
  go_wp2_with fail
  go_loopw [3, 11] (fun v c wr => ∃ (i : Nat) (g1 n1 cap1 : Nat), i ≤ l.length ∧ c = .int .i64 i ∧ v = .slice (some ⟨g1, 0, none⟩) n1 cap1 ∧ n1 = (encInt (l.length : Int) ++ (l.take i).flatMap encInt).length ∧ OwnB w.heap.size (.slice (some ⟨g1, 0, none⟩) n1 cap1) (encInt (l.length : Int) ++ (l.take i).flatMap encInt) wr ∧ Below w.heap.size w wr) (fun _ c _ => l.length - (intOf c).toNat)
  case atStart => exact ⟨0, g0, m0, cap0, Nat.zero_le _, rfl, rfl, by simp [HM.out], by simpa using HOwn.out, HB.out⟩
  case round =>
    obtain ⟨i, g1, n1, cap1, hi, rfl, rfl, hn1, hown, hb⟩ := hrel
    have HN := Lib.hid hn1
    have HO := Lib.hid hown
    clear hn1 hown HOwn HB
    by_cases hlt : i < l.length
    · have hx : l.getD i 0 ∈ l := by rw [List.getD_eq_getElem?_getD, List.getElem?_eq_getElem hlt]; exact List.getElem_mem hlt
      have hxb := h64 _ hx
      obtain ⟨x, hxx⟩ : ∃ x, x = l.getD i 0 := ⟨_, rfl⟩
      have hcx : wr.cell? ⟨g, i, none⟩ = some (.int .i64 x) := by rw [hb.cell (p := ⟨g, i, none⟩) hg, HI.out.cell i hlt, hxx]
      rw [← hxx] at hxb
      have HX := Lib.hid hxx
      clear hxx hx
      go_wp2_with fail
      refine (wint_any x hxb.1 hxb.2 _).mono ?_
      rintro e w2 ⟨g2, cap2, rfl, hown2, hb2⟩
      have hn1 : n1 ≤ 9 + 9 * 1000 := by
        have h1 := encInt_len (l.length : Int) (by omega)
        have h2 := flat_len (l.take i) (fun n hn => h64 n (List.mem_of_mem_take hn))
        have h3 : (l.take i).length ≤ 1000 := by rw [List.length_take]; omega
        rw [HN.out, List.length_append]; omega
      have hx9 := encInt_len x hxb
      have hb3 : Below w.heap.size w w2 := hb.trans (hb2.mono hb.size)
      have HO2 := Lib.hid (HO.out.later hb2)
      have HC := Lib.hid hown2.cells
      clear hown2 hb2
      go_wp2_with ((with_reducible show wpList _ _ _ ((⟨_, Op.call _, _, _, _, _⟩ : Oper) :: _) _ _); refine append_bytes w.heap.size _ _ n1 HN.out.symm HO2.out rfl (.tmp 15) (.tmp 17) rfl rfl (encInt x) ⟨g2, 0, none⟩ cap2 rfl HC.out (encInt_pos x) (by have := HN.out; omega) hb3.size w hb3 ?_; intro g3 cap3 w3 hown3 hb4; have HO3 := Lib.hid hown3; clear hown3)
      go_roundw
      case rel =>
        refine ⟨i + 1, g3, _, cap3, by omega, by go_num, rfl, ?_, ?_, hb4⟩
        · rw [take_flat l i hlt, ← List.append_assoc, List.length_append, HN.out, HX.out]
        · rw [take_flat l i hlt, ← List.append_assoc, ← HX.out]; exact HO3.out
      case measure => simp [intOf]; omega
    · obtain rfl : i = l.length := by omega
      have HO4 := HO.out
      have HN4 := HN.out
      rw [List.take_length] at HO4 HN4
      have H4 := Lib.hid HO4
      have H5 := Lib.hid HN4
      clear HO4 HN4
      go_wp2
      go_ret
      refine ⟨g1, cap1, ?_, ?_, hb⟩
      · rw [show (encInts l).length = n1 from H5.out.symm]; rfl
      · have := H4.out
        rw [H5.out] at this
        exact this
end Go.Proofs.YtfkpeabkcdhcfaaDoor
