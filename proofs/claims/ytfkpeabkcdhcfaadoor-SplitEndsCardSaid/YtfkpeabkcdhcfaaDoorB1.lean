/-
  Walk of wire.Int: the encoding of an integer, for every integer; nothing that was there changes.
-/
import Derived.Test.YtfkpeabkcdhcfaaDoorA
import Derived.WalkMore
namespace Go.Proofs.YtfkpeabkcdhcfaaDoor
open Go.RowKit
set_option maxRecDepth 100000
/-- the number of digits to the base 256 -/
def nd (m : Nat) : Nat := if m = 0 then 0 else nd (m / 256) + 1
termination_by m
theorem nd_unique : ∀ (k m : Nat), m < 256 ^ k → (k = 0 ∨ 256 ^ (k - 1) ≤ m) → nd m = k := by
  intro k
  induction k with
  | zero => intro m h _; have : m = 0 := by simpa using h
            subst this; unfold nd; simp
  | succ k ih =>
    intro m h h1
    have h2 : 256 ^ k ≤ m := by rcases h1 with h1 | h1 <;> simp at h1; exact h1
    have hp : 0 < 256 ^ k := Nat.pow_pos (by omega)
    unfold nd
    rw [if_neg (by omega), ih (m / 256) (by rw [Nat.pow_succ] at h; omega) (by
      rcases Nat.eq_zero_or_pos k with h0 | h0
      · exact .inl h0
      · right
        obtain ⟨j, rfl⟩ : ∃ j, k = j + 1 := ⟨k - 1, by omega⟩
        rw [Nat.pow_succ] at h2
        simp only [Nat.add_sub_cancel]
        omega)]
/-- the digits of a number, t of them, the highest first, combined with a byte -/
def digs (m k : Nat) (f : UInt8) (t : Nat) : List UInt8 := (List.range t).map fun j => UInt8.ofNat (m / 256 ^ (k - 1 - j)) ^^^ f
def encOf (m : Nat) (f : UInt8) : List UInt8 := (UInt8.ofNat (128 + nd m) ^^^ f) :: digs m (nd m) f (nd m)
/-- the encoding of an integer -/
def encInt (n : Int) : List UInt8 := if 0 ≤ n then encOf n.toNat 0 else encOf (-1 - n).toNat 255
theorem div_cast (m e : Nat) : ((m / 2 ^ e : Nat) : Int) = (m : Int) / 2 ^ e := by simp
/-- a result that owns the bytes l -/
def RetB (l : List UInt8) (w : World) (e : Ending) (w' : World) : Prop := ∃ g cap, e = .returned (.slice (some ⟨g, 0, none⟩) l.length cap) ∧ OwnB w.heap.size (.slice (some ⟨g, 0, none⟩) l.length cap) l w' ∧ Below w.heap.size w w'
theorem bits8 (x y : UInt8) : bits .xor .u8 (x.toNat : Int) (y.toNat : Int) = ((x ^^^ y).toNat : Int) := by
  unfold bits
  have ex : BitVec.ofInt IntKind.u8.bits (x.toNat : Int) = x.toBitVec := by
    apply BitVec.eq_of_toNat_eq
    have h := x.toNat_lt
    simp only [BitVec.toNat_ofInt, IntKind.bits]
    show ((x.toNat : Int) % _).toNat = x.toNat
    omega
  have ey : BitVec.ofInt IntKind.u8.bits (y.toNat : Int) = y.toBitVec := by
    apply BitVec.eq_of_toNat_eq
    have h := y.toNat_lt
    simp only [BitVec.toNat_ofInt, IntKind.bits]
    show ((y.toNat : Int) % _).toNat = y.toNat
    omega
  rw [ex, ey, IntKind.wrap_u8]
  have key : ∀ z : BitVec 8, ((z.toNat : Nat) : Int) % 256 = (z.toNat : Int) := by
    intro z; have := z.isLt; omega
  exact key _
theorem hd_eq (k : Nat) (f : UInt8) (fi : Int) (hf : fi = (f.toNat : Int)) (hk : k ≤ 8) : bits BinOp.xor IntKind.u8 (128 + (k : Int)) fi = ((UInt8.ofNat (128 + k) ^^^ f).toNat : Int) := by
  rw [hf, ← bits8, UInt8.toNat_ofNat']
  congr 1
  omega
theorem dg_eq (m e : Nat) (f : UInt8) (fi : Int) (hf : fi = (f.toNat : Int)) : bits BinOp.xor IntKind.u8 ((m : Int) / 2 ^ (8 * e) % 256) fi = ((UInt8.ofNat (m / 256 ^ e) ^^^ f).toNat : Int) := by
  rw [hf, ← bits8, UInt8.toNat_ofNat', ← div_cast, Nat.pow_mul]
  rfl
theorem digs_succ (m k : Nat) (f : UInt8) (t : Nat) : digs m k f (t + 1) = digs m k f t ++ [UInt8.ofNat (m / 256 ^ (k - 1 - t)) ^^^ f] := by
  simp [digs, List.range_succ]
theorem digs_length (m k : Nat) (f : UInt8) (t : Nat) : (digs m k f t).length = t := by simp [digs]
theorem not64 (m : Nat) (hm : m < 9223372036854775808) : bits BinOp.xor IntKind.u64 IntKind.u64.max (IntKind.u64.wrap (-1 - (m : Int))) = (m : Int) := by
  have e1 : IntKind.u64.wrap (-1 - (m : Int)) = ((18446744073709551615 - m : Nat) : Int) := by
    have : IntKind.u64.wrap (-1 - (m : Int)) = (-1 - (m : Int)) % 18446744073709551616 := by simp [IntKind.wrap, IntKind.bits, IntKind.signed]
    rw [this]; omega
  rw [e1]
  unfold bits
  have ex : BitVec.ofInt IntKind.u64.bits IntKind.u64.max = BitVec.allOnes 64 := rfl
  have ey : BitVec.ofInt IntKind.u64.bits ((18446744073709551615 - m : Nat) : Int) = BitVec.ofNat 64 (18446744073709551615 - m) := rfl
  have ez : ∀ z : Int, IntKind.u64.wrap z = z % 18446744073709551616 := fun z => by simp [IntKind.wrap, IntKind.bits, IntKind.signed]
  have hx : ((BitVec.allOnes 64) ^^^ (BitVec.ofNat 64 (18446744073709551615 - m))).toNat = m := by
    rw [BitVec.allOnes_xor, BitVec.toNat_not, BitVec.toNat_ofNat]
    omega
  rw [ex, ey, ez]
  show (((BitVec.allOnes 64) ^^^ (BitVec.ofNat 64 (18446744073709551615 - m))).toNat : Int) % _ = _
  rw [hx]
  omega
set_option maxHeartbeats 2000000 in
theorem wint_pos (m : Nat) (hm : m < 9223372036854775808) (w : World) : Calls Tryd.prog 101 #[.int .i64 (m : Int)] w (RetB (encOf m 0) w) := by
  go_enter Tryd.func101, Tryd.ntmps101
  go_wp2
  go_step3
  go_wp2
  go_step3
  go_wp2
  go_loop [5] (fun c => ∃ k : Nat, k ≤ 8 ∧ c = .int .i64 k ∧ m < 256 ^ k) (fun c => (intOf c).toNat)
  case atStart => exact ⟨8, Nat.le_refl _, rfl, by omega⟩
  case round =>
    obtain ⟨k, hk, rfl, hmk⟩ := hrel
    have HMK := Lib.hid hmk
    clear hmk
    by_cases hgo : k ≠ 0 ∧ m / 2 ^ (8 * (k - 1)) = 0
    · obtain ⟨hk0, hz⟩ := hgo
      have hzi : (m : Int) / 2 ^ (8 * (k - 1)) = 0 := by rw [← div_cast, hz]; rfl
      have hk1 : 0 < k := by omega
      have HZ := Lib.hid hz
      clear hz
      go_wp2
      go_round
      case rel =>
        refine ⟨k - 1, by omega, by go_num, ?_⟩
        have h := HZ.out
        rw [Nat.pow_mul, show (2 ^ 8 : Nat) = 256 from rfl] at h
        have hp : 0 < 256 ^ (k - 1) := Nat.pow_pos (by omega)
        rcases Nat.lt_or_ge m (256 ^ (k - 1)) with h1 | h1
        · exact h1
        · have := Nat.div_pos h1 hp; omega
      case measure => simp [intOf]; omega
    · have hnd : nd m = k := by
        apply nd_unique k m HMK.out
        by_cases h0 : k = 0
        · exact .inl h0
        · right
          have h1 : m / 2 ^ (8 * (k - 1)) ≠ 0 := fun h => hgo ⟨h0, h⟩
          rw [Nat.pow_mul, show (2 ^ 8 : Nat) = 256 from rfl] at h1
          rcases Nat.lt_or_ge m (256 ^ (k - 1)) with h2 | h2
          · exact absurd (Nat.div_eq_of_lt h2) h1
          · exact h2
      have HND := Lib.hid hnd
      have hq : k ≠ 0 → (0 : Int) < (m : Int) / 2 ^ (8 * (k - 1)) := fun h0 => by
        have h1 : m / 2 ^ (8 * (k - 1)) ≠ 0 := fun h => hgo ⟨h0, h⟩
        rw [← div_cast]; exact Int.natCast_pos.2 (Nat.pos_of_ne_zero h1)
      clear hnd hgo
      by_cases h0 : k = 0
      · have hk0 : (k : Int) < 1 := by omega
        clear hq h0
        go_wp2
        go_loopw [6, 7] (fun v c wr => ∃ i g cap, i ≤ k ∧ c = .int .i64 ((i : Int) - 1) ∧ v = .slice (some ⟨g, 0, none⟩) (1 + (k - i)) cap ∧ OwnB w.heap.size (.slice (some ⟨g, 0, none⟩) (1 + (k - i)) cap) ((UInt8.ofNat (128 + k) ^^^ 0) :: digs m k 0 (k - i)) wr ∧ Below w.heap.size w wr) (fun _ c _ => (intOf c + 1).toNat)
        case atStart =>
          refine ⟨k, _, _, Nat.le_refl _, rfl, by rw [Nat.sub_self], ?_, (Below.refl _ _).alloc (Nat.le_refl _) _⟩
          rw [Nat.sub_self]
          exact own_new' w.heap.size w w.heap.size rfl (Nat.le_refl _) _ _ (hd_eq k 0 0 rfl hk)
        case round =>
          obtain ⟨i, g, cap, hi, rfl, rfl, hown, hb⟩ := hrel
          have HOwn := Lib.hid hown
          clear hown
          by_cases hi0 : i = 0
          · have hi1 : (i : Int) < 1 := by omega
            have HI := Lib.hid hi0
            clear hi0
            go_wp2
            try rw [Exit.noGoto_ret]
            go_ret
            have ho := HOwn.out
            rw [HI.out, Nat.sub_zero] at ho
            have el : (UInt8.ofNat (128 + k) ^^^ 0) :: digs m k 0 k = encOf m 0 := by rw [encOf, HND.out]
            rw [el] at ho
            have hlen : (encOf m 0).length = 1 + k := by rw [← el]; simp [digs_length]; omega
            refine ⟨g, cap, ?_, by rw [hlen]; exact ho, hb⟩
            rw [hlen, HI.out]
            rfl
          · exfalso; omega
      · have hq1 := hq h0
        have hk1 : 0 < k := by omega
        clear hq h0
        go_wp2
        go_loopw [6, 7] (fun v c wr => ∃ i g cap, i ≤ k ∧ c = .int .i64 ((i : Int) - 1) ∧ v = .slice (some ⟨g, 0, none⟩) (1 + (k - i)) cap ∧ OwnB w.heap.size (.slice (some ⟨g, 0, none⟩) (1 + (k - i)) cap) ((UInt8.ofNat (128 + k) ^^^ 0) :: digs m k 0 (k - i)) wr ∧ Below w.heap.size w wr) (fun _ c _ => (intOf c + 1).toNat)
        case atStart =>
          refine ⟨k, _, _, Nat.le_refl _, rfl, by rw [Nat.sub_self], ?_, (Below.refl _ _).alloc (Nat.le_refl _) _⟩
          rw [Nat.sub_self]
          exact own_new' w.heap.size w w.heap.size rfl (Nat.le_refl _) _ _ (hd_eq k 0 0 rfl hk)
        case round =>
          obtain ⟨i, g, cap, hi, rfl, rfl, hown, hb⟩ := hrel
          have HOwn := Lib.hid hown
          clear hown
          by_cases hi0 : i = 0
          · have hi1 : (i : Int) < 1 := by omega
            have HI := Lib.hid hi0
            clear hi0
            go_wp2
            try rw [Exit.noGoto_ret]
            go_ret
            have ho := HOwn.out
            rw [HI.out, Nat.sub_zero] at ho
            have el : (UInt8.ofNat (128 + k) ^^^ 0) :: digs m k 0 k = encOf m 0 := by rw [encOf, HND.out]
            rw [el] at ho
            have hlen : (encOf m 0).length = 1 + k := by rw [← el]; simp [digs_length]; omega
            refine ⟨g, cap, ?_, by rw [hlen]; exact ho, hb⟩
            rw [hlen, HI.out]
            rfl
          · have hi1 : 1 ≤ i := by omega
            clear hi0
            go_wp2_with ((with_reducible show wpList _ _ _ ((⟨_, Op.call _, _, _, _, _⟩ : Oper) :: _) _ _); refine append_byte w.heap.size _ _ (1 + (k - i)) (by simp [digs_length]; omega) HOwn.out rfl (.tmp 36) (.tmp 44) rfl rfl (UInt8.ofNat (m / 256 ^ (i - 1)) ^^^ 0) _ (dg_eq m (i - 1) 0 0 rfl) rfl (by simp [digs_length]; omega) hb.size w hb ?_; intro g' cap' w1 hown1 hb1; have HOwn1 := Lib.hid hown1; clear hown1)
            go_roundw
            case rel =>
              have ho := HOwn1.out
              have el : (UInt8.ofNat (128 + k) ^^^ 0) :: digs m k 0 (k - i) ++ [UInt8.ofNat (m / 256 ^ (i - 1)) ^^^ 0] = (UInt8.ofNat (128 + k) ^^^ 0) :: digs m k 0 (k - (i - 1)) := by
                rw [show k - (i - 1) = (k - i) + 1 by omega, digs_succ, show k - 1 - (k - i) = i - 1 by omega]; rfl
              rw [el] at ho
              exact ⟨i - 1, g', cap', by omega, by go_num, by rw [show 1 + (k - (i - 1)) = 1 + (k - i) + 1 by omega], by rw [show 1 + (k - (i - 1)) = 1 + (k - i) + 1 by omega]; exact ho, hb1⟩
            case measure => simp [intOf]; omega
set_option maxHeartbeats 2000000 in
theorem wint_neg (m : Nat) (hm : m < 9223372036854775808) (w : World) : Calls Tryd.prog 101 #[.int .i64 (-1 - (m : Int))] w (RetB (encOf m 255) w) := by
  have hw : bits BinOp.xor IntKind.u64 IntKind.u64.max (IntKind.u64.wrap (-1 - (m : Int))) = (m : Int) := not64 m hm
  have hneg : -1 - (m : Int) < 0 := by omega
  go_enter Tryd.func101, Tryd.ntmps101
  go_wp2
  go_step3
  go_wp2
  go_step3
  go_wp2
  go_loop [5] (fun c => ∃ k : Nat, k ≤ 8 ∧ c = .int .i64 k ∧ m < 256 ^ k) (fun c => (intOf c).toNat)
  case atStart => exact ⟨8, Nat.le_refl _, rfl, by omega⟩
  case round =>
    obtain ⟨k, hk, rfl, hmk⟩ := hrel
    have HMK := Lib.hid hmk
    clear hmk
    by_cases hgo : k ≠ 0 ∧ m / 2 ^ (8 * (k - 1)) = 0
    · obtain ⟨hk0, hz⟩ := hgo
      have hzi : (m : Int) / 2 ^ (8 * (k - 1)) = 0 := by rw [← div_cast, hz]; rfl
      have hk1 : 0 < k := by omega
      have HZ := Lib.hid hz
      clear hz
      go_wp2
      go_round
      case rel =>
        refine ⟨k - 1, by omega, by go_num, ?_⟩
        have h := HZ.out
        rw [Nat.pow_mul, show (2 ^ 8 : Nat) = 256 from rfl] at h
        have hp : 0 < 256 ^ (k - 1) := Nat.pow_pos (by omega)
        rcases Nat.lt_or_ge m (256 ^ (k - 1)) with h1 | h1
        · exact h1
        · have := Nat.div_pos h1 hp; omega
      case measure => simp [intOf]; omega
    · have hnd : nd m = k := by
        apply nd_unique k m HMK.out
        by_cases h0 : k = 0
        · exact .inl h0
        · right
          have h1 : m / 2 ^ (8 * (k - 1)) ≠ 0 := fun h => hgo ⟨h0, h⟩
          rw [Nat.pow_mul, show (2 ^ 8 : Nat) = 256 from rfl] at h1
          rcases Nat.lt_or_ge m (256 ^ (k - 1)) with h2 | h2
          · exact absurd (Nat.div_eq_of_lt h2) h1
          · exact h2
      have HND := Lib.hid hnd
      have hq : k ≠ 0 → (0 : Int) < (m : Int) / 2 ^ (8 * (k - 1)) := fun h0 => by
        have h1 : m / 2 ^ (8 * (k - 1)) ≠ 0 := fun h => hgo ⟨h0, h⟩
        rw [← div_cast]; exact Int.natCast_pos.2 (Nat.pos_of_ne_zero h1)
      clear hnd hgo
      by_cases h0 : k = 0
      · have hk0 : (k : Int) < 1 := by omega
        clear hq h0
        go_wp2
        go_loopw [6, 7] (fun v c wr => ∃ i g cap, i ≤ k ∧ c = .int .i64 ((i : Int) - 1) ∧ v = .slice (some ⟨g, 0, none⟩) (1 + (k - i)) cap ∧ OwnB w.heap.size (.slice (some ⟨g, 0, none⟩) (1 + (k - i)) cap) ((UInt8.ofNat (128 + k) ^^^ 255) :: digs m k 255 (k - i)) wr ∧ Below w.heap.size w wr) (fun _ c _ => (intOf c + 1).toNat)
        case atStart =>
          refine ⟨k, _, _, Nat.le_refl _, rfl, by rw [Nat.sub_self], ?_, (Below.refl _ _).alloc (Nat.le_refl _) _⟩
          rw [Nat.sub_self]
          exact own_new' w.heap.size w w.heap.size rfl (Nat.le_refl _) _ _ (hd_eq k 255 255 rfl hk)
        case round =>
          obtain ⟨i, g, cap, hi, rfl, rfl, hown, hb⟩ := hrel
          have HOwn := Lib.hid hown
          clear hown
          by_cases hi0 : i = 0
          · have hi1 : (i : Int) < 1 := by omega
            have HI := Lib.hid hi0
            clear hi0
            go_wp2
            try rw [Exit.noGoto_ret]
            go_ret
            have ho := HOwn.out
            rw [HI.out, Nat.sub_zero] at ho
            have el : (UInt8.ofNat (128 + k) ^^^ 255) :: digs m k 255 k = encOf m 255 := by rw [encOf, HND.out]
            rw [el] at ho
            have hlen : (encOf m 255).length = 1 + k := by rw [← el]; simp [digs_length]; omega
            refine ⟨g, cap, ?_, by rw [hlen]; exact ho, hb⟩
            rw [hlen, HI.out]
            rfl
          · exfalso; omega
      · have hq1 := hq h0
        have hk1 : 0 < k := by omega
        clear hq h0
        go_wp2
        go_loopw [6, 7] (fun v c wr => ∃ i g cap, i ≤ k ∧ c = .int .i64 ((i : Int) - 1) ∧ v = .slice (some ⟨g, 0, none⟩) (1 + (k - i)) cap ∧ OwnB w.heap.size (.slice (some ⟨g, 0, none⟩) (1 + (k - i)) cap) ((UInt8.ofNat (128 + k) ^^^ 255) :: digs m k 255 (k - i)) wr ∧ Below w.heap.size w wr) (fun _ c _ => (intOf c + 1).toNat)
        case atStart =>
          refine ⟨k, _, _, Nat.le_refl _, rfl, by rw [Nat.sub_self], ?_, (Below.refl _ _).alloc (Nat.le_refl _) _⟩
          rw [Nat.sub_self]
          exact own_new' w.heap.size w w.heap.size rfl (Nat.le_refl _) _ _ (hd_eq k 255 255 rfl hk)
        case round =>
          obtain ⟨i, g, cap, hi, rfl, rfl, hown, hb⟩ := hrel
          have HOwn := Lib.hid hown
          clear hown
          by_cases hi0 : i = 0
          · have hi1 : (i : Int) < 1 := by omega
            have HI := Lib.hid hi0
            clear hi0
            go_wp2
            try rw [Exit.noGoto_ret]
            go_ret
            have ho := HOwn.out
            rw [HI.out, Nat.sub_zero] at ho
            have el : (UInt8.ofNat (128 + k) ^^^ 255) :: digs m k 255 k = encOf m 255 := by rw [encOf, HND.out]
            rw [el] at ho
            have hlen : (encOf m 255).length = 1 + k := by rw [← el]; simp [digs_length]; omega
            refine ⟨g, cap, ?_, by rw [hlen]; exact ho, hb⟩
            rw [hlen, HI.out]
            rfl
          · have hi1 : 1 ≤ i := by omega
            clear hi0
            go_wp2_with ((with_reducible show wpList _ _ _ ((⟨_, Op.call _, _, _, _, _⟩ : Oper) :: _) _ _); refine append_byte w.heap.size _ _ (1 + (k - i)) (by simp [digs_length]; omega) HOwn.out rfl (.tmp 36) (.tmp 44) rfl rfl (UInt8.ofNat (m / 256 ^ (i - 1)) ^^^ 255) _ (dg_eq m (i - 1) 255 255 rfl) rfl (by simp [digs_length]; omega) hb.size w hb ?_; intro g' cap' w1 hown1 hb1; have HOwn1 := Lib.hid hown1; clear hown1)
            go_roundw
            case rel =>
              have ho := HOwn1.out
              have el : (UInt8.ofNat (128 + k) ^^^ 255) :: digs m k 255 (k - i) ++ [UInt8.ofNat (m / 256 ^ (i - 1)) ^^^ 255] = (UInt8.ofNat (128 + k) ^^^ 255) :: digs m k 255 (k - (i - 1)) := by
                rw [show k - (i - 1) = (k - i) + 1 by omega, digs_succ, show k - 1 - (k - i) = i - 1 by omega]; rfl
              rw [el] at ho
              exact ⟨i - 1, g', cap', by omega, by go_num, by rw [show 1 + (k - (i - 1)) = 1 + (k - i) + 1 by omega], by rw [show 1 + (k - (i - 1)) = 1 + (k - i) + 1 by omega]; exact ho, hb1⟩
            case measure => simp [intOf]; omega
/-- wire.Int -/
theorem wint_any (n : Int) (h0 : -9223372036854775808 ≤ n) (h1 : n < 9223372036854775808) (w : World) : Calls Tryd.prog 101 #[.int .i64 n] w (RetB (encInt n) w) := by
  unfold encInt
  by_cases hn : 0 ≤ n
  · rw [if_pos hn]
    obtain ⟨m, rfl⟩ : ∃ m : Nat, n = m := ⟨n.toNat, by omega⟩
    exact wint_pos m (by omega) w
  · rw [if_neg hn]
    obtain ⟨m, rfl⟩ : ∃ m : Nat, n = -1 - (m : Int) := ⟨(-1 - n).toNat, by omega⟩
    rw [show (-1 - (-1 - (m : Int))).toNat = m by omega]
    exact wint_neg m (by omega) w
end Go.Proofs.YtfkpeabkcdhcfaaDoor
