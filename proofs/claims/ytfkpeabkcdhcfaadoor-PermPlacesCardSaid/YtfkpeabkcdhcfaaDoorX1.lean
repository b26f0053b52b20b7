/-
  Walk of the reference's Int: the encoding of an integer.
-/
import Derived.Test.YtfkpeabkcdhcfaaDoorB3
import Derived.Deep.Onto
namespace Go.Proofs.YtfkpeabkcdhcfaaDoor
open Go.RowKit
set_option maxRecDepth 100000
theorem nd_iff : ∀ (j m : Nat), j < nd m ↔ 0 < m / 256 ^ j
  | 0, m => by
    unfold nd
    by_cases h : m = 0
    · subst h; simp
    · rw [if_neg h]; simp; omega
  | j + 1, m => by
    unfold nd
    by_cases h : m = 0
    · subst h; simp
    · rw [if_neg h, Nat.pow_succ, Nat.mul_comm, ← Nat.div_div_eq_div_mul]
      have := nd_iff j (m / 256)
      omega
/-- the first k digits, the lowest first -/
def dl (m k : Nat) : List UInt8 := (List.range k).map fun j => UInt8.ofNat (m / 256 ^ j)
theorem dl_length (m k : Nat) : (dl m k).length = k := by simp [dl]
theorem dl_succ (m k : Nat) : dl m (k + 1) = dl m k ++ [UInt8.ofNat (m / 256 ^ k)] := by simp [dl, List.range_succ]
theorem dl_get (m k i : Nat) (h : i < k) : (dl m k).getD i 0 = UInt8.ofNat (m / 256 ^ i) := by simp [dl, List.getD_eq_getElem?_getD, h]
theorem OwnB.form {base : Nat} {v : Value} {l : List UInt8} {w : World} (h : OwnB base v l w) : ∃ ad sc, v = .slice ad l.length sc := by
  rcases h.2 with ⟨h1, h2⟩ | ⟨g, cap, cur, h1, _⟩
  · exact ⟨none, 0, by rw [h1, h2]⟩
  · exact ⟨_, cap, h1⟩
theorem OwnB.some_ {base : Nat} {v : Value} {l : List UInt8} {w : World} (h : OwnB base v l w) (hl : 0 < l.length) : ∃ g cap, v = .slice (some ⟨g, 0, none⟩) l.length cap ∧ g < w.heap.size := by
  rcases h.2 with ⟨h1, h2⟩ | ⟨g, cap, cur, h1, _, h3, _⟩
  · omega
  · exact ⟨g, cap, h1, lt_of_block h3⟩
theorem dig_val (m j : Nat) : ((m / 256 ^ j : Nat) : Int) % 256 = ((UInt8.ofNat (m / 256 ^ j)).toNat : Int) := by
  rw [UInt8.toNat_ofNat']
  omega
theorem hd_pos (k : Nat) (hk : k ≤ 8) : 128 + (k : Int) = ((UInt8.ofNat (128 + k) ^^^ 0).toNat : Int) := by
  rcases (show k = 0 ∨ k = 1 ∨ k = 2 ∨ k = 3 ∨ k = 4 ∨ k = 5 ∨ k = 6 ∨ k = 7 ∨ k = 8 by omega) with rfl | rfl | rfl | rfl | rfl | rfl | rfl | rfl | rfl <;> rfl
theorem hd_neg (k : Nat) (hk : k ≤ 8) : 127 - (k : Int) = ((UInt8.ofNat (128 + k) ^^^ 255).toNat : Int) := by
  rcases (show k = 0 ∨ k = 1 ∨ k = 2 ∨ k = 3 ∨ k = 4 ∨ k = 5 ∨ k = 6 ∨ k = 7 ∨ k = 8 by omega) with rfl | rfl | rfl | rfl | rfl | rfl | rfl | rfl | rfl <;> rfl
theorem dg_neg (x : UInt8) : 255 - (x.toNat : Int) = ((x ^^^ 255).toNat : Int) := by
  have key : ∀ y : Fin 256, 255 - ((UInt8.ofNat y.val).toNat : Int) = ((UInt8.ofNat y.val ^^^ 255).toNat : Int) := by decide +kernel
  have h := key ⟨x.toNat, x.toNat_lt⟩
  simpa using h
set_option maxHeartbeats 2000000 in
theorem rint_pos (m : Nat) (hm : m < 9223372036854775808) (w : World) : Calls Tryd.prog 124 #[.int .i64 (m : Int)] w (RetB (encOf m 0) w) := by
  have hnd : nd m ≤ 8 := nd_le 8 m (by omega)
  go_enter Tryd.func124, Tryd.ntmps124
  go_wp2_with fail
  go_loopw [3, 4] (fun c d wr => ∃ j : Nat, j ≤ nd m ∧ c = .int .i64 (m / 256 ^ j : Nat) ∧ OwnB w.heap.size d (dl m j) wr ∧ Below w.heap.size w wr) (fun c _ _ => (intOf c).toNat)
  case atStart => exact ⟨0, by omega, by simp, World.ownsRow_nil _ _ _ _, Below.refl _ _⟩
  case round =>
    obtain ⟨j, hj, rfl, hown, hb⟩ := hrel
    have HO := Lib.hid hown
    have HB := Lib.hid hb
    clear hown hb
    have hmj : m / 256 ^ j ≤ m := Nat.div_le_self _ _
    by_cases hlt : j < nd m
    · have hpos := (nd_iff j m).1 hlt
      have hdv := dig_val m j
      have hdd : (m / 256 ^ j) / 256 = m / 256 ^ (j + 1) := by rw [Nat.pow_succ, Nat.div_div_eq_div_mul]
      obtain ⟨q, hq⟩ : ∃ q, q = m / 256 ^ j := ⟨_, rfl⟩
      rw [← hq] at hmj hpos hdv hdd ⊢
      have HQ := Lib.hid hq
      have HDV := Lib.hid hdv
      have HDD := Lib.hid hdd
      clear hq hdv hdd
      go_wp2_with ((with_reducible show wpList _ _ _ ((⟨_, Op.call _, _, _, _, _⟩ : Oper) :: _) _ _); refine append_byte w.heap.size _ (dl m j) j (dl_length m j) HO.out rfl (.tmp 16) (.tmp 20) rfl (by obtain ⟨ad, sc, rfl⟩ := HO.out.form; rw [dl_length]; rfl) (UInt8.ofNat q) _ HDV.out rfl (by rw [dl_length]; omega) HB.out.size w HB.out ?_; intro g cap w2 hown2 hb2; have HO2 := Lib.hid hown2; have HB2 := Lib.hid hb2; clear hown2 hb2)
      go_roundw
      case rel => exact ⟨j + 1, by omega, by rw [← HDD.out]; go_num, by rw [dl_succ, ← HQ.out]; exact HO2.out, HB2.out⟩
      case measure => simp [intOf]; omega
    · obtain rfl : j = nd m := by omega
      have h0 : m / 256 ^ nd m = 0 := Nat.eq_zero_of_not_pos fun h => Nat.lt_irrefl _ ((nd_iff (nd m) m).2 h)
      obtain ⟨wo, rfl⟩ : ∃ wo : World, wo = wr := ⟨_, rfl⟩
      obtain ⟨ad, sc, rfl⟩ := HO.out.form
      have hget : ∀ i, i < nd m → (dl m (nd m)).getD i 0 = UInt8.ofNat (m / 256 ^ i) := fun i hi => dl_get m (nd m) i hi
      have hsome : 0 < nd m → ∃ g, ad = some ⟨g, 0, none⟩ ∧ g < wo.heap.size ∧ ∀ i, i < nd m → wo.cell? ⟨g, i, none⟩ = some (.int .u8 ((UInt8.ofNat (m / 256 ^ i)).toNat : Int)) := fun h => by
        obtain ⟨g, cap, hv, hlt'⟩ := HO.out.some_ (by rw [dl_length]; exact h)
        obtain ⟨rfl, rfl⟩ : ad = some ⟨g, 0, none⟩ ∧ sc = cap := by simpa using hv
        refine ⟨g, rfl, hlt', fun i hi => ?_⟩
        rw [← hget i hi]
        exact HO.out.cell i (by rw [dl_length]; exact hi)
      have hhd := hd_pos (nd m) hnd
      obtain ⟨k, hk⟩ : ∃ k, k = nd m := ⟨_, rfl⟩
      rw [dl_length, h0]
      rw [← hk] at hsome hhd hnd ⊢
      obtain ⟨c0, hc0⟩ : ∃ c0, c0 = UInt8.ofNat (128 + k) ^^^ 0 := ⟨_, rfl⟩
      rw [← hc0] at hhd
      have HK := Lib.hid hk
      have HSM := Lib.hid hsome
      have HHD := Lib.hid hhd
      have HC0 := Lib.hid hc0
      clear hget hsome hhd hk hc0 h0 hmj HO hlt hj
      go_wp2_with ((with_reducible show wpList _ _ _ ((⟨_, Op.call _, _, _, _, _⟩ : Oper) :: _) _ _); refine append_byte wo.heap.size (.slice none 0 0) [] 0 rfl (World.ownsRow_nil _ _ _ _) rfl (.tmp 28) (.tmp 32) rfl rfl c0 _ HHD.out rfl (by simp) (Nat.le_refl _) wo (Below.refl _ _) ?_; intro g1 cap1 w2 hown2 hb2; have HO2 := Lib.hid hown2; have HB2 := Lib.hid hb2; clear hown2 hb2)
      go_loopw [6, 7] (fun o c wi => ∃ t g cap : Nat, t ≤ k ∧ c = .int .i64 ((k : Int) - 1 - (t : Int)) ∧ o = .slice (some ⟨g, 0, none⟩) (t + 1) cap ∧ OwnB wo.heap.size o (c0 :: digs m k 0 t) wi ∧ Below wo.heap.size wo wi) (fun _ c _ => (intOf c + 1).toNat)
      case atStart => exact ⟨0, g1, cap1, by omega, by go_num, rfl, HO2.out, HB2.out⟩
      case round =>
        obtain ⟨t, g, cap, ht, rfl, rfl, hown, hbi⟩ := hrel
        have HO3 := Lib.hid hown
        have HB3 := Lib.hid hbi
        clear hown hbi
        by_cases hlt : t < k
        · obtain ⟨gd, rfl, hgd, hcs⟩ := HSM.out (by omega)
          have hcell := (HB3.out.cell (p := ⟨gd, k - 1 - t, none⟩) hgd).trans (hcs (k - 1 - t) (by omega))
          have hix : ((k : Int) - 1 - (t : Int)).toNat = k - 1 - t := by omega
          obtain ⟨x, hx⟩ : ∃ x, x = UInt8.ofNat (m / 256 ^ (k - 1 - t)) := ⟨_, rfl⟩
          rw [← hx] at hcell
          have hxl := x.toNat_lt
          have hdx : (x.toNat : Int) = ((x ^^^ 0).toNat : Int) := by simp
          obtain ⟨i, hi⟩ : ∃ i : Nat, i = k - 1 - t := ⟨_, rfl⟩
          rw [← hi] at hcell
          rw [show (k : Int) - 1 - (t : Int) = (i : Int) by omega]
          have HX := Lib.hid hx
          have HDX := Lib.hid hdx
          have hit : i + t + 1 = k := by omega
          clear hx hdx hcs hix hi
          go_wp2_with ((with_reducible show wpList _ _ _ ((⟨_, Op.call _, _, _, _, _⟩ : Oper) :: _) _ _); refine append_byte wo.heap.size _ (c0 :: digs m k 0 t) (t + 1) (by rw [List.length_cons, digs_length]) HO3.out rfl (.tmp 54) (.tmp 56) rfl rfl (x ^^^ 0) _ HDX.out rfl (by rw [List.length_cons, digs_length]; omega) HB3.out.size wo HB3.out ?_; intro g5 cap5 w5 hown5 hb5; have HO5 := Lib.hid hown5; have HB5 := Lib.hid hb5; clear hown5 hb5)
          go_roundw
          case rel =>
            refine ⟨t + 1, g5, cap5, by first | trivial | omega, by go_num, rfl, ?_, HB5.out⟩
            rw [digs_succ, ← HX.out]
            exact HO5.out
          case measure => simp [intOf] <;> omega
        · obtain rfl : t = k := by omega
          go_wp2_with fail
          go_ret
          have he : encOf m 0 = c0 :: digs m t 0 t := by rw [encOf, ← HK.out, ← HC0.out]
          have hlen : (encOf m 0).length = t + 1 := by rw [he, List.length_cons, digs_length]
          refine ⟨g, cap, by rw [hlen]; rfl, ?_, HB.out.trans (HB3.out.mono HB.out.size)⟩
          rw [hlen, he]
          exact World.ownsRow.mono HO3.out HB.out.size
set_option maxHeartbeats 2000000 in
theorem rint_neg (m : Nat) (hm : m < 9223372036854775808) (w : World) : Calls Tryd.prog 124 #[.int .i64 (-1 - (m : Int))] w (RetB (encOf m 255) w) := by
  have hnd : nd m ≤ 8 := nd_le 8 m (by omega)
  have hneg : -1 - (m : Int) < 0 := by omega
  go_enter Tryd.func124, Tryd.ntmps124
  go_wp2_with fail
  rw [show (-1 : Int) - (-1 - (m : Int)) = (m : Int) by omega]
  go_loopw [3, 4] (fun c d wr => ∃ j : Nat, j ≤ nd m ∧ c = .int .i64 (m / 256 ^ j : Nat) ∧ OwnB w.heap.size d (dl m j) wr ∧ Below w.heap.size w wr) (fun c _ _ => (intOf c).toNat)
  case atStart => exact ⟨0, by omega, by simp, World.ownsRow_nil _ _ _ _, Below.refl _ _⟩
  case round =>
    obtain ⟨j, hj, rfl, hown, hb⟩ := hrel
    have HO := Lib.hid hown
    have HB := Lib.hid hb
    clear hown hb
    have hmj : m / 256 ^ j ≤ m := Nat.div_le_self _ _
    by_cases hlt : j < nd m
    · have hpos := (nd_iff j m).1 hlt
      have hdv := dig_val m j
      have hdd : (m / 256 ^ j) / 256 = m / 256 ^ (j + 1) := by rw [Nat.pow_succ, Nat.div_div_eq_div_mul]
      obtain ⟨q, hq⟩ : ∃ q, q = m / 256 ^ j := ⟨_, rfl⟩
      rw [← hq] at hmj hpos hdv hdd ⊢
      have HQ := Lib.hid hq
      have HDV := Lib.hid hdv
      have HDD := Lib.hid hdd
      clear hq hdv hdd
      go_wp2_with ((with_reducible show wpList _ _ _ ((⟨_, Op.call _, _, _, _, _⟩ : Oper) :: _) _ _); refine append_byte w.heap.size _ (dl m j) j (dl_length m j) HO.out rfl (.tmp 16) (.tmp 20) rfl (by obtain ⟨ad, sc, rfl⟩ := HO.out.form; rw [dl_length]; rfl) (UInt8.ofNat q) _ HDV.out rfl (by rw [dl_length]; omega) HB.out.size w HB.out ?_; intro g cap w2 hown2 hb2; have HO2 := Lib.hid hown2; have HB2 := Lib.hid hb2; clear hown2 hb2)
      go_roundw
      case rel => exact ⟨j + 1, by omega, by rw [← HDD.out]; go_num, by rw [dl_succ, ← HQ.out]; exact HO2.out, HB2.out⟩
      case measure => simp [intOf]; omega
    · obtain rfl : j = nd m := by omega
      have h0 : m / 256 ^ nd m = 0 := Nat.eq_zero_of_not_pos fun h => Nat.lt_irrefl _ ((nd_iff (nd m) m).2 h)
      obtain ⟨wo, rfl⟩ : ∃ wo : World, wo = wr := ⟨_, rfl⟩
      obtain ⟨ad, sc, rfl⟩ := HO.out.form
      have hget : ∀ i, i < nd m → (dl m (nd m)).getD i 0 = UInt8.ofNat (m / 256 ^ i) := fun i hi => dl_get m (nd m) i hi
      have hsome : 0 < nd m → ∃ g, ad = some ⟨g, 0, none⟩ ∧ g < wo.heap.size ∧ ∀ i, i < nd m → wo.cell? ⟨g, i, none⟩ = some (.int .u8 ((UInt8.ofNat (m / 256 ^ i)).toNat : Int)) := fun h => by
        obtain ⟨g, cap, hv, hlt'⟩ := HO.out.some_ (by rw [dl_length]; exact h)
        obtain ⟨rfl, rfl⟩ : ad = some ⟨g, 0, none⟩ ∧ sc = cap := by simpa using hv
        refine ⟨g, rfl, hlt', fun i hi => ?_⟩
        rw [← hget i hi]
        exact HO.out.cell i (by rw [dl_length]; exact hi)
      have hhd := hd_neg (nd m) hnd
      obtain ⟨k, hk⟩ : ∃ k, k = nd m := ⟨_, rfl⟩
      rw [dl_length, h0]
      rw [← hk] at hsome hhd hnd ⊢
      obtain ⟨c0, hc0⟩ : ∃ c0, c0 = UInt8.ofNat (128 + k) ^^^ 255 := ⟨_, rfl⟩
      rw [← hc0] at hhd
      have HK := Lib.hid hk
      have HSM := Lib.hid hsome
      have HHD := Lib.hid hhd
      have HC0 := Lib.hid hc0
      clear hget hsome hhd hk hc0 h0 hmj HO hlt hj
      go_wp2_with ((with_reducible show wpList _ _ _ ((⟨_, Op.call _, _, _, _, _⟩ : Oper) :: _) _ _); refine append_byte wo.heap.size (.slice none 0 0) [] 0 rfl (World.ownsRow_nil _ _ _ _) rfl (.tmp 34) (.tmp 38) rfl rfl c0 _ HHD.out rfl (by simp) (Nat.le_refl _) wo (Below.refl _ _) ?_; intro g1 cap1 w2 hown2 hb2; have HO2 := Lib.hid hown2; have HB2 := Lib.hid hb2; clear hown2 hb2)
      go_loopw [6, 7] (fun o c wi => ∃ t g cap : Nat, t ≤ k ∧ c = .int .i64 ((k : Int) - 1 - (t : Int)) ∧ o = .slice (some ⟨g, 0, none⟩) (t + 1) cap ∧ OwnB wo.heap.size o (c0 :: digs m k 255 t) wi ∧ Below wo.heap.size wo wi) (fun _ c _ => (intOf c + 1).toNat)
      case atStart => exact ⟨0, g1, cap1, by omega, by go_num, rfl, HO2.out, HB2.out⟩
      case round =>
        obtain ⟨t, g, cap, ht, rfl, rfl, hown, hbi⟩ := hrel
        have HO3 := Lib.hid hown
        have HB3 := Lib.hid hbi
        clear hown hbi
        by_cases hlt : t < k
        · obtain ⟨gd, rfl, hgd, hcs⟩ := HSM.out (by omega)
          have hcell := (HB3.out.cell (p := ⟨gd, k - 1 - t, none⟩) hgd).trans (hcs (k - 1 - t) (by omega))
          have hix : ((k : Int) - 1 - (t : Int)).toNat = k - 1 - t := by omega
          obtain ⟨x, hx⟩ : ∃ x, x = UInt8.ofNat (m / 256 ^ (k - 1 - t)) := ⟨_, rfl⟩
          rw [← hx] at hcell
          have hxl := x.toNat_lt
          have hdx : 255 - (x.toNat : Int) = ((x ^^^ 255).toNat : Int) := dg_neg x
          obtain ⟨i, hi⟩ : ∃ i : Nat, i = k - 1 - t := ⟨_, rfl⟩
          rw [← hi] at hcell
          rw [show (k : Int) - 1 - (t : Int) = (i : Int) by omega]
          have HX := Lib.hid hx
          have HDX := Lib.hid hdx
          have hit : i + t + 1 = k := by omega
          clear hx hdx hcs hix hi
          go_wp2_with ((with_reducible show wpList _ _ _ ((⟨_, Op.call _, _, _, _, _⟩ : Oper) :: _) _ _); refine append_byte wo.heap.size _ (c0 :: digs m k 255 t) (t + 1) (by rw [List.length_cons, digs_length]) HO3.out rfl (.tmp 54) (.tmp 56) rfl rfl (x ^^^ 255) _ HDX.out rfl (by rw [List.length_cons, digs_length]; omega) HB3.out.size wo HB3.out ?_; intro g5 cap5 w5 hown5 hb5; have HO5 := Lib.hid hown5; have HB5 := Lib.hid hb5; clear hown5 hb5)
          go_roundw
          case rel =>
            refine ⟨t + 1, g5, cap5, by first | trivial | omega, by go_num, rfl, ?_, HB5.out⟩
            rw [digs_succ, ← HX.out]
            exact HO5.out
          case measure => simp [intOf] <;> omega
        · obtain rfl : t = k := by omega
          go_wp2_with fail
          go_ret
          have he : encOf m 255 = c0 :: digs m t 255 t := by rw [encOf, ← HK.out, ← HC0.out]
          have hlen : (encOf m 255).length = t + 1 := by rw [he, List.length_cons, digs_length]
          refine ⟨g, cap, by rw [hlen]; rfl, ?_, HB.out.trans (HB3.out.mono HB.out.size)⟩
          rw [hlen, he]
          exact World.ownsRow.mono HO3.out HB.out.size
theorem rint_any (n : Int) (h0 : -9223372036854775808 ≤ n) (h1 : n < 9223372036854775808) (w : World) : Calls Tryd.prog 124 #[.int .i64 n] w (RetB (encInt n) w) := by
  unfold encInt
  by_cases h : 0 ≤ n
  · rw [if_pos h]
    have := rint_pos n.toNat (by omega) w
    rwa [show ((n.toNat : Nat) : Int) = n by omega] at this
  · rw [if_neg h]
    have := rint_neg (-1 - n).toNat (by omega) w
    rwa [show -1 - (((-1 - n).toNat : Nat) : Int) = n by omega] at this
end Go.Proofs.YtfkpeabkcdhcfaaDoor
