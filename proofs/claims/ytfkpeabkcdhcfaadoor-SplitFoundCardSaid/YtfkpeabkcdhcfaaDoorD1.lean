/-
  Walk of draw.Word: the number of the first six bytes of the hash value.
-/
import Derived.Test.YtfkpeabkcdhcfaaDoorH7
namespace Go.Proofs.YtfkpeabkcdhcfaaDoor
open Go.RowKit
set_option maxRecDepth 100000
theorem or_byte (n : Nat) (b : UInt8) (h : n < 1099511627776) : bits .or .i64 ((n : Int) * 256) (b.toNat : Int) = ((n * 256 + b.toNat : Nat) : Int) := by
  have hb := b.toNat_lt
  have := bits_join .i64 63 (by decide) (fun z h0 h1 => by rw [IntKind.wrap_i64]; omega) 8 ((n : Int) * 256) (b.toNat : Int) (by omega) (by omega) (by omega) (by omega) (by omega)
  rw [this (by omega)]
  omega
theorem wrap64_byte (b : UInt8) : wrap64 (b.toNat : Int) = (b.toNat : Int) := by
  have := b.toNat_lt
  unfold wrap64; omega
/-- the number of the first i bytes -/
def wAcc (s : S8) : Nat → Nat
  | 0 => 0
  | i + 1 => wAcc s i * 256 + (outB s i).toNat
theorem wAcc_lt (s : S8) : ∀ i, wAcc s i < 256 ^ i
  | 0 => by simp [wAcc]
  | i + 1 => by
    have := wAcc_lt s i
    have := (outB s i).toNat_lt
    rw [wAcc, Nat.pow_succ]; omega
/-- draw.Word -/
def wordOf (seed : ByteArray) (l : List Int) (t : Int) : Nat := wAcc (of8 seed ⟨(encInts (l ++ [t])).toArray⟩) 6
theorem encInts_len (l : List Int) (h : Ok64 l) (hl : l.length ≤ 1000) : (encInts l).length ≤ 9009 := by
  have h1 := encInt_len (l.length : Int) (by omega)
  have h2 := flat_len l h
  rw [encInts, List.length_append]; omega
theorem ok_snoc {l : List Int} {t : Int} (h : Ok64 l) (ht : -9223372036854775808 ≤ t ∧ t < 9223372036854775808) : Ok64 (l ++ [t]) := fun n hn => by
  rcases List.mem_append.1 hn with h1 | h1
  · exact h n h1
  · obtain rfl := List.mem_singleton.1 h1; exact ht
theorem lt_of_own {base g n cap : Nat} {l : List Int} {w : World} (h : OwnI base (.slice (some ⟨g, 0, none⟩) n cap) l w) : g < w.heap.size := by
  rcases h.2 with ⟨h, _⟩ | ⟨g', cap', cur, h, _, h5, _⟩
  · cases h
  · simp only [Value.slice.injEq, Option.some.injEq, Addr.mk.injEq] at h
    obtain ⟨⟨rfl, _⟩, _⟩ := h
    exact lt_of_block h5
set_option maxHeartbeats 2000000 in
theorem word_any (seed : ByteArray) (hs : seed.size ≤ 100000) (v : Value) (l : List Int) (hl : l.length ≤ 900) (h64 : Ok64 l) (t : Int) (ht : -9223372036854775808 ≤ t ∧ t < 9223372036854775808) (w : World) (h0 : 0 < w.heap.size) (hK : HoldK w) (hr : ReadI v l w) :
    Calls Tryd.prog 30 #[.string seed, v, .int .i64 t] w fun e w' => e = .returned (.int .i64 (wordOf seed l t : Nat)) ∧ Below w.heap.size w w' := by
  have HK := Lib.hid hK
  clear hK
  go_enter Tryd.func30, Tryd.ntmps30
  go_wp2_with fail
  refine (clone_any v l (by omega) _ hr).mono ?_
  rintro e w1 ⟨v1, rfl, hown1, hb1⟩
  have HO1 := Lib.hid hown1
  have HB1 := Lib.hid hb1
  clear hown1 hb1
  obtain ⟨L, hL⟩ : ∃ L, L = l ++ [t] := ⟨_, rfl⟩
  have hLl : 0 < L.length ∧ L.length ≤ 901 := by rw [hL]; simp; omega
  have hL64 : Ok64 L := by rw [hL]; exact ok_snoc h64 ht
  have HL := Lib.hid hL
  go_wp2_with ((with_reducible show wpList _ _ _ ((⟨_, Op.call _, _, _, _, _⟩ : Oper) :: _) _ _); refine append_ints w.heap.size _ l (HO1.out.alloc _) rfl (.tmp 13) (.tmp 15) rfl rfl [t] ⟨w1.heap.size, 0, none⟩ 1 rfl (cell_one_new w1 _ 3) (by simp; omega) (by have := HB1.out.size; simp; omega) w (HB1.out.alloc HB1.out.size _) ?_; intro v2 w2 hown2 _ hb2; rw [← hL] at hown2; obtain ⟨g2, cap2, rfl⟩ := hown2.shape (by omega); have HO2 := Lib.hid hown2; have HB2 := Lib.hid hb2; clear hown2 hb2 hL)
  refine (wints_any w.heap.size g2 cap2 L (by omega) hL64 _ HO2.out (lt_of_own HO2.out)).mono ?_
  rintro e w3 ⟨g3, cap3, rfl, hown3, hb3⟩
  have hstr3 := hown3.string
  have hB3 : Below w.heap.size w w3 := HB2.out.trans (hb3.mono HB2.out.size)
  have HB3 := Lib.hid hB3
  clear hown3 hb3 hB3
  have hel := encInts_len L hL64 (by omega)
  obtain ⟨E, hE⟩ : ∃ E : ByteArray, E = ⟨(encInts L).toArray⟩ := ⟨_, rfl⟩
  have hEs : E.size = (encInts L).length := by rw [hE]; rfl
  rw [← hE] at hstr3
  have HE := Lib.hid hE
  clear hE
  obtain ⟨nE, hnE⟩ : ∃ nE, nE = (encInts L).length := ⟨_, rfl⟩
  rw [← hnE] at hstr3 ⊢
  rw [← hnE] at hEs
  rw [← hnE] at hel
  have HNE := Lib.hid hnE
  clear hnE
  have hgo := fun (wx : World) (gp : Nat) (h0' : 0 < wx.heap.size) (hK' : HoldK wx) (hg : gp < wx.heap.size) (hc1 : wx.cell? ⟨gp, 0, none⟩ = some (.string seed)) (hc2 : wx.cell? ⟨gp, 1, none⟩ = some (.string E)) => of_any gp seed E hs (by omega) wx h0' hK' hg hc1 hc2
  have HGO := Lib.hid hgo
  clear hgo hEs
  go_wp2_with fail
  have h3z := HB3.out.size
  refine (HGO.out _ _ (by simp) (by
    have := (HB3.out.alloc h3z (Obj.cells #[Value.string seed, Value.string E] 9))
    exact fun j v hv => (this.cell (p := ⟨0, 0 + j, none⟩) h0).trans (HK.out j v hv)) (by simp) (cell_of_row _ _ _ _ _ _ (heap_alloc_new _ _)) (cell_of_row _ _ _ _ _ _ (heap_alloc_new _ _))).mono ?_
  rintro e w4 ⟨rfl, hb4⟩
  have hB4 : Below w.heap.size w w4 := (HB3.out.alloc h3z _).trans (hb4.mono (by simp; omega))
  have HB4 := Lib.hid hB4
  obtain ⟨D, hD⟩ : ∃ D, D = of8 seed E := ⟨_, rfl⟩
  rw [← hD]
  have HD := Lib.hid hD
  clear hb4 hB4 hD HGO
  go_wp2_with ((with_reducible show wpList _ _ _ ((⟨_, Op.store 90 _ _, _, _, _, _⟩ : Oper) :: _) _ _); refine wpList_store_row rfl 90 (.tmp 7) (.tmp 20) rfl _ (digArr D) rfl rfl _ _ (heap_alloc_new _ _) (by rw [dig_size]; exact info90) (by rw [dig_size]; rfl) (dig_one D) ?_)
  go_loopw [8, 23] (fun n c wr => ∃ i : Nat, i ≤ 6 ∧ c = .int .i64 i ∧ n = .int .i64 (wAcc D i : Nat) ∧ Below w.heap.size w wr ∧ wr.heap[w4.heap.size]? = some (.cells (digArr D) 90 (0, 0))) (fun _ c _ => 6 - (intOf c).toNat)
  case atStart =>
    exact ⟨0, by omega, rfl, rfl, below_setRow (HB4.out.alloc HB4.out.size _) HB4.out.size _, setRow_heap _ _ _ _ _ _ (heap_alloc_new _ _)⟩
  case round =>
    obtain ⟨i, hi, rfl, rfl, hb, hrow⟩ := hrel
    have HROW := Lib.hid hrow
    have hlt6 := wAcc_lt D i
    have hcell : i < 6 → wr.cell? ⟨w4.heap.size, i, none⟩ = some (.int .u8 ((outB D i).toNat : Int)) := fun h => by
      rw [cell_of_row _ _ _ _ _ _ HROW.out, digArr, List.getElem?_toArray]
      simp [outL, u8v, show i < 16 by omega]
    clear hrow
    by_cases hlt : i < 6
    · have hcell' := hcell hlt
      clear hcell
      have hpow : (256 : Nat) ^ i ≤ 256 ^ 5 := Nat.pow_le_pow_right (by decide) (by omega)
      have hn40 : wAcc D i < 1099511627776 := Nat.lt_of_lt_of_le hlt6 (by simpa using hpow)
      have hor := or_byte (wAcc D i) (outB D i) hn40
      clear hpow hlt6
      go_wp2_with fail
      go_roundw
      case rel => exact ⟨i + 1, by omega, by go_num, by rw [wrap64_byte, hor]; rfl, hb, HROW.out⟩
      case measure => simp [intOf]; omega
    · obtain rfl : i = 6 := by omega
      clear hcell
      go_wp2_with fail
      go_ret
      refine ⟨?_, hb⟩
      rw [wordOf, ← HL.out, ← HE.out, ← HD.out]
      rfl
end Go.Proofs.YtfkpeabkcdhcfaaDoor
