/-
  Walks of the reference's Word and Xor.
-/
import Derived.Test.YtfkpeabkcdhcfaaDoorX7
namespace Go.Proofs.YtfkpeabkcdhcfaaDoor
open Go.RowKit
set_option maxRecDepth 100000
theorem append_ints_read {ops : Array Oper} {rest : List Oper} {o : Oper} {A : Act} {Q : Exit → Act → World → Prop} {w : World} (base : Nat) (v : Value) (l : List Int) (hown : OwnI base v l w) (hgd : o.guard = none) (x y : Operand)
    (ho : o.op = .call { callee := .builtin .append, args := #[x, y], argTypes := #[22, 22] }) (hx : A.eval x = v) (news : List Int) (u : Value) (hy : A.eval y = u) (hr : ReadI u news w) (hbd : l.length + news.length ≤ 1099511627776) (hbase : base ≤ w.heap.size) (W0 : World) (hb : Below base W0 w)
    (h : ∀ v' w1, OwnI base v' (l ++ news) w1 → Below base W0 w1 → wpList Tryd.prog ops Q rest (A.put o.dst v') w1) :
    wpList Tryd.prog ops Q (o :: rest) A w := by
  rcases hr with ⟨rfl, rfl⟩ | ⟨ad, cap, rfl, hc⟩
  · obtain ⟨i0, hi, hz0, hz1, hz2⟩ := info_parts infoI
    refine wpList_append_own_none hgd x y 22 ho base 3 i0 1 Tryd.underlying22 hi v l.length (l.map (Value.int .i64)) hx hown hy ?_
    exact h v w (by rw [List.append_nil]; exact hown) hb
  · exact append_ints base v l hown hgd x y ho hx news ad cap hy hc hbd hbase W0 hb fun v' w1 h1 _ h2 => h v' w1 h1 h2
/-- what the reference's words ask of a world -/
structure Net2 (seed : ByteArray) (v : Value) (l : List Int) (w : World) : Prop where
  hs : seed.size ≤ 100000
  hl : l.length ≤ 900
  h64 : Ok64 l
  h0 : 1 < w.heap.size
  hK : HoldK2 w
  hr : ReadI v l w
theorem Net2.later {seed : ByteArray} {v : Value} {l : List Int} {w w' : World} (h : Net2 seed v l w) (hb : Below w.heap.size w w') : Net2 seed v l w' :=
  ⟨h.hs, h.hl, h.h64, Nat.lt_of_lt_of_le h.h0 hb.size, h.hK.later h.h0 hb, h.hr.later hb⟩
set_option maxHeartbeats 2000000 in
theorem rword_any (seed : ByteArray) (v : Value) (l : List Int) (t : Int) (ht : -9223372036854775808 ≤ t ∧ t < 9223372036854775808) (w : World) (hN : Net2 seed v l w) :
    Calls Tryd.prog 105 #[.string seed, v, .int .i64 t] w fun e w' => e = .returned (.int .i64 (wordOf seed l t : Nat)) ∧ Below w.heap.size w w' := by
  have HN := Lib.hid hN
  have hl := hN.hl
  have hb0 : Below w.heap.size w (w.alloc (.cells #[] 3)) := (Below.refl _ _).alloc (Nat.le_refl _) _
  have HB0 := Lib.hid hb0
  obtain ⟨L, hL⟩ : ∃ L, L = l ++ [t] := ⟨_, rfl⟩
  have hLl : 0 < L.length ∧ L.length ≤ 901 := by rw [hL]; simp; omega
  have hL64 : Ok64 L := by rw [hL]; exact ok_snoc hN.h64 ht
  have HL64 := Lib.hid hL64
  have HL := Lib.hid hL
  clear hN hb0 hL hL64
  obtain ⟨hLl1, hLl2⟩ := hLl
  go_enter Tryd.func105, Tryd.ntmps105
  go_wp2_with (first
    | ((with_reducible show wpList _ _ _ ((⟨some 13, Op.call _, _, _, _, _⟩ : Oper) :: _) _ _); refine append_ints_read w.heap.size (.slice (some ⟨w.heap.size, 0, none⟩) 0 0) [] (ownI_empty _ _ (Nat.le_refl _)) rfl (.tmp 11) (.tmp 12) rfl rfl l v rfl (HN.out.hr.later HB0.out) (by simp; omega) (by simp) w HB0.out ?_; intro v1 w1 hown1 hb1; rw [List.nil_append] at hown1; have HO1 := Lib.hid hown1; have HB1 := Lib.hid hb1; clear hown1 hb1)
    | ((with_reducible show wpList _ _ _ ((⟨some 16, Op.call _, _, _, _, _⟩ : Oper) :: _) _ _); refine append_ints w.heap.size _ l (HO1.out.alloc _) rfl (.tmp 13) (.tmp 15) rfl rfl [t] ⟨w1.heap.size, 0, none⟩ 1 rfl (cell_one_new w1 _ 3) (by simp; omega) (by have := HB1.out.size; simp; omega) w (HB1.out.alloc HB1.out.size _) ?_; intro v2 w2 hown2 _ hb2; rw [← HL.out] at hown2; obtain ⟨g2, cap2, rfl⟩ := hown2.shape (by omega); have HO2 := Lib.hid hown2; have HB2 := Lib.hid hb2; clear hown2 hb2))
  refine (rints_any w.heap.size g2 cap2 L (by omega) HL64.out _ HO2.out (lt_of_own HO2.out)).mono ?_
  rintro e w3 ⟨g3, cap3, rfl, hown3, hb3⟩
  have hstr3 := hown3.string
  have hB3 : Below w.heap.size w w3 := HB2.out.trans (hb3.mono HB2.out.size)
  have HB3 := Lib.hid hB3
  clear hown3 hb3 hB3
  have hel := encInts_len L HL64.out (by omega)
  obtain ⟨E, hE⟩ : ∃ E : ByteArray, E = ⟨(encInts L).toArray⟩ := ⟨_, rfl⟩
  have hEs : E.size = (encInts L).length := by rw [hE]; rfl
  rw [← hE] at hstr3
  have HE := Lib.hid hE
  clear hE
  obtain ⟨nE, hnE⟩ : ∃ nE, nE = (encInts L).length := ⟨_, rfl⟩
  rw [← hnE] at hstr3 ⊢
  rw [← hnE] at hEs
  rw [← hnE] at hel
  have HNE := Lib.hid hnE
  clear hnE
  have hgo := fun (wx : World) (gp : Nat) (h0' : 1 < wx.heap.size) (hK' : HoldK2 wx) (hg : gp < wx.heap.size) (hc1 : wx.cell? ⟨gp, 0, none⟩ = some (.string seed)) (hc2 : wx.cell? ⟨gp, 1, none⟩ = some (.string E)) => rof_any gp seed E HN.out.hs (by omega) wx h0' hK' hg hc1 hc2
  have HGO := Lib.hid hgo
  clear hgo hEs
  go_wp2_with fail
  have h3z := HB3.out.size
  refine (HGO.out _ _ (by have := HN.out.h0; simp; omega) (HN.out.hK.later HN.out.h0 (HB3.out.alloc h3z _)) (by simp) (cell_of_row _ _ _ _ _ _ (heap_alloc_new _ _)) (cell_of_row _ _ _ _ _ _ (heap_alloc_new _ _))).mono ?_
  rintro e w4 ⟨rfl, hb4⟩
  have hB4 : Below w.heap.size w w4 := (HB3.out.alloc h3z _).trans (hb4.mono (by simp; omega))
  have HB4 := Lib.hid hB4
  obtain ⟨D, hD⟩ : ∃ D, D = of8 seed E := ⟨_, rfl⟩
  rw [← hD]
  have HD := Lib.hid hD
  clear hb4 hB4 hD HGO
  go_wp2_with ((with_reducible show wpList _ _ _ ((⟨_, Op.store 90 _ _, _, _, _, _⟩ : Oper) :: _) _ _); refine wpList_store_row rfl 90 (.tmp 8) (.tmp 22) rfl _ (digArr D) rfl rfl _ _ (heap_alloc_new _ _) (by rw [dig_size]; exact info90) (by rw [dig_size]; rfl) (dig_one D) ?_)
  go_loopw [9, 10] (fun n c wr => ∃ i : Nat, i ≤ 6 ∧ c = .int .i64 i ∧ n = .int .i64 (wAcc D i : Nat) ∧ Below w.heap.size w wr ∧ wr.heap[w4.heap.size]? = some (.cells (digArr D) 90 (0, 0))) (fun _ c _ => 6 - (intOf c).toNat)
  case atStart =>
    exact ⟨0, by omega, rfl, rfl, below_setRow (HB4.out.alloc HB4.out.size _) HB4.out.size _, setRow_heap _ _ _ _ _ _ (heap_alloc_new _ _)⟩
  case round =>
    obtain ⟨i, hi, rfl, rfl, hb, hrow⟩ := hrel
    have HROW := Lib.hid hrow
    have hlt6 := wAcc_lt D i
    have hcell : i < 6 → wr.cell? ⟨w4.heap.size, i, none⟩ = some (.int .u8 ((outB D i).toNat : Int)) := fun h => by
      rw [cell_of_row _ _ _ _ _ _ HROW.out, digArr, List.getElem?_toArray]
      simp [outL, u8v, show i < 16 by omega]
    clear hrow
    by_cases hlt : i < 6
    · have hcell' := hcell hlt
      clear hcell
      have hpow : (256 : Nat) ^ i ≤ 256 ^ 5 := Nat.pow_le_pow_right (by decide) (by omega)
      have hn40 : wAcc D i < 1099511627776 := Nat.lt_of_lt_of_le hlt6 (by simpa using hpow)
      have hob := (outB D i).toNat_lt
      clear hpow hlt6
      go_wp2_with fail
      go_roundw
      case rel => exact ⟨i + 1, by omega, by go_num, by rw [wAcc]; go_num, hb, HROW.out⟩
      case measure => simp [intOf]; omega
    · obtain rfl : i = 6 := by omega
      clear hcell
      go_wp2_with fail
      go_ret
      refine ⟨?_, hb⟩
      rw [wordOf, ← HL.out, ← HE.out, ← HD.out]
      rfl
end Go.Proofs.YtfkpeabkcdhcfaaDoor
