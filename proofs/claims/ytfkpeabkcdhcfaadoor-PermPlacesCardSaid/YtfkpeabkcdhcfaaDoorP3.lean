/-
  Walk of All.
-/
import Derived.Test.YtfkpeabkcdhcfaaDoorP2
namespace Go.Proofs.YtfkpeabkcdhcfaaDoor
open Go.RowKit Go.Shelf
attribute [local go_sem] Oper.semAt_some
theorem make_run (n : Nat) (hn : n ≤ 65536) : ∃ Z : Array Value, Z.size = n ∧ ∀ W : World, (Instr.makeSlice 22 (.int .i64 0) (.int .i64 (n : Int))).run Tryd.prog W = .ok (.slice (some ⟨W.heap.size, 0, none⟩) 0 n) (W.alloc (.cells Z 3)) := by
  obtain ⟨i0, hi, hz0, hz1, hz2⟩ := info_parts infoI
  refine ⟨madeCells (Value.int .i64 0).cells ((n : Int).toNat * i0.size), by rw [size_madeCells, hz1]; simp, fun W => ?_⟩
  have := run_makeSlice (P := Tryd.prog) W 22 3 i0 (.int .i64 0) Tryd.underlying22 hi hz0 .i64 .i64 0 n (by omega) (by omega) (by rw [hz1]; simp; omega) (by rw [hz2]; simp; omega) (by omega)
  simpa using this
/-- 'out = append(out, x)', the value fitting into out's row: what stands behind the store -/
theorem out_step {W w5 : World} {n₀ G lo hi k n : Nat} {xs ys : List Value} {v : Value} {tmp : Obj} (hv : Boxed W (G + 1) 22 v) (hrow : W.ownsRow n₀ 3 1 (.slice (some ⟨G, 0, none⟩) k n) k xs) (hn₀ : n₀ ≤ W.heap.size) (hG : n₀ ≤ G) (hlo : G + 2 ≤ lo) (v' : Value)
    (hown : w5.ownsRow n₀ 3 1 (.slice (some ⟨G, 0, none⟩) (k + 1) n) (k + 1) ys) (hgrow : (W.alloc tmp).grownBy w5 (some G)) :
    Boxed w5 (G + 1) 22 v ∧ Boxed (w5.setCell ⟨G + 1, 0, none⟩ v') (G + 1) 22 v' ∧ (w5.setCell ⟨G + 1, 0, none⟩ v').ownsRow n₀ 3 1 (.slice (some ⟨G, 0, none⟩) (k + 1) n) (k + 1) ys ∧
      KeepsOthers W (w5.setCell ⟨G + 1, 0, none⟩ v') ∧ Kept n₀ lo hi W (w5.setCell ⟨G + 1, 0, none⟩ v') := by
  have hv1 : Boxed w5 (G + 1) 22 v := (hv.alloc tmp).kept hgrow (by simp)
  have hb5 : Below n₀ W w5 := ((Below.refl n₀ W).alloc hn₀ tmp).grown hgrow (by simp; omega) fun j ej => by cases ej; exact hG
  refine ⟨hv1, hv1.set v', hown.kept (grownBy_setCell' w5 (G + 1) v') (.inr (by simp [Value.ownBlock])), ?_, ⟨hb5.setCell (p := ⟨G + 1, 0, none⟩) (by show n₀ ≤ G + 1; omega) v', ?_⟩⟩
  · refine ((KeepsOthers.alloc W tmp).trans (KeepsOthers.of_grownBy hgrow fun j o ej hj => ?_)).trans (KeepsOthers.setCell _ _ _)
    cases ej
    rcases (hrow.alloc tmp).2 with ⟨h, _⟩ | ⟨g, cap, cur, h, _, hgb, _⟩
    · cases h
    · simp only [Value.slice.injEq, Option.some.injEq, Addr.mk.injEq] at h
      obtain ⟨⟨rfl, _⟩, _⟩ := h
      rw [hgb] at hj; cases hj; rfl
  · intro b o h1 _ hb
    rw [heap_setCell_other _ _ _ _ (by show b ≠ G + 1; omega)]
    have hlt := (Array.getElem?_eq_some_iff.1 hb).1
    exact (hgrow.block b (by simp; omega) (by simp; omega)).trans ((Below.heap_alloc _ _ _ hlt).trans hb)
set_option maxRecDepth 100000 in
set_option maxHeartbeats 2000000 in
theorem all_ok (seed : ByteArray) (ad : Option Addr) (sn sc : Nat) (l : List Int) (n : Nat) (hs : seed.size ≤ 32) (hp : sn ≤ 8) (hn : n ≤ 65536) (w : World) (hN : Net seed (.slice ad sn sc) l w) :
    Calls Tryd.prog 24 #[.string seed, .slice ad sn sc, .int .i64 n] w fun e w' => ∃ g, e = .returned (.tuple #[.slice (some ⟨g, 0, none⟩) n n, .int .i64 0]) ∧
      OwnI w.heap.size (.slice (some ⟨g, 0, none⟩) n n) (upto seed l n n) w' ∧ Below w.heap.size w w' := by
  have HN := Lib.hid hN
  clear hN
  obtain ⟨i0, hi, hz0, hz1, hz2⟩ := info_parts infoI
  obtain ⟨Z, hZ, hmk⟩ := make_run n hn
  have HZ := Lib.hid hZ
  clear hZ
  refine (callsIn_wide (n := 3)).1 ?_
  refine callsIn_of_wp_marks Tryd.func24 rfl trivial ?_ rfl
  simp only [Tryd.ntmps24, List.size_toArray, List.length_cons, List.length_nil, Nat.reduceAdd, Nat.reduceSub, Array.replicate_succ, Array.replicate_zero, List.push_toArray, List.append_toArray, List.nil_append, List.cons_append]
  gi_wp2_with (first
    | (refine ⟨trivial, ?_⟩; gi_at_call 66; refine (callsIn_wide.2 (given_ok seed ad sn sc n hs hp (by omega) w)).mono ?_; rintro e w1 ⟨rfl, hb1⟩; have HB1 := Lib.hid hb1; clear hb1)
    | (refine ⟨trivial, ?_⟩; gi_at_call 68; refine (callsIn_wide.2 (made_any seed ad sn sc n hn _)).mono ?_; rintro e w3 ⟨rfl, hb3⟩; have HB3 := Lib.hid hb3; clear hb3)
    | (refine ⟨trivial, ?_⟩; gi_at_call 67; refine (callsIn_wide.2 (places_in seed ad sn sc (bOf n) n _)).mono ?_; rintro e w4 ⟨rfl, hw4⟩; have HW4 := Lib.hid hw4; clear hw4))
  obtain ⟨G, hG⟩ : ∃ G, G = w1.heap.size := ⟨_, rfl⟩
  have hn1 : w.heap.size ≤ G := by rw [hG]; exact HB1.out.size
  have h3 : G + 2 ≤ w3.heap.size := by have := HB3.out.size; simp at this; omega
  have hs4 : w4.heap.size = w3.heap.size + 2 := by rw [HW4.out]; simp
  have b34 : Below w3.heap.size w3 w4 := by rw [HW4.out]; exact ((Below.refl _ _).alloc (Nat.le_refl _) _).alloc (by simp) _
  have hGr : w4.heap[G]? = some (.cells Z 3 (0, 0)) := by
    rw [b34.block _ (by omega), HB3.out.block _ (by simp; omega), hG, Below.heap_alloc _ _ _ (by simp)]
    exact heap_alloc_new _ _
  have hBr : Boxed w4 (G + 1) 22 (.slice (some ⟨G, 0, none⟩) 0 n) := by
    show w4.heap[G + 1]? = _
    rw [b34.block _ (by omega), HB3.out.block _ (by simp; omega), hG]
    exact heap_alloc2_new _ _ _
  have hBn : w4.heap[w3.heap.size + 1]? = some (.cells #[.int .i64 n] 3 (0, 0)) := by rw [HW4.out]; exact heap_alloc2_new _ _ _
  have hBw : NetAt w4 w3.heap.size seed (.slice ad sn sc) (bOf n) := by rw [HW4.out]; exact heap_alloc2_old _ _ _
  have hB4 : Below w.heap.size w w4 := ((HB1.out.alloc HB1.out.size _).alloc (by simp; omega) _).trans ((HB3.out.mono (by simp; omega)).trans (b34.mono (by omega)))
  have hrow4 : w4.ownsRow w.heap.size 3 1 (.slice (some ⟨G, 0, none⟩) 0 n) 0 [] := ⟨by simp, .inr ⟨G, n, Z, rfl, hn1, hGr, Nat.zero_le _, by unfold maxLen; omega, by rw [HZ.out]; simp, by simp⟩⟩
  rw [← hG]
  have hst := places_stops seed ad sn sc l n (3 - 1) (by omega) hn (w3.heap.size + 1) w3.heap.size w3.heap.size (by omega) (Nat.le_refl _) w w4 HN.out hB4 hBn hBw
  have H3 := Lib.hid h3
  have HN1 := Lib.hid hn1
  have HS4 := Lib.hid hs4
  clear HB1 HB3 HW4 HZ b34 hGr hBn hBw hmk h3 hn1 hs4 hG
  refine wpIn_rangeFunc_ownF (F := Fence.wide) rfl (by omega) (gf := 95) (lb := #[.pointer (some ⟨w3.heap.size + 1, 0, none⟩), .pointer (some ⟨w3.heap.size, 0, none⟩)]) rfl trivial (enters_of Tryd.func95 (by kernel_rfl) rfl)
    hst (fun h k => h.trans k) (kept_b hB4.size) (Below.refl _ _) (fun _ => rfl)
    (fun (pre : List Int) W => (∃ v, Boxed W (G + 1) 22 v ∧ W.ownsRow w.heap.size 3 1 v pre.length (pre.map (Value.int .i64)) ∧ v = .slice (some ⟨G, 0, none⟩) pre.length n) ∧ Below w.heap.size w W)
    (fun _ _ _ => False)
    (OwnFrom.and (Own.from (holdsRow_own w.heap.size (G + 1) 22 3 1 (fun pre : List Int => pre.length) (fun pre => pre.map (Value.int .i64)) (fun pre v => v = .slice (some ⟨G, 0, none⟩) pre.length n)) _) (ownFrom_below (Nat.le_refl _) hB4.size))
    (fun _ _ _ _ _ hs _ _ => hs)
    ⟨⟨_, hBr, hrow4, rfl⟩, hB4⟩
    (fun x => { tmps := #[.string seed, .slice ad sn sc, .int .i64 n, undef, undef, undef, .slice none 0 0, .int .i64 0, .int .i64 0, .pointer (some ⟨G + 1, 0, none⟩), .int .i64 x, .string seed, .slice ad sn sc, .int .i64 n, .int .i64 0, .int .i64 0, .bool false, undef,
        .int .i64 n, .bool (decide ((n : Int) < 0)), .int .i64 n, .slice (some ⟨G, 0, none⟩) 0 n, .string seed, .slice ad sn sc, .int .i64 n, .agg #[.string seed, .slice ad sn sc, .int .i64 (bOf n : Nat)], .int .i64 n,
        .func (.func 95) #[] #[.pointer (some ⟨w3.heap.size + 1, 0, none⟩), .pointer (some ⟨w3.heap.size, 0, none⟩)], .int .i64 x, undef, undef, undef, undef, undef], defers := [] }) ?assign ?body ?done ?stop
  case assign =>
    intro l x W K hK
    gi_wp2
    exact hK
  case body =>
    rintro lp pre x W ⟨⟨v, hv, hrow, rfl⟩, hB⟩ hlt
    have hc := hv.cell
    have HV := Lib.hid hv
    have HR := Lib.hid hrow
    have HB := Lib.hid hB
    clear hv hrow hB
    gi_wp2_with (gi_at_builtin; refine wpListIn_append_fits _ rfl _ _ 22 rfl w.heap.size 3 i0 1 Tryd.underlying22 hi hz1 G pre.length n (pre.map (Value.int .i64)) rfl (HR.out.alloc _) ⟨W.heap.size, 0, none⟩ 1 1 [.int .i64 x] rfl rfl (cell_one_new _ _ _) (by simp [Value.oneCell']) (by omega) ?_; intro w5 hown5 hgrow5; obtain ⟨hv1, hst5⟩ := out_step (lo := w3.heap.size) (hi := w4.heap.size) HV.out HR.out HB.out.size HN1.out H3.out (.slice (some ⟨G, 0, none⟩) (pre.length + 1) n) hown5 hgrow5; have HST := Lib.hid hst5; have hc1 := hv1.cell; have hf1 := hv1.frozen; clear hv1 hst5 hown5 hgrow5)
    obtain ⟨hv2, hr2, hk2, hb2⟩ := HST.out
    refine ⟨hk2, hb2, ⟨_, hv2, ?_, ?_⟩, HB.out.trans hb2.below⟩
    · simpa using hr2
    · simp
  case done =>
    rintro D ys W hD rfl ⟨⟨v, hv, hrow, rfl⟩, hB⟩ hK
    rw [upto_length] at hv hrow
    have hc := hv.cell
    gi_wp2
    refine ⟨by simp, .inl ⟨_, _, rfl, run_takeDeferred hK, ?_⟩⟩
    refine ⟨_, results_tmp2 rfl _ _ _, G, rfl, ?_, hB.trans (belowK_b (w := w) (Nat.le_refl _) W D _ _ (by have := hB4.size; omega) hK rfl rfl)⟩
    have hkp := ownsRow_putObj hrow (.deferred none) hK rfl
    show World.ownsRow _ w.heap.size 3 1 _ (upto seed l n n).length _
    rw [upto_length]
    exact hkp
  case stop =>
    rintro D c pre W _ _ h _
    exact h.elim
end Go.Proofs.YtfkpeabkcdhcfaaDoor
