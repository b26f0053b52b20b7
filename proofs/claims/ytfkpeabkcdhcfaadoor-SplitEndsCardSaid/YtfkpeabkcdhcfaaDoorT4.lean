/-
  A range over a function whose body leaves in some later round; the walks of draw.tries and draw.below where a word is accepted at last.
  Walks of draw.valid, checked and Between, for every range, where a word is accepted at last.
  Walk of halves.
  Walks of split.Valid, own and leaves.
-/
import Derived.Test.YtfkpeabkcdhcfaaDoorR1
import Derived.RangeFuncBox
import Derived.RangeFuncNested
import Derived.RangeFuncBound
import Derived.RangeFuncCalls
import Derived.RangeFuncLeaves
import Derived.Shelf.Abstract
import Derived.Shelf.RegionOpen
import Derived.WalkKit
import Derived.OwnWalkIn
import Derived.TacticsInMore
import Derived.LoopNIn
import Derived.LoopIn
import Derived.Maps.AppendAt
import Derived.Defers
import Derived.Deep.DeepCutAuto
import Derived.BigQuiet
import Derived.BigRegion
import Derived.Deep.QuietTactic
import Derived.Deep.Onto
import Derived.Deep.RegionHeld3
import Derived.Deep.AppendLies
namespace Go.Proofs.YtfkpeabkcdhcfaaDoor
open Go.RowKit Go.Shelf
attribute [local go_sem] Oper.semAt_some
/-- the greatest multiple of n that is at most 2^48 -/
def lim (n : Nat) : Nat := 281474976710656 / n * n
theorem lim_le (n : Nat) : lim n ≤ 281474976710656 := Nat.div_mul_le_self _ _
theorem lim_gt (n : Nat) (h : 0 < n) : 281474976710656 < lim n + n := by
  unfold lim
  have h1 := Nat.div_add_mod 281474976710656 n
  have h2 := Nat.mod_lt 281474976710656 h
  rw [Nat.mul_comm] at h1
  omega
theorem lim_int (n : Nat) : IntKind.i64.wrap (281474976710656 / (n : Int) * (n : Int)) = (lim n : Int) := by
  have h := lim_le n
  rw [show 281474976710656 / (n : Int) * (n : Int) = ((lim n : Nat) : Int) from rfl]
  obtain ⟨m, hm⟩ : ∃ m, m = lim n := ⟨_, rfl⟩
  rw [← hm] at h ⊢
  simp only [IntKind.wrap_i64]
  omega
/-- one of the first tries is accepted -/
def Acc (seed : ByteArray) (l : List Int) (n : Nat) : Prop := ∃ t : Nat, t ≤ 1000 ∧ wordOf seed l t < lim n
def tryOf (seed : ByteArray) (l : List Int) (n : Nat) : Nat → Nat → Nat
  | 0, t => t
  | k + 1, t => if wordOf seed l t < lim n then t else tryOf seed l n k (t + 1)
/-- the draw below n -/
def drawOf (seed : ByteArray) (l : List Int) (n : Nat) : Nat := wordOf seed l (tryOf seed l n 1000 0) % n
theorem tryOf_first (seed : ByteArray) (l : List Int) (n : Nat) (k : Nat) : ∀ t s : Nat, t ≤ s → s ≤ t + k → wordOf seed l s < lim n →
    tryOf seed l n k t ≤ t + k ∧ wordOf seed l (tryOf seed l n k t) < lim n ∧ ∀ i : Nat, t ≤ i → i < tryOf seed l n k t → lim n ≤ wordOf seed l i := by
  induction k with
  | zero =>
    intro t s h1 h2 h3
    obtain rfl : s = t := Nat.le_antisymm h2 h1
    exact ⟨Nat.le_refl _, h3, fun i h4 h5 => absurd h5 (Nat.not_lt.2 h4)⟩
  | succ k ih =>
    intro t s h1 h2 h3
    by_cases h : wordOf seed l t < lim n
    · have e : tryOf seed l n (k + 1) t = t := if_pos h
      rw [e]
      exact ⟨Nat.le_add_right _ _, h, fun i h4 h5 => absurd h5 (Nat.not_lt.2 h4)⟩
    · have e : tryOf seed l n (k + 1) t = tryOf seed l n k (t + 1) := if_neg h
      rw [e]
      have hst : s ≠ t := fun e => h (e ▸ h3)
      obtain ⟨g1, g2, g3⟩ := ih (t + 1) s (Nat.lt_of_le_of_ne h1 (Ne.symm hst)) (by rw [Nat.add_right_comm]; exact h2) h3
      refine ⟨by rw [Nat.add_right_comm] at g1; exact g1, g2, fun i h4 h5 => ?_⟩
      rcases Nat.eq_or_lt_of_le h4 with h6 | h6
      · rw [← h6]; exact Nat.not_lt.1 h
      · exact g3 i h6 h5
theorem acc_first {seed : ByteArray} {l : List Int} {n : Nat} (h : Acc seed l n) : ∃ T : Nat, T ≤ 1000 ∧ wordOf seed l T < lim n ∧ (∀ i : Nat, i < T → lim n ≤ wordOf seed l i) ∧ drawOf seed l n = wordOf seed l T % n := by
  obtain ⟨t, h1, h2⟩ := h
  obtain ⟨g1, g2, g3⟩ := tryOf_first seed l n 1000 0 t (Nat.zero_le _) (by omega) h2
  exact ⟨_, by omega, g2, fun i hi => g3 i (Nat.zero_le _) hi, rfl⟩
theorem drawOf_lt (seed : ByteArray) (l : List Int) (n : Nat) (h : 0 < n) : drawOf seed l n < n := Nat.mod_lt _ h
theorem acc_one (seed : ByteArray) (l : List Int) : Acc seed l 1 := ⟨0, by omega, by have := wordOf_lt seed l (0 : Nat); exact this⟩
theorem acc_two (seed : ByteArray) (l : List Int) : Acc seed l 2 := ⟨0, by omega, by have := wordOf_lt seed l (0 : Nat); exact this⟩
theorem drawOf_one (seed : ByteArray) (l : List Int) : drawOf seed l 1 = 0 := Nat.mod_one _
theorem drawOf_two (seed : ByteArray) (l : List Int) : drawOf seed l 2 = wordOf seed l 0 % 2 := by
  have h : wordOf seed l (0 : Nat) < lim 2 := wordOf_lt seed l (0 : Nat)
  show wordOf seed l (if wordOf seed l (0 : Nat) < lim 2 then (0 : Nat) else _ : Nat) % 2 = _
  rw [if_pos h]; rfl
/-- what a round of a loop over an iterator keeps: what lay below n₀, and every variable -/
structure KeptC (n₀ : Nat) (W W' : World) : Prop where
  below : Below n₀ W W'
  cl : ∀ (b : Nat) (cs : Array Value) (t : TypeId) (fr : Nat × Nat), W.heap[b]? = some (Obj.cells cs t fr) → W'.heap[b]? = some (Obj.cells cs t fr)
theorem KeptC.trans {n₀ : Nat} {A B C : World} (h : KeptC n₀ A B) (k : KeptC n₀ B C) : KeptC n₀ A C :=
  ⟨h.below.trans k.below, fun b cs t fr h1 => k.cl b cs t fr (h.cl b cs t fr h1)⟩
theorem KeptC.refl (n₀ : Nat) (W : World) : KeptC n₀ W W := ⟨Below.refl _ _, fun _ _ _ _ h => h⟩
theorem KeptC.of_below {n₀ : Nat} {W W' : World} (hn : n₀ ≤ W.heap.size) (h : Below W.heap.size W W') : KeptC n₀ W W' :=
  ⟨h.mono hn, fun _ _ _ _ hb => (h.block _ (lt_of_block hb)).trans hb⟩
theorem KeptC.put {n₀ : Nat} {W : World} (hn : n₀ ≤ W.heap.size) {l : Nat} {o : Obj} (o' : Obj) (hl : n₀ ≤ l) (h : W.heap[l]? = some o) (h1 : o.isCells = false) : KeptC n₀ W (W.putObj l o') := by
  refine ⟨(Below.refl n₀ W).grown (grownBy_putObj' W l o') hn (fun k e => by cases e; exact hl), fun b cs t fr hb => ?_⟩
  have hne : b ≠ l := fun e => by subst e; rw [h] at hb; cases hb; cases h1
  exact (World.putObj_heap_other hne).trans hb
/-- the iterator calls yield at X 0, X 1, ..; at X T that round says 'no more', and it returns -/
def UntilStops (m gf : Nat) (lb : Array Value) (X : Nat → Int) (T n₀ : Nat) (w : World) : Prop :=
  ∀ (l : Nat) (J Jx : World → Prop) (W : World), Below w.heap.size w W → AbidesFrom W.heap.size (fun (_ : Unit) => J) →
    (∀ i, i < T → ∀ W1, J W1 → YieldAt Fence.wide (m - 1) Tryd.prog l #[.int .i64 (X i)] W1 fun e W' => e = .returned (.bool true) ∧ J W' ∧ KeptC n₀ W1 W') →
    (∀ W1, J W1 → YieldAt Fence.wide (m - 1) Tryd.prog l #[.int .i64 (X T)] W1 fun e W' => e = .returned (.bool false) ∧ Jx W') → J W →
    CallsIn Fence.wide m Tryd.prog gf (#[.func (.yield l) #[] #[]] ++ lb) W fun e W' => (∃ v, e = .returned v) ∧ Jx W'
theorem range_until {n : Nat} {g : Operand} {ps : Array Tmp} {assign body : Code} {Q : Exit → Act → World → Prop} {a : Act} {w : World} (h1 : 1 ≤ n) {gf : Nat} {lb : Array Value} (hg : a.eval g = .func (.func gf) #[] lb)
    (eg : ∀ args w, (callFunc gf args).run Tryd.prog w = .ok (.enter gf args) w) {X : Nat → Int} {T n₀ : Nat} (hn₀ : n₀ ≤ w.heap.size) (hps : ps.size = 1) (hseq : UntilStops (n - 1) gf lb X T n₀ w) (I Ix : World → Prop) (hI : OwnFrom w.heap.size (fun (_ : Unit) => I)) (hIx : OwnFrom w.heap.size (fun (_ : Unit) => Ix)) (h0 : I w) (a₁ : Int → Act)
    (hassign : ∀ (l : Nat) (x : Int) (W : World) (K : Act → World → Prop), K (a₁ x) W → assign.wpIn (Fence.wide.inRound l) (n - 1 - 1) Tryd.prog (Exit.then K (fun _ _ _ => False)) { tmps := (ps.zip #[.int .i64 x]).foldl (fun t (p, v) => t.setIfInBounds p v) a.tmps, defers := [] } W)
    (hmore : ∀ (l i : Nat) (W : World), i < T → I W → body.wpIn (Fence.wide.inRound l) (n - 1 - 1) Tryd.prog (fun e _ W' => e = .normal ∧ KeepsOthers W W' ∧ KeptC n₀ W W' ∧ I W') (a₁ (X i)) W)
    (hbody : ∀ (l : Nat) (W : World), I W → body.wpIn (Fence.wide.inRound l) (n - 1 - 1) Tryd.prog (fun e _ W' => e = .ret ∧ KeepsOthers W W' ∧ Ix W') (a₁ (X T)) W)
    (hstop : ∀ (D : Nat) (W : World), w.heap.size ≤ D → Ix W → W.heap[D]? = some (.deferred (some [])) → Code.ret.wpIn Fence.wide n Tryd.prog Q { a with defers := { target := .collected D, args := #[] } :: a.defers } W) :
    (Code.rangeFunc g ps assign body).wpIn Fence.wide n Tryd.prog Q a w := by
  refine wpIn_rangeFunc fun fn hfn => ?_
  rw [show Fence.wide.round = none from rfl]
  -- the loop's record, and its two states that are met
  let rec0 : Loop := { state := .ready, pending := none, fn, tmps := a.tmps, params := ps, assign, body, defers := w.heap.size }
  let B := w.heap.size
  obtain ⟨V, hV⟩ : ∃ V, V = (w.alloc (.deferred (some []))).alloc (.loop rec0) := ⟨_, rfl⟩
  have hsB : (w.alloc (.deferred (some []))).heap.size = B + 1 := by simp [B]
  have hloop : V.heap[B + 1]? = some (.loop rec0) := by
    rw [hV, ← hsB]; exact World.alloc_heap_new _ _
  have hmark : V.heap[B]? = some (.deferred (some [])) := by
    rw [hV, Below.heap_alloc _ _ _ (by rw [hsB]; exact Nat.lt_succ_self _)]; exact World.alloc_heap_new w _
  have hIV : I V := by rw [hV]; exact hI.alloc (s := ()) _ (hI.alloc (s := ()) _ h0)
  have hbV : Below w.heap.size w V := by rw [hV]; exact ((Below.refl _ w).alloc (Nat.le_refl _) _).alloc (by simp) _
  refine ⟨B + 1, [{ target := .collected B, args := #[] }], V, { target := .fn (.func gf) lb, args := #[.func (.yield (B + 1)) #[] #[]] }, V, gf, #[.func (.yield (B + 1)) #[] #[]] ++ lb, V, ?_, ?_, fun _ _ => trivial, ?_, fun _ => h1, ?_⟩
  · rw [hV]; exact run_enterLoop_outer _ _ _ _ _
  · simp only [resolve, hg]
    simp [go_sem]
  · simp [invoke, go_sem, eg]
  have abide : ∀ (P : World → Prop), OwnFrom w.heap.size (fun (_ : Unit) => P) → ∀ (o : Obj), o.isCells = false → (∀ W W' row, W.grownBy W' row → (∀ r, row = some r → V.heap.size ≤ r ∧ ∃ x : Obj, W.heap[r]? = some x ∧ x.isWalk = true) → P W → W.heap[B + 1]? = some o → W.heap[B]? = some (.deferred (some [])) →
      P W' ∧ W'.heap[B + 1]? = some o ∧ W'.heap[B]? = some (.deferred (some []))) := fun P hP o ho W W' row hg' hr p hl hd => by
    have hlt : B + 1 < V.heap.size := (Array.getElem?_eq_some_iff.1 hloop).1
    have hc : ∀ r, row = some r → w.heap.size ≤ r ∧ ∃ x : Obj, W.heap[r]? = some x ∧ x.isCells = false := fun r e => by
      obtain ⟨h3, x, hx, hw⟩ := hr r e
      exact ⟨by show B ≤ r; omega, x, hx, Obj.not_cells_of_walk hw⟩
    have hne : ∀ j, j < V.heap.size → some j ≠ row := fun j hj e => by have := (hr j e.symm).1; omega
    refine ⟨hP () W W' row p hg' hc, (hg'.block _ (Array.getElem?_eq_some_iff.1 hl).1 (hne _ hlt)).trans hl, (hg'.block _ (Array.getElem?_eq_some_iff.1 hd).1 (hne _ (by omega))).trans hd⟩
  refine (hseq (B + 1) (fun W => I W ∧ W.heap[B + 1]? = some (.loop rec0) ∧ W.heap[B]? = some (.deferred (some [])))
    (fun W => Ix W ∧ W.heap[B + 1]? = some (.loop { rec0 with state := .done, pending := some .ret }) ∧ W.heap[B]? = some (.deferred (some []))) V hbV
    (fun _ W W' row hs hg' hr => abide I hI _ rfl W W' row hg' hr hs.1 hs.2.1 hs.2.2) ?_ ?_ ⟨hIV, hloop, hmark⟩).mono ?_
  · rintro i hi W ⟨hiW, hl, hd⟩
    have hlt := (Array.getElem?_eq_some_iff.1 hl).1
    have hy := run_yield (P := Tryd.prog) (args := #[.int .i64 (X i)]) hl (by rw [hps]; rfl)
    refine ⟨fn, _, assign, body, hy, roundIn_of_wpIn hfn (hassign _ (X i) W _ ⟨_, run_beginRound hl rfl, ?_⟩)⟩
    obtain ⟨W2, hW2⟩ : ∃ W2, W2 = W.putObj (B + 1) (.loop { rec0 with state := .busy }) := ⟨_, rfl⟩
    have hl2 : W2.heap[B + 1]? = some (.loop { rec0 with state := .busy }) := by rw [hW2]; exact World.putObj_heap_same hlt
    have hd2 : W2.heap[B]? = some (.deferred (some [])) := by rw [hW2]; exact (World.putObj_heap_other (by omega)).trans hd
    have hi2 : I W2 := by rw [hW2]; exact hI.putObj (s := ()) _ hiW (Nat.le_succ _) hl rfl
    have hk2 : KeptC n₀ W W2 := by rw [hW2]; exact KeptC.put (by omega) _ (by omega) hl rfl
    rw [← hW2]
    refine wpIn_mono (hmore _ i W2 hi hi2) ?_
    rintro e a3 W3 ⟨rfl, hk, hkt, hx⟩
    have hl3 := hk.same _ _ hl2 rfl
    have hd3 := hk.same _ _ hd2 rfl
    have hlt3 := (Array.getElem?_eq_some_iff.1 hl3).1
    refine ⟨_, _, run_endRound none hl3, rfl, ⟨hI.putObj (s := ()) _ hx (Nat.le_succ _) hl3 rfl, World.putObj_heap_same hlt3, (World.putObj_heap_other (by omega)).trans hd3⟩, (hk2.trans hkt).trans (KeptC.put (by omega) _ (by omega) hl3 rfl)⟩
  · rintro W ⟨hi, hl, hd⟩
    have hlt := (Array.getElem?_eq_some_iff.1 hl).1
    have hy := run_yield (P := Tryd.prog) (args := #[.int .i64 (X T)]) hl (by rw [hps]; rfl)
    refine ⟨fn, _, assign, body, hy, roundIn_of_wpIn hfn (hassign _ (X T) W _ ⟨_, run_beginRound hl rfl, ?_⟩)⟩
    obtain ⟨W2, hW2⟩ : ∃ W2, W2 = W.putObj (B + 1) (.loop { rec0 with state := .busy }) := ⟨_, rfl⟩
    have hl2 : W2.heap[B + 1]? = some (.loop { rec0 with state := .busy }) := by rw [hW2]; exact World.putObj_heap_same hlt
    have hd2 : W2.heap[B]? = some (.deferred (some [])) := by rw [hW2]; exact (World.putObj_heap_other (by omega)).trans hd
    have hi2 : I W2 := by rw [hW2]; exact hI.putObj (s := ()) _ hi (Nat.le_succ _) hl rfl
    rw [← hW2]
    refine wpIn_mono (hbody _ W2 hi2) ?_
    rintro e a3 W3 ⟨rfl, hk, hx⟩
    have hl3 := hk.same _ _ hl2 rfl
    have hd3 := hk.same _ _ hd2 rfl
    refine ⟨_, _, run_endRound (some .ret) hl3, rfl, hIx.putObj (s := ()) _ hx (Nat.le_succ _) hl3 rfl, World.putObj_heap_same (Array.getElem?_eq_some_iff.1 hl3).1, (World.putObj_heap_other (by omega)).trans hd3⟩
  · rintro e W2 ⟨⟨v, rfl⟩, hx, hl, hd⟩
    exact ⟨some .ret, _, run_endLoop hl (by simp), hstop B _ (Nat.le_refl _) (hIx.putObj (s := ()) _ hx (Nat.le_succ _) hl rfl) ((World.putObj_heap_other (by omega)).trans hd)⟩
set_option maxRecDepth 100000 in
set_option maxHeartbeats 1000000 in
theorem tries1_until (seed : ByteArray) (v : Value) (l : List Int) (m Bs Bp T : Nat) (hT : T ≤ 1000) (hm : 1 ≤ m) (w : World) (hs : w.heap[Bs]? = some (.cells #[.string seed] 9 (0, 0))) (hp : w.heap[Bp]? = some (.cells #[v] 22 (0, 0))) (wS : World) (hNS : Net seed v l wS) (hwS : Below wS.heap.size wS w) :
    UntilStops m 119 #[.pointer (some ⟨Bs, 0, none⟩), .pointer (some ⟨Bp, 0, none⟩)] (fun i => (wordOf seed l i : Nat)) T wS.heap.size w := by
  intro lp J Jx W hW hJ hY hYT h0
  have hs' := (hW.block Bs (lt_of_block hs)).trans hs
  have hp' := (hW.block Bp (lt_of_block hp)).trans hp
  have HNS := Lib.hid hNS
  have HWS := Lib.hid (hwS.trans (hW.mono hwS.size))
  have HJ := Lib.hid hJ
  have HJ0 := Lib.hid h0
  have HS := Lib.hid hs'
  have HP := Lib.hid hp'
  clear hs hp hJ h0 hNS hwS hs' hp'
  refine callsIn_of_wp Tryd.func119 rfl trivial ?_ rfl
  simp only [Tryd.ntmps119, List.size_toArray, List.length_cons, List.length_nil, Nat.reduceAdd, Nat.reduceSub, Array.replicate_succ, Array.replicate_zero, List.push_toArray, List.append_toArray, List.nil_append, List.cons_append]
  gi_wp2
  gi_loopw [4] (fun c wr => ∃ i : Nat, i ≤ T ∧ c = .int .i64 i ∧ J wr ∧ Below wS.heap.size wS wr ∧ W.heap.size ≤ wr.heap.size ∧ wr.heap[Bs]? = some (.cells #[.string seed] 9 (0, 0)) ∧ wr.heap[Bp]? = some (.cells #[v] 22 (0, 0))) (fun c _ => T - (intOf c).toNat)
  case atStart => exact ⟨0, by omega, rfl, HJ0.out, HWS.out, Nat.le_refl _, HS.out, HP.out⟩
  case round =>
    obtain ⟨i, hi, rfl, hJr, hbr, hsz, hsr, hpr⟩ := hrel
    have c1 : wr.cell? ⟨Bs, 0, none⟩ = some (.string seed) := cell_of_row _ _ _ _ _ _ hsr
    have c2 : wr.cell? ⟨Bp, 0, none⟩ = some v := cell_of_row _ _ _ _ _ _ hpr
    have hwd := word_net (HNS.out.later hbr) i (by omega)
    obtain ⟨X, hX⟩ : ∃ X, X = wordOf seed l i := ⟨_, rfl⟩
    rw [← hX] at hwd
    have HW := Lib.hid hwd
    have HX := Lib.hid hX
    have HJr := Lib.hid hJr
    have HBr := Lib.hid hbr
    have HSr := Lib.hid hsr
    have HPr := Lib.hid hpr
    have HSZ := Lib.hid hsz
    clear hwd hX hJr hbr hsr hpr hsz
    by_cases hiT : i < T
    · have hYi := hY i hiT
      clear hY hYT
      gi_wp2_with (refine ⟨trivial, ?_⟩; gi_at_call 30; refine (callsIn_wide.2 HW.out).mono ?_; rintro e w2 ⟨rfl, hb2⟩; have hJ2 := HJ.out () _ w2 none HJr.out ⟨hb2.os, hb2.tape, hb2.output, hb2.size, fun k hk _ => hb2.block k hk⟩ (fun r e => by cases e); have HB2 := Lib.hid hb2; clear hb2; have hYi2 := hYi w2 hJ2; rw [← HX.out] at hYi2; clear hYi; obtain ⟨fn, tmps, assign, body, hy, hR⟩ := hYi2; have HJ2 := Lib.hid hJ2; clear hJ2)
      refine hR.mono ?_
      rintro e W3 ⟨rfl, hJ3, hk3⟩
      have HJ3 := Lib.hid hJ3
      have HK3 := Lib.hid hk3
      clear hJ3 hk3
      gi_wp2
      go_roundw
      case rel =>
        have hk := (KeptC.of_below HBr.out.size HB2.out).trans HK3.out
        refine ⟨i + 1, by omega, by go_num, HJ3.out, HBr.out.trans hk.below, ?_, hk.cl _ _ _ _ HSr.out, hk.cl _ _ _ _ HPr.out⟩
        have := HB2.out.size; have := HK3.out.below.size; have := HSZ.out; omega
      case measure => simp [intOf]; omega
    · obtain rfl : i = T := by omega
      clear hY
      gi_wp2_with (refine ⟨trivial, ?_⟩; gi_at_call 30; refine (callsIn_wide.2 HW.out).mono ?_; rintro e w2 ⟨rfl, hb2⟩; have hJ2 := HJ.out () _ w2 none HJr.out ⟨hb2.os, hb2.tape, hb2.output, hb2.size, fun k hk _ => hb2.block k hk⟩ (fun r e => by cases e); clear hb2; have hYi2 := hYT w2 hJ2; rw [← HX.out] at hYi2; clear hYT; obtain ⟨fn, tmps, assign, body, hy, hR⟩ := hYi2; have HJ2 := Lib.hid hJ2; clear hJ2)
      refine hR.mono ?_
      rintro e W3 ⟨rfl, hJx3⟩
      gi_wp2
      go_end0
      exact ⟨⟨_, rfl⟩, hJx3⟩
set_option maxHeartbeats 1000000 in
theorem tries_in (seed : ByteArray) (ad : Option Addr) (sn sc : Nat) (w : World) :
    Calls Tryd.prog 114 #[.string seed, .slice ad sn sc] w fun e w' => e = .returned (.func (.func 119) #[] #[.pointer (some ⟨w.heap.size, 0, none⟩), .pointer (some ⟨w.heap.size + 1, 0, none⟩)]) ∧
      w' = (w.alloc (.cells #[.string seed] 9)).alloc (.cells #[.slice ad sn sc] 22) := by
  go_enter Tryd.func114, Tryd.ntmps114
  go_wp2
  go_ret
  exact ⟨rfl, rfl⟩
set_option maxRecDepth 100000 in
set_option maxHeartbeats 2000000 in
theorem below_any (seed : ByteArray) (ad : Option Addr) (sn sc : Nat) (l : List Int) (n : Nat) (hn0 : 0 < n) (hn1 : n ≤ 1099511627776) (hA : Acc seed l n) (w : World) (hN : Net seed (.slice ad sn sc) l w) :
    Calls Tryd.prog 91 #[.string seed, .slice ad sn sc, .int .i64 n] w fun e w' => e = .returned (.int .i64 (drawOf seed l n : Nat)) ∧ Below w.heap.size w w' := by
  have HN := Lib.hid hN
  clear hN
  obtain ⟨T, hT, hacc, hrej, hdr⟩ := acc_first hA
  rw [hdr]
  have hl1 := lim_le n
  obtain ⟨LM, hLM⟩ : ∃ LM, LM = lim n := ⟨_, rfl⟩
  rw [← hLM] at hacc hrej hl1
  have HLM := Lib.hid hLM
  have HREJ := Lib.hid hrej
  clear hLM hrej hA hdr
  obtain ⟨X, hX⟩ : ∃ X, X = wordOf seed l T := ⟨_, rfl⟩
  rw [← hX] at hacc ⊢
  have HX := Lib.hid hX
  clear hX
  refine (callsIn_wide (n := 3)).1 ?_
  refine callsIn_of_wp_marks Tryd.func91 rfl trivial ?_ rfl
  simp only [Tryd.ntmps91, List.size_toArray, List.length_cons, List.length_nil, Nat.reduceAdd, Nat.reduceSub, Array.replicate_succ, Array.replicate_zero, List.push_toArray, List.append_toArray, List.nil_append, List.cons_append]
  gi_wp2_with (refine ⟨trivial, ?_⟩; gi_at_call 114; refine (callsIn_wide.2 (tries_in seed ad sn sc _)).mono ?_; rintro e w4 ⟨rfl, hw4⟩; have HW4 := Lib.hid hw4; clear hw4)
  have hs4 : w4.heap.size = w.heap.size + 4 := by rw [HW4.out]; simp
  obtain ⟨w2, hw2⟩ : ∃ w2, w2 = (w.alloc (.cells #[.int .i64 n] 3)).alloc (.cells #[.int .i64 0] 3) := ⟨_, rfl⟩
  have e4 : w4 = (w2.alloc (.cells #[.string seed] 9)).alloc (.cells #[.slice ad sn sc] 22) := by rw [HW4.out, hw2]
  have hs2 : w2.heap.size = w.heap.size + 2 := by rw [hw2]; simp
  have b02 : Below w.heap.size w w2 := by rw [hw2]; exact ((Below.refl _ _).alloc (Nat.le_refl _) _).alloc (by simp) _
  have b24 : Below w2.heap.size w2 w4 := by rw [e4]; exact ((Below.refl _ _).alloc (Nat.le_refl _) _).alloc (by simp) _
  have hB4 : Below w.heap.size w w4 := b02.trans (b24.mono (by omega))
  have bn : Boxed w4 w.heap.size 3 (.int .i64 n) := by
    show w4.heap[w.heap.size]? = _
    rw [b24.block _ (by omega), hw2]; exact heap_alloc2_old _ _ _
  have br : Boxed w4 (w.heap.size + 1) 3 (.int .i64 0) := by
    show w4.heap[w.heap.size + 1]? = _
    rw [b24.block _ (by omega), hw2]; exact heap_alloc2_new _ _ _
  have bs : w4.heap[w.heap.size + 1 + 1]? = some (.cells #[.string seed] 9 (0, 0)) := by
    have := heap_alloc2_old w2 (.cells #[.string seed] 9 (0, 0)) (.cells #[.slice ad sn sc] 22 (0, 0))
    rw [← e4, hs2] at this
    exact this
  have bp : w4.heap[w.heap.size + 1 + 1 + 1]? = some (.cells #[.slice ad sn sc] 22 (0, 0)) := by
    have := heap_alloc2_new w2 (.cells #[.string seed] 9 (0, 0)) (.cells #[.slice ad sn sc] 22 (0, 0))
    rw [← e4, hs2] at this
    exact this
  have hst := tries1_until seed (.slice ad sn sc) l (3 - 1) (w.heap.size + 1 + 1) (w.heap.size + 1 + 1 + 1) T hT (by omega) w4 bs bp w HN.out hB4
  clear HW4 hw2 e4 hs2 b02 b24 bs bp
  refine range_until (by omega) (gf := 119) (lb := #[.pointer (some ⟨w.heap.size + 1 + 1, 0, none⟩), .pointer (some ⟨w.heap.size + 1 + 1 + 1, 0, none⟩)]) rfl (enters_of Tryd.func119 (by kernel_rfl) rfl) hB4.size rfl hst
    (fun W => Boxed W w.heap.size 3 (.int .i64 n) ∧ Boxed W (w.heap.size + 1) 3 (.int .i64 0) ∧ Below w.heap.size w W)
    (fun W => Boxed W (w.heap.size + 1) 3 (.int .i64 (X % n : Nat)) ∧ Below w.heap.size w W)
    (OwnFrom.and (Own.from (boxed_own _ _ _) _) (OwnFrom.and (Own.from (boxed_own _ _ _) _) (ownFrom_below (Nat.le_refl _) (by omega))))
    (OwnFrom.and (Own.from (boxed_own _ _ _) _) (ownFrom_below (Nat.le_refl _) (by omega)))
    ⟨bn, br, hB4⟩
    (fun x => { tmps := #[.string seed, .slice ad sn sc, .int .i64 n, undef, undef, .pointer (some ⟨w.heap.size, 0, none⟩), .pointer (some ⟨w.heap.size + 1, 0, none⟩), .int .i64 x, .string seed, .slice ad sn sc, .func (.func 119) #[] #[.pointer (some ⟨w.heap.size + 1 + 1, 0, none⟩), .pointer (some ⟨w.heap.size + 1 + 1 + 1, 0, none⟩)],
        .int .i64 x, undef, undef, undef, undef, undef, undef, undef, undef, undef], defers := [] }) ?assign ?more ?body ?stop
  case assign =>
    intro lp x W K hK
    gi_wp2
    exact hK
  case more =>
    rintro lp i W hiT ⟨h1, h2, h3⟩
    have hrj := HREJ.out i hiT
    rw [HLM.out] at hrj
    obtain ⟨Y, hY⟩ : ∃ Y, Y = wordOf seed l i := ⟨_, rfl⟩
    rw [← hY] at hrj ⊢
    clear hY
    have c1 := h1.cell
    have H1 := Lib.hid h1
    have H2 := Lib.hid h2
    have H3 := Lib.hid h3
    clear h1 h2 h3
    have hz : ¬ ((n : Int) = 0) := by omega
    have hd : decide ((Y : Int) < IntKind.i64.wrap (281474976710656 / (n : Int) * (n : Int))) = false := by
      rw [lim_int n]
      simp; omega
    have HD := Lib.hid hd
    clear hd hrj hl1 hacc
    gi_wp2
    gi_region
    all_goals
      rw [HD.out]
      generalize IntKind.i64.wrap (281474976710656 / (n : Int) * (n : Int)) = z2
      generalize 281474976710656 / (n : Int) = z1
      gi_wp2
    all_goals exact ⟨KeepsOthers.drew W, KeptC.of_below H3.out.size ((Below.refl _ _).drew), H1.out, H2.out, H3.out.drew⟩
  case body =>
    rintro lp W ⟨h1, h2, h3⟩
    rw [← HX.out]
    have hz : ¬ ((n : Int) = 0) := by omega
    have c1 := h1.cell
    have c2 := h2.cell
    have f2 := h2.frozen
    have H2 := Lib.hid h2
    have H3 := Lib.hid h3
    clear h1 h2 h3
    have hd : decide ((X : Int) < IntKind.i64.wrap (281474976710656 / (n : Int) * (n : Int))) = true := by
      rw [lim_int n, ← HLM.out]
      simp; omega
    have HD := Lib.hid hd
    have HACC := Lib.hid hacc
    clear hd hacc hl1
    gi_wp2
    gi_region
    all_goals
      rw [HD.out]
      generalize IntKind.i64.wrap (281474976710656 / (n : Int) * (n : Int)) = z2
      generalize 281474976710656 / (n : Int) = z1
      gi_wp2
    all_goals exact ⟨⟨(KeepsOthers.setCell W ⟨w.heap.size + 1, 0, none⟩ (.int .i64 ((X : Int) % (n : Int)))).size, (KeepsOthers.setCell W ⟨w.heap.size + 1, 0, none⟩ (.int .i64 ((X : Int) % (n : Int)))).same⟩, H2.out.set _, (H3.out.setCell (p := ⟨w.heap.size + 1, 0, none⟩) (Nat.le_succ _) _).drew⟩
  case stop =>
    rintro D W hD ⟨h1, h2⟩ hK
    have c1 := h1.cell
    gi_wp2
    refine ⟨by simp, .inl ⟨_, _, rfl, run_takeDeferred hK, ?_⟩⟩
    have hcr := cell_kept c1 (grownBy_putObj' _ D (.deferred none)) (fun r e => by cases e; exact ⟨_, hK, rfl⟩)
    refine ⟨.int .i64 (X % n : Nat), ?_, rfl, h2.trans (belowK_b (w := w) (Nat.le_refl _) W D _ _ (by omega) hK rfl rfl)⟩
    simp [results, Tryd.results91, go_sem, hcr]
end Go.Proofs.YtfkpeabkcdhcfaaDoor
namespace Go.Proofs.YtfkpeabkcdhcfaaDoor
open Go.RowKit
set_option maxRecDepth 100000
theorem valid_any (seed : ByteArray) (ad : Option Addr) (sn sc : Nat) (hs : seed.size ≤ 32) (hp : sn ≤ 8) (w : World) : Calls Tryd.prog 90 #[.string seed, .slice ad sn sc] w fun e w' => e = .returned (.bool true) ∧ w = w' := by
  have h1 : (seed.size : Int) ≤ 32 := by omega
  have h2 : (sn : Int) ≤ 8 := by omega
  go_enter Tryd.func90, Tryd.ntmps90
  go_wp2
  go_ret
  exact ⟨rfl, rfl⟩
theorem checked_d (seed : ByteArray) (ad : Option Addr) (sn sc : Nat) (hs : seed.size ≤ 32) (hp : sn ≤ 8) (B : Nat) (u : FrameMode) (w : World) :
    CallsD Tryd.prog 89 #[.string seed, .slice ad sn sc, .bool true, .pointer (some ⟨B, 0, none⟩)] u w fun e u' w' => u' = u ∧ (e = .returned (.tuple #[]) ∧ w' = w) := by
  go_enter_d Tryd.func89, Tryd.ntmps89
  go_wp2_with (go_at_call 90; refine (valid_any seed ad sn sc hs hp _).mono ?_; rintro e w' ⟨rfl, rfl⟩)
  go_end0
  exact ⟨rfl, rfl⟩
/-- the number of a draw from lo to hi -/
def btwOf (seed : ByteArray) (l : List Int) (lo hi : Int) : Int := lo + (drawOf seed l (hi - lo + 1).toNat : Nat)
theorem btwOf_bd (seed : ByteArray) (l : List Int) (lo hi : Int) (h : lo ≤ hi) : lo ≤ btwOf seed l lo hi ∧ btwOf seed l lo hi ≤ hi := by
  have := drawOf_lt seed l (hi - lo + 1).toNat (by omega)
  unfold btwOf
  omega
theorem btwOf_eq (seed : ByteArray) (l : List Int) (lo : Int) : btwOf seed l lo lo = lo := by
  have := btwOf_bd seed l lo lo (Int.le_refl _)
  omega
theorem btwOf_move (seed : ByteArray) (l : List Int) (lo hi k : Int) : btwOf seed l (lo + k) (hi + k) = btwOf seed l lo hi + k := by
  unfold btwOf
  rw [show hi + k - (lo + k) + 1 = hi - lo + 1 by omega]
  omega
set_option maxHeartbeats 1000000 in
theorem between_any (seed : ByteArray) (ad : Option Addr) (sn sc : Nat) (l : List Int) (lo hi : Int) (h1 : -1099511627776 ≤ lo) (h2 : hi ≤ 1099511627776) (h3 : lo ≤ hi) (h4 : hi - lo < 1099511627776) (hs : seed.size ≤ 32) (hp : sn ≤ 8) (hA : Acc seed l (hi - lo + 1).toNat) (w : World) (hN : Net seed (.slice ad sn sc) l w) :
    Calls Tryd.prog 57 #[.string seed, .slice ad sn sc, .int .i64 lo, .int .i64 hi] w fun e w' => e = .returned (.tuple #[.int .i64 (btwOf seed l lo hi), .int .i64 0]) ∧ Below w.heap.size w w' := by
  have HN := Lib.hid hN
  have hb0 : Below w.heap.size w (w.alloc (.cells #[.int .i64 0] 26)) := (Below.refl _ _).alloc (Nat.le_refl _) _
  have HB0 := Lib.hid hb0
  have hdl := drawOf_lt seed l (hi - lo + 1).toNat (by omega)
  have hbl := below_any seed ad sn sc l (hi - lo + 1).toNat (by omega) (by omega) hA _ (hN.later hb0)
  unfold btwOf
  obtain ⟨Y, hY⟩ : ∃ Y, Y = drawOf seed l (hi - lo + 1).toNat := ⟨_, rfl⟩
  rw [← hY] at hdl hbl ⊢
  rw [show (((hi - lo + 1).toNat : Nat) : Int) = hi - lo + 1 by omega] at hbl
  have HBL := Lib.hid hbl
  have hlt : (Y : Int) ≤ hi - lo := by omega
  have g1 : hi - lo < 1099511627776 := h4
  clear hN hb0 hA hbl hY hdl
  go_enter_defers Tryd.func57, Tryd.ntmps57
  go_wp2_with (first
    | (go_at_call 90; refine (valid_any seed ad sn sc hs hp _).mono ?_; rintro e w' ⟨rfl, rfl⟩)
    | (go_at_call 91; refine HBL.out.mono ?_; rintro e w2 ⟨rfl, hb2⟩; have hc : w2.cell? ⟨w.heap.size, 0, none⟩ = some (.int .i64 0) := (hb2.cell (p := ⟨w.heap.size, 0, none⟩) (by simp)).trans (cell_of_row _ _ _ _ _ _ (heap_alloc_new _ _)); have hf : w2.frozen? ⟨w.heap.size, 0, none⟩ = false := (hb2.frozen (p := ⟨w.heap.size, 0, none⟩) (by simp)).trans (frozen_of_row _ _ _ _ _ (heap_alloc_new _ _)); have HB2 := Lib.hid (HB0.out.trans (hb2.mono (by simp))); clear hb2))
  refine leaves_cons (f := 89) (args := #[.string seed, .slice ad sn sc, .bool true, .pointer (some ⟨w.heap.size, 0, none⟩)]) (by simp) (by simp [go_sem]) ?_
  refine (checked_d seed ad sn sc hs hp w.heap.size .returning _).mono ?_
  rintro e u' w'' ⟨rfl, rfl, rfl⟩
  have hcr : (w2.setCell ⟨w.heap.size, 0, none⟩ (.int .i64 0)).cell? ⟨w.heap.size, 0, none⟩ = some (.int .i64 0) := World.cell?_setCell_same' _ _ _ (by rw [hc]; rfl)
  refine ⟨.tuple #[.int .i64 (lo + (Y : Int)), .int .i64 0], ?_, rfl, HB2.out.setCell (p := ⟨w.heap.size, 0, none⟩) (Nat.le_refl _) _⟩
  simp [results, Tryd.results57, go_sem, hcr]
end Go.Proofs.YtfkpeabkcdhcfaaDoor
namespace Go.Proofs.YtfkpeabkcdhcfaaDoor
open Go.RowKit
set_option maxRecDepth 100000
/-- a split and a node as values -/
def spV (seed : ByteArray) (v : Value) (total N lo hi : Int) : Array Value := #[.string seed, v, .int .i64 total, .int .i64 N, .int .i64 lo, .int .i64 hi]
def ndV (a n t : Int) : Array Value := #[.int .i64 a, .int .i64 n, .int .i64 t]
structure HoldH (w : World) (sp nd : Array Value) (wx : World) : Prop where
  s : wx.heap[w.heap.size]? = some (.cells sp 43 (0, 0))
  x : wx.heap[w.heap.size + 1]? = some (.cells nd 98 (0, 0))
  r1 : wx.heap[w.heap.size + 2]? = some (.cells (ndV 0 0 0) 98 (0, 0))
  r2 : wx.heap[w.heap.size + 3]? = some (.cells (ndV 0 0 0) 98 (0, 0))
  below : Below w.heap.size w wx
  size : w.heap.size + 4 ≤ wx.heap.size
theorem HoldH.later {w : World} {sp nd : Array Value} {wx wy : World} (h : HoldH w sp nd wx) (hb : Below wx.heap.size wx wy) : HoldH w sp nd wy :=
  ⟨(hb.block _ (lt_of_block h.s)).trans h.s, (hb.block _ (lt_of_block h.x)).trans h.x, (hb.block _ (lt_of_block h.r1)).trans h.r1, (hb.block _ (lt_of_block h.r2)).trans h.r2, h.below.trans (hb.mono (by have := h.size; omega)), Nat.le_trans h.size hb.size⟩
theorem holdH_mk (w : World) (sp nd : Array Value) : HoldH w sp nd ((((w.alloc (.cells sp 43)).alloc (.cells nd 98)).alloc (.cells (ndV 0 0 0) 98)).alloc (.cells (ndV 0 0 0) 98)) := by
  have e1 : (w.alloc (.cells sp 43)).heap.size = w.heap.size + 1 := by simp
  have e2 : ((w.alloc (.cells sp 43)).alloc (.cells nd 98)).heap.size = w.heap.size + 2 := by simp
  have e3 : (((w.alloc (.cells sp 43)).alloc (.cells nd 98)).alloc (.cells (ndV 0 0 0) 98)).heap.size = w.heap.size + 3 := by simp
  refine ⟨?_, ?_, ?_, ?_, ((((Below.refl _ _).alloc (Nat.le_refl _) _).alloc (by omega) _).alloc (by omega) _).alloc (by omega) _, by simp⟩
  · rw [Below.heap_alloc _ _ _ (by omega), Below.heap_alloc _ _ _ (by omega), Below.heap_alloc _ _ _ (by omega)]; exact heap_alloc_new _ _
  · rw [Below.heap_alloc _ _ _ (by omega), Below.heap_alloc _ _ _ (by omega)]; exact heap_alloc2_new _ _ _
  · rw [Below.heap_alloc _ _ _ (by omega)]
    have := heap_alloc_new ((w.alloc (.cells sp 43)).alloc (.cells nd 98)) (.cells (ndV 0 0 0) 98 (0, 0))
    rw [e2] at this; exact this
  · have := heap_alloc_new (((w.alloc (.cells sp 43)).alloc (.cells nd 98)).alloc (.cells (ndV 0 0 0) 98)) (.cells (ndV 0 0 0) 98 (0, 0))
    rw [e3] at this; exact this
theorem OwnI.base {b b2 : Nat} {v : Value} {l : List Int} {w : World} (h : OwnI b v l w) (hb : b2 ≤ b) : OwnI b2 v l w := by
  refine ⟨h.1, ?_⟩
  rcases h.2 with h2 | ⟨g, cap, cur, h1, h2, h3⟩
  · exact .inl h2
  · exact .inr ⟨g, cap, cur, h1, Nat.le_trans hb h2, h3⟩
/-- append of two integers, at a step of a region that draws -/
theorem step_append2 {ops : Array Oper} {o : Oper} {A : Act} {K : Act → World → Prop} {Q : Exit → Act → World → Prop} {E : Prop} {w : World} (base : Nat) (v : Value) (l : List Int) (hown : OwnI base v l w) (hgd : o.guard = none) (x y : Operand)
    (ho : o.op = .call { callee := .builtin .append, args := #[x, y], argTypes := #[22, 22] }) (hx : A.eval x = v) (B c : Nat) (p q : Int) (hy : A.eval y = .slice (some ⟨B, 0, none⟩) 2 c)
    (hB : w.heap[B]? = some (.cells #[.int .i64 p, .int .i64 q] 3 (0, 0))) (hbd : l.length ≤ 1000000) (hbase : base ≤ w.heap.size) (W0 : World) (hb : Below base W0 w)
    (h : ∀ g cap w1, OwnI base (.slice (some ⟨g, 0, none⟩) (l.length + 2) cap) (l ++ [p, q]) w1 → Below base W0 w1 → K (A.put o.dst (.slice (some ⟨g, 0, none⟩) (l.length + 2) cap)) w1) :
    if Region.wanted o (yielded ops A.tmps) = true then Oper.wp Tryd.prog o A w K Q else E := by
  obtain ⟨i0, hi0, hz0, hz1, hz2⟩ := info_parts infoI
  refine step_append_lies w hgd x y 22 ho base 3 i0 (.int .i64 0) 1 8 Tryd.underlying22 hi0 hz0 hz1 hz2 rfl (by decide) v l.length (l.map (Value.int .i64)) hx hown ⟨B, 0, none⟩ 2 c [.int .i64 p, .int .i64 q] hy rfl
    (World.news_of_block (cs := #[.int .i64 p, .int .i64 q]) hB) (by simp [Value.oneCell']) (by decide) (by unfold maxLen; omega) (by omega) hbase w.heap.size rfl ?_
  intro g cap w1 hown1 hgrow _ _
  refine h g cap w1 ?_ (hb.grown hgrow hbase (own_row_le hown))
  unfold OwnI
  rw [List.map_append, List.length_append]
  exact hown1
theorem info98 : (Tryd.prog.info? 98).map (·.size) = some 3 := by kernel_rfl
theorem set3 (w : World) (g : Nat) (x y z p q r : Value) (t : TypeId) (h : w.heap[g]? = some (.cells #[x, y, z] t (0, 0))) :
    (((w.setCell ⟨g, 0, none⟩ p).setCell ⟨g, 1, none⟩ q).setCell ⟨g, 2, none⟩ r).heap[g]? = some (.cells #[p, q, r] t (0, 0)) := by
  simp [World.setCell, Array.getElem?_modify, h]
theorem results_two_rows {fn : Func} {p q : Tmp} {ty : TypeId} (h : fn.results = #[.cell p ty, .cell q ty]) (tmps : Array Value) (w : World) (g1 g2 : Nat) (cs1 cs2 : Array Value)
    (hp : tmps.getD p undef = .pointer (some ⟨g1, 0, none⟩)) (hq : tmps.getD q undef = .pointer (some ⟨g2, 0, none⟩)) (h1 : (loadVar ty ⟨g1, 0, none⟩).run Tryd.prog w = .ok (.agg cs1) w) (h2 : (loadVar ty ⟨g2, 0, none⟩).run Tryd.prog w = .ok (.agg cs2) w) :
    (results fn tmps).run Tryd.prog w = .ok (.tuple #[.agg cs1, .agg cs2]) w := by
  have hp' : tmps[p]?.getD undef = .pointer (some ⟨g1, 0, none⟩) := by simpa using hp
  have hq' : tmps[q]?.getD undef = .pointer (some ⟨g2, 0, none⟩) := by simpa using hq
  simp [results, h, hp', hq', asAddr, h1, h2]
set_option maxHeartbeats 2000000 in
theorem halves_gen (seed : ByteArray) (ad : Option Addr) (sn sc : Nat) (l : List Int) (total N lo hi : Int) (a n : Nat) (T D z : Int) (hT : (-1099511627776 ≤ T ∧ T ≤ 1099511627776) ∧ -1099511627776 ≤ D ∧ D ≤ 1099511627776) (hn : 2 ≤ n) (hn2 : n ≤ 65536) (ha : a ≤ 65536) (hp : sn ≤ 6)
    (hcall : ∀ (g cap : Nat) (wx : World), Net seed (.slice (some ⟨g, 0, none⟩) (l.length + 2) cap) (l ++ [(a : Int), (n : Int)]) wx → Calls Tryd.prog 57 #[.string seed, .slice (some ⟨g, 0, none⟩) (l.length + 2) cap,
      .int .i64 (max (wrap64 ((n / 2 : Nat) * lo)) (wrap64 (T - wrap64 ((n - n / 2 : Nat) * hi)))), .int .i64 (min (wrap64 ((n / 2 : Nat) * hi)) (wrap64 (T - wrap64 ((n - n / 2 : Nat) * lo))))] wx fun e w' => e = .returned (.tuple #[.int .i64 D, .int .i64 z]) ∧ Below wx.heap.size wx w')
    (w : World) (hN : Net seed (.slice ad sn sc) l w) (hsn : sn = l.length) :
    Calls Tryd.prog 112 #[.agg (spV seed (.slice ad sn sc) total N lo hi), .agg (ndV a n T)] w fun e w' => e = .returned (.tuple #[.agg (ndV a (n / 2 : Nat) D), .agg (ndV (a + n / 2 : Nat) (n - n / 2 : Nat) (T - D))]) ∧ Below w.heap.size w w' := by
  have HCALL := Lib.hid hcall
  have HT := Lib.hid hT
  clear hcall hT
  have HN := Lib.hid hN
  have HSN := Lib.hid hsn
  have hh := holdH_mk w (spV seed (.slice ad sn sc) total N lo hi) (ndV a n T)
  have HH := Lib.hid hh
  clear hN hsn hh
  unfold spV ndV
  go_enter Tryd.func112, Tryd.ntmps112
  go_upto_region 1 with fail
  obtain ⟨W1, hW1⟩ : ∃ W1, W1 = (((w.alloc (.cells (spV seed (.slice ad sn sc) total N lo hi) 43)).alloc (.cells (ndV a n T) 98)).alloc (.cells (ndV 0 0 0) 98)).alloc (.cells (ndV 0 0 0) 98) := ⟨_, rfl⟩
  rw [← hW1] at HH
  change Code.wp Tryd.prog _ _ _ ((((w.alloc (.cells (spV seed (.slice ad sn sc) total N lo hi) 43)).alloc (.cells (ndV a n T) 98)).alloc (.cells (ndV 0 0 0) 98)).alloc (.cells (ndV 0 0 0) 98))
  rw [← hW1]
  clear hW1
  have x0 : W1.cell? ⟨w.heap.size + 1, 0, none⟩ = some (.int .i64 a) := cell_of_row _ _ _ _ _ _ HH.out.x
  have x1 : W1.cell? ⟨w.heap.size + 1, 1, none⟩ = some (.int .i64 n) := cell_of_row _ _ _ _ _ _ HH.out.x
  have s1 : W1.cell? ⟨w.heap.size, 1, none⟩ = some (.slice ad sn sc) := cell_of_row _ _ _ _ _ _ HH.out.s
  go_quiet (fail)
  go_wp2_with fail
  rw [show (n : Int) / 2 = ((n / 2 : Nat) : Int) from rfl]
  obtain ⟨L, hL⟩ : ∃ L, L = n / 2 := ⟨_, rfl⟩
  rw [← hL] at HCALL ⊢
  rw [show (n : Int) - (L : Int) = ((n - L : Nat) : Int) by omega]
  obtain ⟨R, hR⟩ : ∃ R, R = n - L := ⟨_, rfl⟩
  rw [← hR] at HCALL ⊢
  have hL1 : 1 ≤ L := by omega
  have hR1 : 1 ≤ R := by omega
  have hLR : L + R = n := by omega
  have hL2 : L ≤ 32768 := by omega
  have hR2 : R ≤ 65536 := by omega
  have HLN := Lib.hid hL
  have HRN := Lib.hid hR
  clear hL hR
  obtain ⟨W2, hW2⟩ : ∃ W2, W2 = W1.drewN nq := ⟨_, rfl⟩
  rw [← hW2]
  have h2 : HoldH w (spV seed (.slice ad sn sc) total N lo hi) (ndV a n T) W2 := by rw [hW2]; exact HH.out.later (below_drewN (Below.refl _ _) _)
  have HH2 := Lib.hid h2
  clear hW2 h2 x0 x1 s1
  have x0 : W2.cell? ⟨w.heap.size + 1, 0, none⟩ = some (.int .i64 a) := cell_of_row _ _ _ _ _ _ HH2.out.x
  have x1 : W2.cell? ⟨w.heap.size + 1, 1, none⟩ = some (.int .i64 n) := cell_of_row _ _ _ _ _ _ HH2.out.x
  have s1 : W2.cell? ⟨w.heap.size, 1, none⟩ = some (.slice ad sn sc) := cell_of_row _ _ _ _ _ _ HH2.out.s
  have hN2 := HN.out.later HH2.out.below
  have HN2 := Lib.hid hN2
  clear hN2
  obtain ⟨i0, hi0, hz0, hz1, hz2⟩ := info_parts infoI
  go_region_held3 (fun w' => w'.cell? ⟨w.heap.size, 1, none⟩ = some (.slice ad sn sc) ∧ w'.cell? ⟨w.heap.size + 1, 0, none⟩ = some (.int .i64 a) ∧ w'.cell? ⟨w.heap.size + 1, 1, none⟩ = some (.int .i64 n))
    (first | go_keep | exact ⟨cell_of_row _ _ _ _ _ _ (HH2.out.later HB6.out).s, cell_of_row _ _ _ _ _ _ (HH2.out.later HB6.out).x, cell_of_row _ _ _ _ _ _ (HH2.out.later HB6.out).x⟩ | exact ⟨cell_of_row _ _ _ _ _ _ (HH2.out.later HB5.out).s, cell_of_row _ _ _ _ _ _ (HH2.out.later HB5.out).x, cell_of_row _ _ _ _ _ _ (HH2.out.later HB5.out).x⟩)
    (first
      | (go_at_call 73
         first
           | (with_reducible refine (clone_any (.slice ad sn sc) l (by have := HN2.out.hl; omega) W2.drew (HN2.out.later ((Below.refl _ _).drew)).hr).mono ?_)
             rintro e w5 ⟨v5, rfl, hown, hb5⟩
             have HB5 := Lib.hid (show Below W2.heap.size W2 w5 from Below.drew_l (show Below W2.heap.size W2.drew w5 from hb5))
             have HV5 := Lib.hid (show OwnI W2.heap.size v5 l w5 from hown)
             clear hb5 hown
           | (with_reducible refine (clone_any (.slice ad sn sc) l (by have := HN2.out.hl; omega) ((W2.alloc (.cells #[.int .i64 a, .int .i64 n] 3)).drew) (HN2.out.later (((Below.refl _ _).alloc (Nat.le_refl _) _).drew)).hr).mono ?_)
             rintro e w5 ⟨v5, rfl, hown, hb5⟩
             have HB5 := Lib.hid (show Below W2.heap.size W2 w5 from (((Below.refl _ _).alloc (Nat.le_refl _) _).drew).trans (hb5.mono (by simp)))
             have HV5 := Lib.hid (show OwnI W2.heap.size v5 l w5 from hown.base (by simp))
             have HX5 := Lib.hid (show w5.heap[W2.heap.size]? = some (.cells #[.int .i64 a, .int .i64 n] 3 (0, 0)) from (hb5.block W2.heap.size (by simp)).trans (heap_alloc_new W2 _))
             clear hb5 hown
           )
      | (refine step_append2 W2.heap.size v5 l (HV5.out.later ((Below.refl _ _).alloc (Nat.le_refl _) _)) (by rfl) _ _ (by rfl) (by rfl) w5.heap.size 2 a n (by rfl) (heap_alloc_new _ _) (by have := HN2.out.hl; omega) (Nat.le_trans HB5.out.size (by simp)) W2 (HB5.out.alloc HB5.out.size _) ?_
         intro g cap w6 hown hb6
         have HB6 := Lib.hid hb6
         have HV6 := Lib.hid hown
         clear hown hb6)
      | (refine step_append2 W2.heap.size v5 l HV5.out (by rfl) _ _ (by rfl) (by rfl) W2.heap.size 2 a n (by rfl) HX5.out (by have := HN2.out.hl; omega) HB5.out.size W2 HB5.out ?_
         intro g cap w6 hown hb6
         have HB6 := Lib.hid hb6
         have HV6 := Lib.hid hown
         clear hown hb6))
  all_goals
    clear x0 x1 s1
    have hW6 := HH2.out.later HB6.out
    have hN6 := HN2.out.later HB6.out
    have HH6 := Lib.hid hW6
    have HN6 := Lib.hid hN6
    clear hW6 hN6
    have x0 : w6.cell? ⟨w.heap.size + 1, 0, none⟩ = some (.int .i64 a) := cell_of_row _ _ _ _ _ _ HH6.out.x
    have x2 : w6.cell? ⟨w.heap.size + 1, 2, none⟩ = some (.int .i64 T) := cell_of_row _ _ _ _ _ _ HH6.out.x
    have s0 : w6.cell? ⟨w.heap.size, 0, none⟩ = some (.string seed) := cell_of_row _ _ _ _ _ _ HH6.out.s
    have s4 : w6.cell? ⟨w.heap.size, 4, none⟩ = some (.int .i64 lo) := cell_of_row _ _ _ _ _ _ HH6.out.s
    have s5 : w6.cell? ⟨w.heap.size, 5, none⟩ = some (.int .i64 hi) := cell_of_row _ _ _ _ _ _ HH6.out.s
    go_wp2_with fail
    have hOI : OwnI W2.heap.size (.slice (some ⟨g, 0, none⟩) (l.length + 2) cap) (l ++ [(a : Int), (n : Int)]) w6 := HV6.out
    have hN7 : Net seed (.slice (some ⟨g, 0, none⟩) (l.length + 2) cap) (l ++ [(a : Int), (n : Int)]) w6 := by
      refine ⟨HN6.out.hs, ?_, ?_, HN6.out.h0, HN6.out.hK, hOI.read⟩
      · have := HSN.out; simp; omega
      · intro m hm
        rcases List.mem_append.1 hm with h | h
        · exact HN6.out.h64 m h
        · simp at h; omega
    go_at_call 57
    with_reducible refine (HCALL.out g cap w6 hN7).mono ?_
    rintro e w7 ⟨rfl, hb7⟩
    have HH7 := Lib.hid (HH6.out.later hb7)
    clear hN7 hb7 hOI x0 x2 s0 s4 s5
    have x0 : w7.cell? ⟨w.heap.size + 1, 0, none⟩ = some (.int .i64 a) := cell_of_row _ _ _ _ _ _ HH7.out.x
    have x2 : w7.cell? ⟨w.heap.size + 1, 2, none⟩ = some (.int .i64 T) := cell_of_row _ _ _ _ _ _ HH7.out.x
    have hw1 : IntKind.i64.wrap (T - D) = T - D := by have := HT.out; simp only [IntKind.wrap_i64]; omega
    have hw2 : IntKind.i64.wrap ((a : Int) + (L : Int)) = ((a + L : Nat) : Int) := by simp only [IntKind.wrap_i64]; omega
    go_wp2_with fail
    have r1c0 : w7.cell? ⟨w.heap.size + 1 + 1, 0, none⟩ = some (.int .i64 0) := cell_of_row _ _ _ _ _ _ HH7.out.r1
    have r1f0 : w7.frozen? ⟨w.heap.size + 1 + 1, 0, none⟩ = false := frozen_of_row _ _ _ _ _ HH7.out.r1
    have r1c1 : w7.cell? ⟨w.heap.size + 1 + 1, 1, none⟩ = some (.int .i64 0) := cell_of_row _ _ _ _ _ _ HH7.out.r1
    have r1f1 : w7.frozen? ⟨w.heap.size + 1 + 1, 1, none⟩ = false := frozen_of_row _ _ _ _ _ HH7.out.r1
    have r1c2 : w7.cell? ⟨w.heap.size + 1 + 1, 2, none⟩ = some (.int .i64 0) := cell_of_row _ _ _ _ _ _ HH7.out.r1
    have r1f2 : w7.frozen? ⟨w.heap.size + 1 + 1, 2, none⟩ = false := frozen_of_row _ _ _ _ _ HH7.out.r1
    have r2c0 : w7.cell? ⟨w.heap.size + 1 + 1 + 1, 0, none⟩ = some (.int .i64 0) := cell_of_row _ _ _ _ _ _ HH7.out.r2
    have r2f0 : w7.frozen? ⟨w.heap.size + 1 + 1 + 1, 0, none⟩ = false := frozen_of_row _ _ _ _ _ HH7.out.r2
    have r2c1 : w7.cell? ⟨w.heap.size + 1 + 1 + 1, 1, none⟩ = some (.int .i64 0) := cell_of_row _ _ _ _ _ _ HH7.out.r2
    have r2f1 : w7.frozen? ⟨w.heap.size + 1 + 1 + 1, 1, none⟩ = false := frozen_of_row _ _ _ _ _ HH7.out.r2
    have r2c2 : w7.cell? ⟨w.heap.size + 1 + 1 + 1, 2, none⟩ = some (.int .i64 0) := cell_of_row _ _ _ _ _ _ HH7.out.r2
    have r2f2 : w7.frozen? ⟨w.heap.size + 1 + 1 + 1, 2, none⟩ = false := frozen_of_row _ _ _ _ _ HH7.out.r2
    go_region_held3 (fun w' => w'.cell? ⟨w.heap.size + 1, 0, none⟩ = some (.int .i64 a) ∧ w'.cell? ⟨w.heap.size + 1, 2, none⟩ = some (.int .i64 T))
      (first
        | (refine ⟨?_, ?_⟩ <;> ((try rw [World.cell?_drew]); (repeat rw [World.cell?_setCell_far _ _ _ _ (by dsimp only; omega)]); assumption))
        | go_keep) (fail)
    go_wp2
    have k1 := set3 w7 (w.heap.size + 1 + 1) _ _ _ (.int .i64 (a : Int)) (.int .i64 (L : Int)) (.int .i64 D) 98 HH7.out.r1
    have k2 := set3 (((w7.setCell ⟨w.heap.size + 1 + 1, 0, none⟩ (.int .i64 (a : Int))).setCell ⟨w.heap.size + 1 + 1, 1, none⟩ (.int .i64 (L : Int))).setCell ⟨w.heap.size + 1 + 1, 2, none⟩ (.int .i64 D)) (w.heap.size + 1 + 1 + 1) (.int .i64 0) (.int .i64 0) (.int .i64 0) (.int .i64 ((a : Int) + (L : Int))) (.int .i64 (R : Int)) (.int .i64 (T - D)) 98 (by
      rw [Below.heap_setCell _ _ _ _ (by dsimp only; omega), Below.heap_setCell _ _ _ _ (by dsimp only; omega), Below.heap_setCell _ _ _ _ (by dsimp only; omega)]; exact HH7.out.r2)
    have hdh : ∀ W : World, W.drew.heap = W.heap := fun _ => rfl
    refine bodyPost_ret (v := .tuple #[.agg (ndV a (L : Nat) D), .agg (ndV (a + L : Nat) (R : Nat) (T - D))]) (results_two_rows rfl _ _ (w.heap.size + 1 + 1) (w.heap.size + 1 + 1 + 1) (ndV a (L : Nat) D) (ndV (a + L : Nat) (R : Nat) (T - D)) rfl rfl ?_ ?_) rfl ⟨?_, ?_⟩
    · refine run_loadVar_row _ _ 98 98 _ (0, 0) _ ?_ Tryd.underlying98 rfl info98
      rw [hdh, Below.heap_setCell _ _ _ _ (by dsimp only; omega), Below.heap_setCell _ _ _ _ (by dsimp only; omega), Below.heap_setCell _ _ _ _ (by dsimp only; omega)]
      exact k1
    · refine run_loadVar_row _ _ 98 98 _ (0, 0) _ ?_ Tryd.underlying98 rfl info98
      rw [hdh]
      exact k2
    · rw [← HLN.out, ← HRN.out]; rfl
    · exact ((((((HH7.out.below.setCell (by dsimp only; omega) _).setCell (by dsimp only; omega) _).setCell (by dsimp only; omega) _).setCell (by dsimp only; omega) _).setCell (by dsimp only; omega) _).setCell (by dsimp only; omega) _).drew
/-- the left total of a node -/
def leftOf (seed : ByteArray) (l : List Int) (lo hi : Int) (a n : Nat) (t : Int) : Int :=
  btwOf seed (l ++ [(a : Int), (n : Int)]) (max ((n / 2 : Nat) * lo) (t - (n - n / 2 : Nat) * hi)) (min ((n / 2 : Nat) * hi) (t - (n - n / 2 : Nat) * lo))
/-- how many left totals a node can have -/
def rangeOf (lo hi : Int) (n : Nat) (t : Int) : Nat :=
  (min ((n / 2 : Nat) * hi) (t - (n - n / 2 : Nat) * lo) - max ((n / 2 : Nat) * lo) (t - (n - n / 2 : Nat) * hi) + 1).toNat
theorem mul_bound (m : Nat) (hm : m ≤ 65536) (x : Int) (h1 : -1048576 ≤ x) (h2 : x ≤ 1048576) : -68719476736 ≤ (m : Int) * x ∧ (m : Int) * x ≤ 68719476736 := by
  have h3 : (m : Int) * x ≤ m * 1048576 := Int.mul_le_mul_of_nonneg_left h2 (by omega)
  have h4 : (m : Int) * (-1048576) ≤ m * x := Int.mul_le_mul_of_nonneg_left h1 (by omega)
  omega
/-- the totals of a node's halves -/
structure NodeOk (lo hi : Int) (n : Nat) (t : Int) : Prop where
  n2 : n ≤ 65536
  lo1 : -1048576 ≤ lo
  hi1 : hi ≤ 1048576
  lh : lo ≤ hi
  t1 : n * lo ≤ t
  t2 : t ≤ n * hi
theorem NodeOk.left {seed : ByteArray} {l : List Int} {lo hi : Int} {a n : Nat} {t : Int} (h : NodeOk lo hi n t) :
    (NodeOk lo hi (n / 2) (leftOf seed l lo hi a n t)) ∧ NodeOk lo hi (n - n / 2) (t - leftOf seed l lo hi a n t) := by
  obtain ⟨h1, h2, h3, h4, h5, h6⟩ := h
  have e1 : (n : Int) * lo = (n / 2 : Nat) * lo + (n - n / 2 : Nat) * lo := by rw [← Int.add_mul]; congr 1; omega
  have e2 : (n : Int) * hi = (n / 2 : Nat) * hi + (n - n / 2 : Nat) * hi := by rw [← Int.add_mul]; congr 1; omega
  have e3 : ((n / 2 : Nat) : Int) * lo ≤ (n / 2 : Nat) * hi := Int.mul_le_mul_of_nonneg_left h4 (by omega)
  have e4 : ((n - n / 2 : Nat) : Int) * lo ≤ (n - n / 2 : Nat) * hi := Int.mul_le_mul_of_nonneg_left h4 (by omega)
  have hb := btwOf_bd seed (l ++ [(a : Int), (n : Int)]) (max ((n / 2 : Nat) * lo) (t - (n - n / 2 : Nat) * hi)) (min ((n / 2 : Nat) * hi) (t - (n - n / 2 : Nat) * lo)) (by omega)
  unfold leftOf
  refine ⟨⟨by omega, h2, h3, h4, by omega, by omega⟩, ⟨by omega, h2, h3, h4, by omega, by omega⟩⟩
theorem halves_ok (seed : ByteArray) (ad : Option Addr) (sn sc : Nat) (l : List Int) (total N lo hi : Int) (a n : Nat) (t : Int) (hk : NodeOk lo hi n t) (hn : 2 ≤ n) (ha : a ≤ 65536) (hA : Acc seed (l ++ [(a : Int), (n : Int)]) (rangeOf lo hi n t)) (hs : seed.size ≤ 32) (hp : sn ≤ 6) (w : World) (hN : Net seed (.slice ad sn sc) l w) (hsn : sn = l.length) :
    Calls Tryd.prog 112 #[.agg (spV seed (.slice ad sn sc) total N lo hi), .agg (ndV a n t)] w fun e w' => e = .returned (.tuple #[.agg (ndV a (n / 2 : Nat) (leftOf seed l lo hi a n t)), .agg (ndV (a + n / 2 : Nat) (n - n / 2 : Nat) (t - leftOf seed l lo hi a n t))]) ∧ Below w.heap.size w w' := by
  have hl := (hk.left (seed := seed) (l := l) (a := a)).1
  obtain ⟨h1, h2, h3, h4, h5, h6⟩ := hk
  have e0 := mul_bound n h1 lo h2 (by omega)
  have e1 := mul_bound n h1 hi (by omega) h3
  have e2 := mul_bound (n / 2) (by omega) lo h2 (by omega)
  have e3 := mul_bound (n / 2) (by omega) hi (by omega) h3
  have e4 := mul_bound (n - n / 2) (by omega) lo h2 (by omega)
  have e5 := mul_bound (n - n / 2) (by omega) hi (by omega) h3
  have s1 : (n : Int) * lo = (n / 2 : Nat) * lo + (n - n / 2 : Nat) * lo := by rw [← Int.add_mul]; congr 1; omega
  have s2 : (n : Int) * hi = (n / 2 : Nat) * hi + (n - n / 2 : Nat) * hi := by rw [← Int.add_mul]; congr 1; omega
  have s3 : ((n / 2 : Nat) : Int) * lo ≤ (n / 2 : Nat) * hi := Int.mul_le_mul_of_nonneg_left h4 (by omega)
  have s4 : ((n - n / 2 : Nat) : Int) * lo ≤ (n - n / 2 : Nat) * hi := Int.mul_le_mul_of_nonneg_left h4 (by omega)
  have hw : ∀ x : Int, -1099511627776 ≤ x → x ≤ 1099511627776 → wrap64 x = x := by
    intro x h1 h2
    unfold wrap64; omega
  have l1 := hl.t1
  have l2 := hl.t2
  refine halves_gen seed ad sn sc l total N lo hi a n t _ 0 ⟨by omega, by omega⟩ hn h1 ha hp ?_ w hN hsn
  intro g cap wx hNx
  rw [hw (((n / 2 : Nat) : Int) * lo) (by omega) (by omega), hw (((n - n / 2 : Nat) : Int) * hi) (by omega) (by omega), hw (((n / 2 : Nat) : Int) * hi) (by omega) (by omega), hw (((n - n / 2 : Nat) : Int) * lo) (by omega) (by omega), hw _ (by omega) (by omega), hw _ (by omega) (by omega)]
  exact between_any seed _ _ _ _ _ _ (by omega) (by omega) (by omega) (by omega) hs (by omega) hA wx hNx
end Go.Proofs.YtfkpeabkcdhcfaaDoor
namespace Go.Proofs.YtfkpeabkcdhcfaaDoor
open Go.RowKit
set_option maxRecDepth 100000
set_option maxHeartbeats 1000000 in
theorem vs_ok (seed : ByteArray) (ad : Option Addr) (sn sc : Nat) (total : Int) (N : Nat) (lo hi : Int) (hs : seed.size ≤ 32) (hp : sn ≤ 6) (hk : NodeOk lo hi N total) (w : World) :
    Calls Tryd.prog 46 #[.agg (spV seed (.slice ad sn sc) total N lo hi)] w fun e w' => e = .returned (.int .i64 0) ∧ Below w.heap.size w w' := by
  obtain ⟨hN, hlo, hhi, hlh, ht1, ht2⟩ := hk
  have h1 : ¬ (32 < (seed.size : Int)) := by omega
  have h2 : ¬ (6 < (sn : Int)) := by omega
  have h3 : ¬ (65536 < (N : Int)) := by omega
  have h4 : ¬ (min lo hi < -1048576) := by omega
  have h5 : ¬ (1048576 < max lo hi) := by omega
  have h6 : ¬ ((N : Int) < 0) := by omega
  have h7 : ¬ (hi < lo) := by omega
  have b1 := mul_bound N hN lo hlo (by omega)
  have b2 := mul_bound N hN hi (by omega) hhi
  have w1 : IntKind.i64.wrap ((N : Int) * lo) = (N : Int) * lo := by simp only [IntKind.wrap_i64]; omega
  have w2 : IntKind.i64.wrap ((N : Int) * hi) = (N : Int) * hi := by simp only [IntKind.wrap_i64]; omega
  have h8 : ¬ (total < (N : Int) * lo) := by omega
  have h9 : ¬ ((N : Int) * hi < total) := by omega
  unfold spV
  go_enter Tryd.func46, Tryd.ntmps46
  go_wp2
  go_ret
  exact ⟨rfl, (Below.refl _ _).alloc (Nat.le_refl _) _⟩
/-- a split of nothing with a sum is refused -/
theorem vs_none (w : World) : Calls Tryd.prog 46 #[.agg (spV default (.slice none 0 0) 7 0 0 9)] w fun e w' => e = .returned (.int .i64 5) ∧ Below w.heap.size w w' := by
  unfold spV
  go_enter Tryd.func46, Tryd.ntmps46
  go_wp2
  go_ret
  exact ⟨rfl, (Below.refl _ _).alloc (Nat.le_refl _) _⟩
theorem info43 : (Tryd.prog.info? 43).map (·.size) = some 6 := by kernel_rfl
set_option maxHeartbeats 1000000 in
theorem own_any (seed : ByteArray) (ad : Option Addr) (sn sc : Nat) (total N lo hi : Int) (w : World) : Calls Tryd.prog 45 #[.agg (spV seed (.slice ad sn sc) total N lo hi)] w fun e w' => e = .returned (.agg (spV seed (.slice ad sn sc) total N lo hi)) ∧ Below w.heap.size w w' := by
  have hrow : ((w.alloc (.cells (spV seed (.slice ad sn sc) total N lo hi) 55)).alloc (.cells #[.string ⟨#[]⟩, .slice none 0 0, .int .i64 0, .int .i64 0, .int .i64 0, .int .i64 0] 43)).heap[w.heap.size + 1]? = some (.cells #[.string ⟨#[]⟩, .slice none 0 0, .int .i64 0, .int .i64 0, .int .i64 0, .int .i64 0] 43 (0, 0)) := by
    have := heap_alloc_new (w.alloc (.cells (spV seed (.slice ad sn sc) total N lo hi) 55)) (.cells #[.string ⟨#[]⟩, .slice none 0 0, .int .i64 0, .int .i64 0, .int .i64 0, .int .i64 0] 43 (0, 0))
    rw [show (w.alloc (.cells (spV seed (.slice ad sn sc) total N lo hi) 55)).heap.size = w.heap.size + 1 by simp] at this
    exact this
  have hsp : ((w.alloc (.cells (spV seed (.slice ad sn sc) total N lo hi) 55)).alloc (.cells #[.string ⟨#[]⟩, .slice none 0 0, .int .i64 0, .int .i64 0, .int .i64 0, .int .i64 0] 43)).heap[w.heap.size]? = some (.cells (spV seed (.slice ad sn sc) total N lo hi) 55 (0, 0)) := by
    rw [Below.heap_alloc _ _ _ (by simp)]; exact heap_alloc_new _ _
  have hb : Below w.heap.size w ((w.alloc (.cells (spV seed (.slice ad sn sc) total N lo hi) 55)).alloc (.cells #[.string ⟨#[]⟩, .slice none 0 0, .int .i64 0, .int .i64 0, .int .i64 0, .int .i64 0] 43)) := ((Below.refl _ _).alloc (Nat.le_refl _) _).alloc (by simp) _
  unfold spV at hrow hsp hb ⊢
  go_enter Tryd.func45, Tryd.ntmps45
  go_upto_region 1 with fail
  change Code.wp Tryd.prog _ _ _ ((w.alloc (.cells #[.string seed, .slice ad sn sc, .int .i64 total, .int .i64 N, .int .i64 lo, .int .i64 hi] 55)).alloc (.cells #[.string ⟨#[]⟩, .slice none 0 0, .int .i64 0, .int .i64 0, .int .i64 0, .int .i64 0] 43))
  obtain ⟨W1, hW1⟩ : ∃ W1, W1 = (w.alloc (.cells #[.string seed, .slice ad sn sc, .int .i64 total, .int .i64 N, .int .i64 lo, .int .i64 hi] 55)).alloc (.cells #[.string ⟨#[]⟩, .slice none 0 0, .int .i64 0, .int .i64 0, .int .i64 0, .int .i64 0] 43) := ⟨_, rfl⟩
  rw [← hW1] at hrow hsp hb ⊢
  clear hW1
  have c0 : W1.cell? ⟨w.heap.size, 0, none⟩ = some (.string seed) := cell_of_row _ _ _ _ _ _ hsp
  have c1 : W1.cell? ⟨w.heap.size, 1, none⟩ = some (.slice ad sn sc) := cell_of_row _ _ _ _ _ _ hsp
  have c2 : W1.cell? ⟨w.heap.size, 2, none⟩ = some (.int .i64 total) := cell_of_row _ _ _ _ _ _ hsp
  have c3 : W1.cell? ⟨w.heap.size, 3, none⟩ = some (.int .i64 N) := cell_of_row _ _ _ _ _ _ hsp
  have c4 : W1.cell? ⟨w.heap.size, 4, none⟩ = some (.int .i64 lo) := cell_of_row _ _ _ _ _ _ hsp
  have c5 : W1.cell? ⟨w.heap.size, 5, none⟩ = some (.int .i64 hi) := cell_of_row _ _ _ _ _ _ hsp
  have HR := Lib.hid hrow
  have HB := Lib.hid hb
  clear hrow hsp hb
  go_wp2_with ((with_reducible show wpList _ _ _ ((⟨_, Op.store 43 _ _, _, _, _, _⟩ : Oper) :: _) _ _); refine wpList_store_row rfl 43 (.tmp 2) (.tmp 15) rfl (w.heap.size + 1) #[.string seed, .slice ad sn sc, .int .i64 total, .int .i64 N, .int .i64 lo, .int .i64 hi] rfl rfl 43 _ HR.out info43 rfl (by simp [Value.oneCell']) ?_)
  refine bodyPost_ret (v := .agg #[.string seed, .slice ad sn sc, .int .i64 total, .int .i64 N, .int .i64 lo, .int .i64 hi]) (results_cell_row rfl _ _ (w.heap.size + 1) _ _ _ _ rfl (setRow_heap _ _ _ _ _ _ HR.out) Tryd.underlying43 rfl info43) rfl ⟨rfl, below_setRow HB.out (by omega) _⟩
/-- the iterator of the leaves -/
theorem leaves_in (seed : ByteArray) (v : Value) (total N lo hi a n T : Int) (w : World) :
    Calls Tryd.prog 83 #[.agg (spV seed v total N lo hi), .agg (ndV a n T)] w fun e w' => e = .returned (.func (.func 111) #[] #[.pointer (some ⟨w.heap.size + 1, 0, none⟩), .pointer (some ⟨w.heap.size, 0, none⟩)]) ∧
      w' = (w.alloc (.cells (spV seed v total N lo hi) 43)).alloc (.cells (ndV a n T) 98) := by
  unfold spV ndV
  go_enter Tryd.func83, Tryd.ntmps83
  go_wp2
  go_ret
  exact ⟨rfl, rfl⟩
end Go.Proofs.YtfkpeabkcdhcfaaDoor
