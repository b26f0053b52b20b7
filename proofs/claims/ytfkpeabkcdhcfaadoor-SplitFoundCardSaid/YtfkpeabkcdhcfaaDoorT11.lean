/-
  A range over a function whose body leaves in some later round; the walks of draw.tries and draw.below where a word is accepted at last.
  Walks of draw.valid, checked and Between, for every range, where a word is accepted at last.
  Walk of halves.
  Walks of split.Valid, own and leaves.
  Walk of the iterator of leaves.
  Walk of the iterator of leaves.
  A range over a function whose iterator writes rows of nodes of its own.
  Walk of split.All.
  The parts of a node, in plain Lean; All of a split returns them, where each node's draw is accepted at last.
  Walk of down: the way to a part, for every choice of the halves.
  Walks of to, Part, Before and Find, for valid splits whose draws are accepted at last.
  Plain laws of the parts: both bounds moved; halves; the way to a part and to a unit.
-/
import Derived.Test.YtfkpeabkcdhcfaaDoorR1
import Derived.RangeFuncBox
import Derived.RangeFuncNested
import Derived.RangeFuncBound
import Derived.RangeFuncCalls
import Derived.RangeFuncLeaves
import Derived.Shelf.Abstract
import Derived.Shelf.RegionOpen
import Derived.WalkKit
import Derived.OwnWalkIn
import Derived.TacticsInMore
import Derived.LoopNIn
import Derived.LoopIn
import Derived.Maps.AppendAt
import Derived.Defers
import Derived.Deep.DeepCutAuto
import Derived.BigQuiet
import Derived.BigRegion
import Derived.Deep.QuietTactic
import Derived.Deep.Onto
import Derived.Deep.RegionHeld3
import Derived.Deep.AppendLies
import Derived.Maps.OwnIn
import Derived.LoopN
namespace Go.Proofs.YtfkpeabkcdhcfaaDoor
open Go.RowKit Go.Shelf
attribute [local go_sem] Oper.semAt_some
/-- the greatest multiple of n that is at most 2^48 -/
def lim (n : Nat) : Nat := 281474976710656 / n * n
theorem lim_le (n : Nat) : lim n ≤ 281474976710656 := Nat.div_mul_le_self _ _
theorem lim_gt (n : Nat) (h : 0 < n) : 281474976710656 < lim n + n := by
  unfold lim
  have h1 := Nat.div_add_mod 281474976710656 n
  have h2 := Nat.mod_lt 281474976710656 h
  rw [Nat.mul_comm] at h1
  omega
theorem lim_int (n : Nat) : IntKind.i64.wrap (281474976710656 / (n : Int) * (n : Int)) = (lim n : Int) := by
  have h := lim_le n
  rw [show 281474976710656 / (n : Int) * (n : Int) = ((lim n : Nat) : Int) from rfl]
  obtain ⟨m, hm⟩ : ∃ m, m = lim n := ⟨_, rfl⟩
  rw [← hm] at h ⊢
  simp only [IntKind.wrap_i64]
  omega
/-- one of the first tries is accepted -/
def Acc (seed : ByteArray) (l : List Int) (n : Nat) : Prop := ∃ t : Nat, t ≤ 1000 ∧ wordOf seed l t < lim n
def tryOf (seed : ByteArray) (l : List Int) (n : Nat) : Nat → Nat → Nat
  | 0, t => t
  | k + 1, t => if wordOf seed l t < lim n then t else tryOf seed l n k (t + 1)
/-- the draw below n -/
def drawOf (seed : ByteArray) (l : List Int) (n : Nat) : Nat := wordOf seed l (tryOf seed l n 1000 0) % n
theorem tryOf_first (seed : ByteArray) (l : List Int) (n : Nat) (k : Nat) : ∀ t s : Nat, t ≤ s → s ≤ t + k → wordOf seed l s < lim n →
    tryOf seed l n k t ≤ t + k ∧ wordOf seed l (tryOf seed l n k t) < lim n ∧ ∀ i : Nat, t ≤ i → i < tryOf seed l n k t → lim n ≤ wordOf seed l i := by
  induction k with
  | zero =>
    intro t s h1 h2 h3
    obtain rfl : s = t := Nat.le_antisymm h2 h1
    exact ⟨Nat.le_refl _, h3, fun i h4 h5 => absurd h5 (Nat.not_lt.2 h4)⟩
  | succ k ih =>
    intro t s h1 h2 h3
    by_cases h : wordOf seed l t < lim n
    · have e : tryOf seed l n (k + 1) t = t := if_pos h
      rw [e]
      exact ⟨Nat.le_add_right _ _, h, fun i h4 h5 => absurd h5 (Nat.not_lt.2 h4)⟩
    · have e : tryOf seed l n (k + 1) t = tryOf seed l n k (t + 1) := if_neg h
      rw [e]
      have hst : s ≠ t := fun e => h (e ▸ h3)
      obtain ⟨g1, g2, g3⟩ := ih (t + 1) s (Nat.lt_of_le_of_ne h1 (Ne.symm hst)) (by rw [Nat.add_right_comm]; exact h2) h3
      refine ⟨by rw [Nat.add_right_comm] at g1; exact g1, g2, fun i h4 h5 => ?_⟩
      rcases Nat.eq_or_lt_of_le h4 with h6 | h6
      · rw [← h6]; exact Nat.not_lt.1 h
      · exact g3 i h6 h5
theorem acc_first {seed : ByteArray} {l : List Int} {n : Nat} (h : Acc seed l n) : ∃ T : Nat, T ≤ 1000 ∧ wordOf seed l T < lim n ∧ (∀ i : Nat, i < T → lim n ≤ wordOf seed l i) ∧ drawOf seed l n = wordOf seed l T % n := by
  obtain ⟨t, h1, h2⟩ := h
  obtain ⟨g1, g2, g3⟩ := tryOf_first seed l n 1000 0 t (Nat.zero_le _) (by omega) h2
  exact ⟨_, by omega, g2, fun i hi => g3 i (Nat.zero_le _) hi, rfl⟩
theorem drawOf_lt (seed : ByteArray) (l : List Int) (n : Nat) (h : 0 < n) : drawOf seed l n < n := Nat.mod_lt _ h
theorem acc_one (seed : ByteArray) (l : List Int) : Acc seed l 1 := ⟨0, by omega, by have := wordOf_lt seed l (0 : Nat); exact this⟩
theorem acc_two (seed : ByteArray) (l : List Int) : Acc seed l 2 := ⟨0, by omega, by have := wordOf_lt seed l (0 : Nat); exact this⟩
theorem drawOf_one (seed : ByteArray) (l : List Int) : drawOf seed l 1 = 0 := Nat.mod_one _
theorem drawOf_two (seed : ByteArray) (l : List Int) : drawOf seed l 2 = wordOf seed l 0 % 2 := by
  have h : wordOf seed l (0 : Nat) < lim 2 := wordOf_lt seed l (0 : Nat)
  show wordOf seed l (if wordOf seed l (0 : Nat) < lim 2 then (0 : Nat) else _ : Nat) % 2 = _
  rw [if_pos h]; rfl
/-- what a round of a loop over an iterator keeps: what lay below n₀, and every variable -/
structure KeptC (n₀ : Nat) (W W' : World) : Prop where
  below : Below n₀ W W'
  cl : ∀ (b : Nat) (cs : Array Value) (t : TypeId) (fr : Nat × Nat), W.heap[b]? = some (Obj.cells cs t fr) → W'.heap[b]? = some (Obj.cells cs t fr)
theorem KeptC.trans {n₀ : Nat} {A B C : World} (h : KeptC n₀ A B) (k : KeptC n₀ B C) : KeptC n₀ A C :=
  ⟨h.below.trans k.below, fun b cs t fr h1 => k.cl b cs t fr (h.cl b cs t fr h1)⟩
theorem KeptC.refl (n₀ : Nat) (W : World) : KeptC n₀ W W := ⟨Below.refl _ _, fun _ _ _ _ h => h⟩
theorem KeptC.of_below {n₀ : Nat} {W W' : World} (hn : n₀ ≤ W.heap.size) (h : Below W.heap.size W W') : KeptC n₀ W W' :=
  ⟨h.mono hn, fun _ _ _ _ hb => (h.block _ (lt_of_block hb)).trans hb⟩
theorem KeptC.put {n₀ : Nat} {W : World} (hn : n₀ ≤ W.heap.size) {l : Nat} {o : Obj} (o' : Obj) (hl : n₀ ≤ l) (h : W.heap[l]? = some o) (h1 : o.isCells = false) : KeptC n₀ W (W.putObj l o') := by
  refine ⟨(Below.refl n₀ W).grown (grownBy_putObj' W l o') hn (fun k e => by cases e; exact hl), fun b cs t fr hb => ?_⟩
  have hne : b ≠ l := fun e => by subst e; rw [h] at hb; cases hb; cases h1
  exact (World.putObj_heap_other hne).trans hb
/-- the iterator calls yield at X 0, X 1, ..; at X T that round says 'no more', and it returns -/
def UntilStops (m gf : Nat) (lb : Array Value) (X : Nat → Int) (T n₀ : Nat) (w : World) : Prop :=
  ∀ (l : Nat) (J Jx : World → Prop) (W : World), Below w.heap.size w W → AbidesFrom W.heap.size (fun (_ : Unit) => J) →
    (∀ i, i < T → ∀ W1, J W1 → YieldAt Fence.wide (m - 1) Tryd.prog l #[.int .i64 (X i)] W1 fun e W' => e = .returned (.bool true) ∧ J W' ∧ KeptC n₀ W1 W') →
    (∀ W1, J W1 → YieldAt Fence.wide (m - 1) Tryd.prog l #[.int .i64 (X T)] W1 fun e W' => e = .returned (.bool false) ∧ Jx W') → J W →
    CallsIn Fence.wide m Tryd.prog gf (#[.func (.yield l) #[] #[]] ++ lb) W fun e W' => (∃ v, e = .returned v) ∧ Jx W'
theorem range_until {n : Nat} {g : Operand} {ps : Array Tmp} {assign body : Code} {Q : Exit → Act → World → Prop} {a : Act} {w : World} (h1 : 1 ≤ n) {gf : Nat} {lb : Array Value} (hg : a.eval g = .func (.func gf) #[] lb)
    (eg : ∀ args w, (callFunc gf args).run Tryd.prog w = .ok (.enter gf args) w) {X : Nat → Int} {T n₀ : Nat} (hn₀ : n₀ ≤ w.heap.size) (hps : ps.size = 1) (hseq : UntilStops (n - 1) gf lb X T n₀ w) (I Ix : World → Prop) (hI : OwnFrom w.heap.size (fun (_ : Unit) => I)) (hIx : OwnFrom w.heap.size (fun (_ : Unit) => Ix)) (h0 : I w) (a₁ : Int → Act)
    (hassign : ∀ (l : Nat) (x : Int) (W : World) (K : Act → World → Prop), K (a₁ x) W → assign.wpIn (Fence.wide.inRound l) (n - 1 - 1) Tryd.prog (Exit.then K (fun _ _ _ => False)) { tmps := (ps.zip #[.int .i64 x]).foldl (fun t (p, v) => t.setIfInBounds p v) a.tmps, defers := [] } W)
    (hmore : ∀ (l i : Nat) (W : World), i < T → I W → body.wpIn (Fence.wide.inRound l) (n - 1 - 1) Tryd.prog (fun e _ W' => e = .normal ∧ KeepsOthers W W' ∧ KeptC n₀ W W' ∧ I W') (a₁ (X i)) W)
    (hbody : ∀ (l : Nat) (W : World), I W → body.wpIn (Fence.wide.inRound l) (n - 1 - 1) Tryd.prog (fun e _ W' => e = .ret ∧ KeepsOthers W W' ∧ Ix W') (a₁ (X T)) W)
    (hstop : ∀ (D : Nat) (W : World), w.heap.size ≤ D → Ix W → W.heap[D]? = some (.deferred (some [])) → Code.ret.wpIn Fence.wide n Tryd.prog Q { a with defers := { target := .collected D, args := #[] } :: a.defers } W) :
    (Code.rangeFunc g ps assign body).wpIn Fence.wide n Tryd.prog Q a w := by
  refine wpIn_rangeFunc fun fn hfn => ?_
  rw [show Fence.wide.round = none from rfl]
  -- the loop's record, and its two states that are met
  let rec0 : Loop := { state := .ready, pending := none, fn, tmps := a.tmps, params := ps, assign, body, defers := w.heap.size }
  let B := w.heap.size
  obtain ⟨V, hV⟩ : ∃ V, V = (w.alloc (.deferred (some []))).alloc (.loop rec0) := ⟨_, rfl⟩
  have hsB : (w.alloc (.deferred (some []))).heap.size = B + 1 := by simp [B]
  have hloop : V.heap[B + 1]? = some (.loop rec0) := by
    rw [hV, ← hsB]; exact World.alloc_heap_new _ _
  have hmark : V.heap[B]? = some (.deferred (some [])) := by
    rw [hV, Below.heap_alloc _ _ _ (by rw [hsB]; exact Nat.lt_succ_self _)]; exact World.alloc_heap_new w _
  have hIV : I V := by rw [hV]; exact hI.alloc (s := ()) _ (hI.alloc (s := ()) _ h0)
  have hbV : Below w.heap.size w V := by rw [hV]; exact ((Below.refl _ w).alloc (Nat.le_refl _) _).alloc (by simp) _
  refine ⟨B + 1, [{ target := .collected B, args := #[] }], V, { target := .fn (.func gf) lb, args := #[.func (.yield (B + 1)) #[] #[]] }, V, gf, #[.func (.yield (B + 1)) #[] #[]] ++ lb, V, ?_, ?_, fun _ _ => trivial, ?_, fun _ => h1, ?_⟩
  · rw [hV]; exact run_enterLoop_outer _ _ _ _ _
  · simp only [resolve, hg]
    simp [go_sem]
  · simp [invoke, go_sem, eg]
  have abide : ∀ (P : World → Prop), OwnFrom w.heap.size (fun (_ : Unit) => P) → ∀ (o : Obj), o.isCells = false → (∀ W W' row, W.grownBy W' row → (∀ r, row = some r → V.heap.size ≤ r ∧ ∃ x : Obj, W.heap[r]? = some x ∧ x.isWalk = true) → P W → W.heap[B + 1]? = some o → W.heap[B]? = some (.deferred (some [])) →
      P W' ∧ W'.heap[B + 1]? = some o ∧ W'.heap[B]? = some (.deferred (some []))) := fun P hP o ho W W' row hg' hr p hl hd => by
    have hlt : B + 1 < V.heap.size := (Array.getElem?_eq_some_iff.1 hloop).1
    have hc : ∀ r, row = some r → w.heap.size ≤ r ∧ ∃ x : Obj, W.heap[r]? = some x ∧ x.isCells = false := fun r e => by
      obtain ⟨h3, x, hx, hw⟩ := hr r e
      exact ⟨by show B ≤ r; omega, x, hx, Obj.not_cells_of_walk hw⟩
    have hne : ∀ j, j < V.heap.size → some j ≠ row := fun j hj e => by have := (hr j e.symm).1; omega
    refine ⟨hP () W W' row p hg' hc, (hg'.block _ (Array.getElem?_eq_some_iff.1 hl).1 (hne _ hlt)).trans hl, (hg'.block _ (Array.getElem?_eq_some_iff.1 hd).1 (hne _ (by omega))).trans hd⟩
  refine (hseq (B + 1) (fun W => I W ∧ W.heap[B + 1]? = some (.loop rec0) ∧ W.heap[B]? = some (.deferred (some [])))
    (fun W => Ix W ∧ W.heap[B + 1]? = some (.loop { rec0 with state := .done, pending := some .ret }) ∧ W.heap[B]? = some (.deferred (some []))) V hbV
    (fun _ W W' row hs hg' hr => abide I hI _ rfl W W' row hg' hr hs.1 hs.2.1 hs.2.2) ?_ ?_ ⟨hIV, hloop, hmark⟩).mono ?_
  · rintro i hi W ⟨hiW, hl, hd⟩
    have hlt := (Array.getElem?_eq_some_iff.1 hl).1
    have hy := run_yield (P := Tryd.prog) (args := #[.int .i64 (X i)]) hl (by rw [hps]; rfl)
    refine ⟨fn, _, assign, body, hy, roundIn_of_wpIn hfn (hassign _ (X i) W _ ⟨_, run_beginRound hl rfl, ?_⟩)⟩
    obtain ⟨W2, hW2⟩ : ∃ W2, W2 = W.putObj (B + 1) (.loop { rec0 with state := .busy }) := ⟨_, rfl⟩
    have hl2 : W2.heap[B + 1]? = some (.loop { rec0 with state := .busy }) := by rw [hW2]; exact World.putObj_heap_same hlt
    have hd2 : W2.heap[B]? = some (.deferred (some [])) := by rw [hW2]; exact (World.putObj_heap_other (by omega)).trans hd
    have hi2 : I W2 := by rw [hW2]; exact hI.putObj (s := ()) _ hiW (Nat.le_succ _) hl rfl
    have hk2 : KeptC n₀ W W2 := by rw [hW2]; exact KeptC.put (by omega) _ (by omega) hl rfl
    rw [← hW2]
    refine wpIn_mono (hmore _ i W2 hi hi2) ?_
    rintro e a3 W3 ⟨rfl, hk, hkt, hx⟩
    have hl3 := hk.same _ _ hl2 rfl
    have hd3 := hk.same _ _ hd2 rfl
    have hlt3 := (Array.getElem?_eq_some_iff.1 hl3).1
    refine ⟨_, _, run_endRound none hl3, rfl, ⟨hI.putObj (s := ()) _ hx (Nat.le_succ _) hl3 rfl, World.putObj_heap_same hlt3, (World.putObj_heap_other (by omega)).trans hd3⟩, (hk2.trans hkt).trans (KeptC.put (by omega) _ (by omega) hl3 rfl)⟩
  · rintro W ⟨hi, hl, hd⟩
    have hlt := (Array.getElem?_eq_some_iff.1 hl).1
    have hy := run_yield (P := Tryd.prog) (args := #[.int .i64 (X T)]) hl (by rw [hps]; rfl)
    refine ⟨fn, _, assign, body, hy, roundIn_of_wpIn hfn (hassign _ (X T) W _ ⟨_, run_beginRound hl rfl, ?_⟩)⟩
    obtain ⟨W2, hW2⟩ : ∃ W2, W2 = W.putObj (B + 1) (.loop { rec0 with state := .busy }) := ⟨_, rfl⟩
    have hl2 : W2.heap[B + 1]? = some (.loop { rec0 with state := .busy }) := by rw [hW2]; exact World.putObj_heap_same hlt
    have hd2 : W2.heap[B]? = some (.deferred (some [])) := by rw [hW2]; exact (World.putObj_heap_other (by omega)).trans hd
    have hi2 : I W2 := by rw [hW2]; exact hI.putObj (s := ()) _ hi (Nat.le_succ _) hl rfl
    rw [← hW2]
    refine wpIn_mono (hbody _ W2 hi2) ?_
    rintro e a3 W3 ⟨rfl, hk, hx⟩
    have hl3 := hk.same _ _ hl2 rfl
    have hd3 := hk.same _ _ hd2 rfl
    refine ⟨_, _, run_endRound (some .ret) hl3, rfl, hIx.putObj (s := ()) _ hx (Nat.le_succ _) hl3 rfl, World.putObj_heap_same (Array.getElem?_eq_some_iff.1 hl3).1, (World.putObj_heap_other (by omega)).trans hd3⟩
  · rintro e W2 ⟨⟨v, rfl⟩, hx, hl, hd⟩
    exact ⟨some .ret, _, run_endLoop hl (by simp), hstop B _ (Nat.le_refl _) (hIx.putObj (s := ()) _ hx (Nat.le_succ _) hl rfl) ((World.putObj_heap_other (by omega)).trans hd)⟩
set_option maxRecDepth 100000 in
set_option maxHeartbeats 1000000 in
theorem tries1_until (seed : ByteArray) (v : Value) (l : List Int) (m Bs Bp T : Nat) (hT : T ≤ 1000) (hm : 1 ≤ m) (w : World) (hs : w.heap[Bs]? = some (.cells #[.string seed] 9 (0, 0))) (hp : w.heap[Bp]? = some (.cells #[v] 22 (0, 0))) (wS : World) (hNS : Net seed v l wS) (hwS : Below wS.heap.size wS w) :
    UntilStops m 119 #[.pointer (some ⟨Bs, 0, none⟩), .pointer (some ⟨Bp, 0, none⟩)] (fun i => (wordOf seed l i : Nat)) T wS.heap.size w := by
  intro lp J Jx W hW hJ hY hYT h0
  have hs' := (hW.block Bs (lt_of_block hs)).trans hs
  have hp' := (hW.block Bp (lt_of_block hp)).trans hp
  have HNS := Lib.hid hNS
  have HWS := Lib.hid (hwS.trans (hW.mono hwS.size))
  have HJ := Lib.hid hJ
  have HJ0 := Lib.hid h0
  have HS := Lib.hid hs'
  have HP := Lib.hid hp'
  clear hs hp hJ h0 hNS hwS hs' hp'
  refine callsIn_of_wp Tryd.func119 rfl trivial ?_ rfl
  simp only [Tryd.ntmps119, List.size_toArray, List.length_cons, List.length_nil, Nat.reduceAdd, Nat.reduceSub, Array.replicate_succ, Array.replicate_zero, List.push_toArray, List.append_toArray, List.nil_append, List.cons_append]
  gi_wp2
  gi_loopw [4] (fun c wr => ∃ i : Nat, i ≤ T ∧ c = .int .i64 i ∧ J wr ∧ Below wS.heap.size wS wr ∧ W.heap.size ≤ wr.heap.size ∧ wr.heap[Bs]? = some (.cells #[.string seed] 9 (0, 0)) ∧ wr.heap[Bp]? = some (.cells #[v] 22 (0, 0))) (fun c _ => T - (intOf c).toNat)
  case atStart => exact ⟨0, by omega, rfl, HJ0.out, HWS.out, Nat.le_refl _, HS.out, HP.out⟩
  case round =>
    obtain ⟨i, hi, rfl, hJr, hbr, hsz, hsr, hpr⟩ := hrel
    have c1 : wr.cell? ⟨Bs, 0, none⟩ = some (.string seed) := cell_of_row _ _ _ _ _ _ hsr
    have c2 : wr.cell? ⟨Bp, 0, none⟩ = some v := cell_of_row _ _ _ _ _ _ hpr
    have hwd := word_net (HNS.out.later hbr) i (by omega)
    obtain ⟨X, hX⟩ : ∃ X, X = wordOf seed l i := ⟨_, rfl⟩
    rw [← hX] at hwd
    have HW := Lib.hid hwd
    have HX := Lib.hid hX
    have HJr := Lib.hid hJr
    have HBr := Lib.hid hbr
    have HSr := Lib.hid hsr
    have HPr := Lib.hid hpr
    have HSZ := Lib.hid hsz
    clear hwd hX hJr hbr hsr hpr hsz
    by_cases hiT : i < T
    · have hYi := hY i hiT
      clear hY hYT
      gi_wp2_with (refine ⟨trivial, ?_⟩; gi_at_call 30; refine (callsIn_wide.2 HW.out).mono ?_; rintro e w2 ⟨rfl, hb2⟩; have hJ2 := HJ.out () _ w2 none HJr.out ⟨hb2.os, hb2.tape, hb2.output, hb2.size, fun k hk _ => hb2.block k hk⟩ (fun r e => by cases e); have HB2 := Lib.hid hb2; clear hb2; have hYi2 := hYi w2 hJ2; rw [← HX.out] at hYi2; clear hYi; obtain ⟨fn, tmps, assign, body, hy, hR⟩ := hYi2; have HJ2 := Lib.hid hJ2; clear hJ2)
      refine hR.mono ?_
      rintro e W3 ⟨rfl, hJ3, hk3⟩
      have HJ3 := Lib.hid hJ3
      have HK3 := Lib.hid hk3
      clear hJ3 hk3
      gi_wp2
      go_roundw
      case rel =>
        have hk := (KeptC.of_below HBr.out.size HB2.out).trans HK3.out
        refine ⟨i + 1, by omega, by go_num, HJ3.out, HBr.out.trans hk.below, ?_, hk.cl _ _ _ _ HSr.out, hk.cl _ _ _ _ HPr.out⟩
        have := HB2.out.size; have := HK3.out.below.size; have := HSZ.out; omega
      case measure => simp [intOf]; omega
    · obtain rfl : i = T := by omega
      clear hY
      gi_wp2_with (refine ⟨trivial, ?_⟩; gi_at_call 30; refine (callsIn_wide.2 HW.out).mono ?_; rintro e w2 ⟨rfl, hb2⟩; have hJ2 := HJ.out () _ w2 none HJr.out ⟨hb2.os, hb2.tape, hb2.output, hb2.size, fun k hk _ => hb2.block k hk⟩ (fun r e => by cases e); clear hb2; have hYi2 := hYT w2 hJ2; rw [← HX.out] at hYi2; clear hYT; obtain ⟨fn, tmps, assign, body, hy, hR⟩ := hYi2; have HJ2 := Lib.hid hJ2; clear hJ2)
      refine hR.mono ?_
      rintro e W3 ⟨rfl, hJx3⟩
      gi_wp2
      go_end0
      exact ⟨⟨_, rfl⟩, hJx3⟩
set_option maxHeartbeats 1000000 in
theorem tries_in (seed : ByteArray) (ad : Option Addr) (sn sc : Nat) (w : World) :
    Calls Tryd.prog 114 #[.string seed, .slice ad sn sc] w fun e w' => e = .returned (.func (.func 119) #[] #[.pointer (some ⟨w.heap.size, 0, none⟩), .pointer (some ⟨w.heap.size + 1, 0, none⟩)]) ∧
      w' = (w.alloc (.cells #[.string seed] 9)).alloc (.cells #[.slice ad sn sc] 22) := by
  go_enter Tryd.func114, Tryd.ntmps114
  go_wp2
  go_ret
  exact ⟨rfl, rfl⟩
set_option maxRecDepth 100000 in
set_option maxHeartbeats 2000000 in
theorem below_any (seed : ByteArray) (ad : Option Addr) (sn sc : Nat) (l : List Int) (n : Nat) (hn0 : 0 < n) (hn1 : n ≤ 1099511627776) (hA : Acc seed l n) (w : World) (hN : Net seed (.slice ad sn sc) l w) :
    Calls Tryd.prog 91 #[.string seed, .slice ad sn sc, .int .i64 n] w fun e w' => e = .returned (.int .i64 (drawOf seed l n : Nat)) ∧ Below w.heap.size w w' := by
  have HN := Lib.hid hN
  clear hN
  obtain ⟨T, hT, hacc, hrej, hdr⟩ := acc_first hA
  rw [hdr]
  have hl1 := lim_le n
  obtain ⟨LM, hLM⟩ : ∃ LM, LM = lim n := ⟨_, rfl⟩
  rw [← hLM] at hacc hrej hl1
  have HLM := Lib.hid hLM
  have HREJ := Lib.hid hrej
  clear hLM hrej hA hdr
  obtain ⟨X, hX⟩ : ∃ X, X = wordOf seed l T := ⟨_, rfl⟩
  rw [← hX] at hacc ⊢
  have HX := Lib.hid hX
  clear hX
  refine (callsIn_wide (n := 3)).1 ?_
  refine callsIn_of_wp_marks Tryd.func91 rfl trivial ?_ rfl
  simp only [Tryd.ntmps91, List.size_toArray, List.length_cons, List.length_nil, Nat.reduceAdd, Nat.reduceSub, Array.replicate_succ, Array.replicate_zero, List.push_toArray, List.append_toArray, List.nil_append, List.cons_append]
  gi_wp2_with (refine ⟨trivial, ?_⟩; gi_at_call 114; refine (callsIn_wide.2 (tries_in seed ad sn sc _)).mono ?_; rintro e w4 ⟨rfl, hw4⟩; have HW4 := Lib.hid hw4; clear hw4)
  have hs4 : w4.heap.size = w.heap.size + 4 := by rw [HW4.out]; simp
  obtain ⟨w2, hw2⟩ : ∃ w2, w2 = (w.alloc (.cells #[.int .i64 n] 3)).alloc (.cells #[.int .i64 0] 3) := ⟨_, rfl⟩
  have e4 : w4 = (w2.alloc (.cells #[.string seed] 9)).alloc (.cells #[.slice ad sn sc] 22) := by rw [HW4.out, hw2]
  have hs2 : w2.heap.size = w.heap.size + 2 := by rw [hw2]; simp
  have b02 : Below w.heap.size w w2 := by rw [hw2]; exact ((Below.refl _ _).alloc (Nat.le_refl _) _).alloc (by simp) _
  have b24 : Below w2.heap.size w2 w4 := by rw [e4]; exact ((Below.refl _ _).alloc (Nat.le_refl _) _).alloc (by simp) _
  have hB4 : Below w.heap.size w w4 := b02.trans (b24.mono (by omega))
  have bn : Boxed w4 w.heap.size 3 (.int .i64 n) := by
    show w4.heap[w.heap.size]? = _
    rw [b24.block _ (by omega), hw2]; exact heap_alloc2_old _ _ _
  have br : Boxed w4 (w.heap.size + 1) 3 (.int .i64 0) := by
    show w4.heap[w.heap.size + 1]? = _
    rw [b24.block _ (by omega), hw2]; exact heap_alloc2_new _ _ _
  have bs : w4.heap[w.heap.size + 1 + 1]? = some (.cells #[.string seed] 9 (0, 0)) := by
    have := heap_alloc2_old w2 (.cells #[.string seed] 9 (0, 0)) (.cells #[.slice ad sn sc] 22 (0, 0))
    rw [← e4, hs2] at this
    exact this
  have bp : w4.heap[w.heap.size + 1 + 1 + 1]? = some (.cells #[.slice ad sn sc] 22 (0, 0)) := by
    have := heap_alloc2_new w2 (.cells #[.string seed] 9 (0, 0)) (.cells #[.slice ad sn sc] 22 (0, 0))
    rw [← e4, hs2] at this
    exact this
  have hst := tries1_until seed (.slice ad sn sc) l (3 - 1) (w.heap.size + 1 + 1) (w.heap.size + 1 + 1 + 1) T hT (by omega) w4 bs bp w HN.out hB4
  clear HW4 hw2 e4 hs2 b02 b24 bs bp
  refine range_until (by omega) (gf := 119) (lb := #[.pointer (some ⟨w.heap.size + 1 + 1, 0, none⟩), .pointer (some ⟨w.heap.size + 1 + 1 + 1, 0, none⟩)]) rfl (enters_of Tryd.func119 (by kernel_rfl) rfl) hB4.size rfl hst
    (fun W => Boxed W w.heap.size 3 (.int .i64 n) ∧ Boxed W (w.heap.size + 1) 3 (.int .i64 0) ∧ Below w.heap.size w W)
    (fun W => Boxed W (w.heap.size + 1) 3 (.int .i64 (X % n : Nat)) ∧ Below w.heap.size w W)
    (OwnFrom.and (Own.from (boxed_own _ _ _) _) (OwnFrom.and (Own.from (boxed_own _ _ _) _) (ownFrom_below (Nat.le_refl _) (by omega))))
    (OwnFrom.and (Own.from (boxed_own _ _ _) _) (ownFrom_below (Nat.le_refl _) (by omega)))
    ⟨bn, br, hB4⟩
    (fun x => { tmps := #[.string seed, .slice ad sn sc, .int .i64 n, undef, undef, .pointer (some ⟨w.heap.size, 0, none⟩), .pointer (some ⟨w.heap.size + 1, 0, none⟩), .int .i64 x, .string seed, .slice ad sn sc, .func (.func 119) #[] #[.pointer (some ⟨w.heap.size + 1 + 1, 0, none⟩), .pointer (some ⟨w.heap.size + 1 + 1 + 1, 0, none⟩)],
        .int .i64 x, undef, undef, undef, undef, undef, undef, undef, undef, undef], defers := [] }) ?assign ?more ?body ?stop
  case assign =>
    intro lp x W K hK
    gi_wp2
    exact hK
  case more =>
    rintro lp i W hiT ⟨h1, h2, h3⟩
    have hrj := HREJ.out i hiT
    rw [HLM.out] at hrj
    obtain ⟨Y, hY⟩ : ∃ Y, Y = wordOf seed l i := ⟨_, rfl⟩
    rw [← hY] at hrj ⊢
    clear hY
    have c1 := h1.cell
    have H1 := Lib.hid h1
    have H2 := Lib.hid h2
    have H3 := Lib.hid h3
    clear h1 h2 h3
    have hz : ¬ ((n : Int) = 0) := by omega
    have hd : decide ((Y : Int) < IntKind.i64.wrap (281474976710656 / (n : Int) * (n : Int))) = false := by
      rw [lim_int n]
      simp; omega
    have HD := Lib.hid hd
    clear hd hrj hl1 hacc
    gi_wp2
    gi_region
    all_goals
      rw [HD.out]
      generalize IntKind.i64.wrap (281474976710656 / (n : Int) * (n : Int)) = z2
      generalize 281474976710656 / (n : Int) = z1
      gi_wp2
    all_goals exact ⟨KeepsOthers.drew W, KeptC.of_below H3.out.size ((Below.refl _ _).drew), H1.out, H2.out, H3.out.drew⟩
  case body =>
    rintro lp W ⟨h1, h2, h3⟩
    rw [← HX.out]
    have hz : ¬ ((n : Int) = 0) := by omega
    have c1 := h1.cell
    have c2 := h2.cell
    have f2 := h2.frozen
    have H2 := Lib.hid h2
    have H3 := Lib.hid h3
    clear h1 h2 h3
    have hd : decide ((X : Int) < IntKind.i64.wrap (281474976710656 / (n : Int) * (n : Int))) = true := by
      rw [lim_int n, ← HLM.out]
      simp; omega
    have HD := Lib.hid hd
    have HACC := Lib.hid hacc
    clear hd hacc hl1
    gi_wp2
    gi_region
    all_goals
      rw [HD.out]
      generalize IntKind.i64.wrap (281474976710656 / (n : Int) * (n : Int)) = z2
      generalize 281474976710656 / (n : Int) = z1
      gi_wp2
    all_goals exact ⟨⟨(KeepsOthers.setCell W ⟨w.heap.size + 1, 0, none⟩ (.int .i64 ((X : Int) % (n : Int)))).size, (KeepsOthers.setCell W ⟨w.heap.size + 1, 0, none⟩ (.int .i64 ((X : Int) % (n : Int)))).same⟩, H2.out.set _, (H3.out.setCell (p := ⟨w.heap.size + 1, 0, none⟩) (Nat.le_succ _) _).drew⟩
  case stop =>
    rintro D W hD ⟨h1, h2⟩ hK
    have c1 := h1.cell
    gi_wp2
    refine ⟨by simp, .inl ⟨_, _, rfl, run_takeDeferred hK, ?_⟩⟩
    have hcr := cell_kept c1 (grownBy_putObj' _ D (.deferred none)) (fun r e => by cases e; exact ⟨_, hK, rfl⟩)
    refine ⟨.int .i64 (X % n : Nat), ?_, rfl, h2.trans (belowK_b (w := w) (Nat.le_refl _) W D _ _ (by omega) hK rfl rfl)⟩
    simp [results, Tryd.results91, go_sem, hcr]
end Go.Proofs.YtfkpeabkcdhcfaaDoor
namespace Go.Proofs.YtfkpeabkcdhcfaaDoor
open Go.RowKit
set_option maxRecDepth 100000
theorem valid_any (seed : ByteArray) (ad : Option Addr) (sn sc : Nat) (hs : seed.size ≤ 32) (hp : sn ≤ 8) (w : World) : Calls Tryd.prog 90 #[.string seed, .slice ad sn sc] w fun e w' => e = .returned (.bool true) ∧ w = w' := by
  have h1 : (seed.size : Int) ≤ 32 := by omega
  have h2 : (sn : Int) ≤ 8 := by omega
  go_enter Tryd.func90, Tryd.ntmps90
  go_wp2
  go_ret
  exact ⟨rfl, rfl⟩
theorem checked_d (seed : ByteArray) (ad : Option Addr) (sn sc : Nat) (hs : seed.size ≤ 32) (hp : sn ≤ 8) (B : Nat) (u : FrameMode) (w : World) :
    CallsD Tryd.prog 89 #[.string seed, .slice ad sn sc, .bool true, .pointer (some ⟨B, 0, none⟩)] u w fun e u' w' => u' = u ∧ (e = .returned (.tuple #[]) ∧ w' = w) := by
  go_enter_d Tryd.func89, Tryd.ntmps89
  go_wp2_with (go_at_call 90; refine (valid_any seed ad sn sc hs hp _).mono ?_; rintro e w' ⟨rfl, rfl⟩)
  go_end0
  exact ⟨rfl, rfl⟩
/-- the number of a draw from lo to hi -/
def btwOf (seed : ByteArray) (l : List Int) (lo hi : Int) : Int := lo + (drawOf seed l (hi - lo + 1).toNat : Nat)
theorem btwOf_bd (seed : ByteArray) (l : List Int) (lo hi : Int) (h : lo ≤ hi) : lo ≤ btwOf seed l lo hi ∧ btwOf seed l lo hi ≤ hi := by
  have := drawOf_lt seed l (hi - lo + 1).toNat (by omega)
  unfold btwOf
  omega
theorem btwOf_eq (seed : ByteArray) (l : List Int) (lo : Int) : btwOf seed l lo lo = lo := by
  have := btwOf_bd seed l lo lo (Int.le_refl _)
  omega
theorem btwOf_move (seed : ByteArray) (l : List Int) (lo hi k : Int) : btwOf seed l (lo + k) (hi + k) = btwOf seed l lo hi + k := by
  unfold btwOf
  rw [show hi + k - (lo + k) + 1 = hi - lo + 1 by omega]
  omega
set_option maxHeartbeats 1000000 in
theorem between_any (seed : ByteArray) (ad : Option Addr) (sn sc : Nat) (l : List Int) (lo hi : Int) (h1 : -1099511627776 ≤ lo) (h2 : hi ≤ 1099511627776) (h3 : lo ≤ hi) (h4 : hi - lo < 1099511627776) (hs : seed.size ≤ 32) (hp : sn ≤ 8) (hA : Acc seed l (hi - lo + 1).toNat) (w : World) (hN : Net seed (.slice ad sn sc) l w) :
    Calls Tryd.prog 57 #[.string seed, .slice ad sn sc, .int .i64 lo, .int .i64 hi] w fun e w' => e = .returned (.tuple #[.int .i64 (btwOf seed l lo hi), .int .i64 0]) ∧ Below w.heap.size w w' := by
  have HN := Lib.hid hN
  have hb0 : Below w.heap.size w (w.alloc (.cells #[.int .i64 0] 26)) := (Below.refl _ _).alloc (Nat.le_refl _) _
  have HB0 := Lib.hid hb0
  have hdl := drawOf_lt seed l (hi - lo + 1).toNat (by omega)
  have hbl := below_any seed ad sn sc l (hi - lo + 1).toNat (by omega) (by omega) hA _ (hN.later hb0)
  unfold btwOf
  obtain ⟨Y, hY⟩ : ∃ Y, Y = drawOf seed l (hi - lo + 1).toNat := ⟨_, rfl⟩
  rw [← hY] at hdl hbl ⊢
  rw [show (((hi - lo + 1).toNat : Nat) : Int) = hi - lo + 1 by omega] at hbl
  have HBL := Lib.hid hbl
  have hlt : (Y : Int) ≤ hi - lo := by omega
  have g1 : hi - lo < 1099511627776 := h4
  clear hN hb0 hA hbl hY hdl
  go_enter_defers Tryd.func57, Tryd.ntmps57
  go_wp2_with (first
    | (go_at_call 90; refine (valid_any seed ad sn sc hs hp _).mono ?_; rintro e w' ⟨rfl, rfl⟩)
    | (go_at_call 91; refine HBL.out.mono ?_; rintro e w2 ⟨rfl, hb2⟩; have hc : w2.cell? ⟨w.heap.size, 0, none⟩ = some (.int .i64 0) := (hb2.cell (p := ⟨w.heap.size, 0, none⟩) (by simp)).trans (cell_of_row _ _ _ _ _ _ (heap_alloc_new _ _)); have hf : w2.frozen? ⟨w.heap.size, 0, none⟩ = false := (hb2.frozen (p := ⟨w.heap.size, 0, none⟩) (by simp)).trans (frozen_of_row _ _ _ _ _ (heap_alloc_new _ _)); have HB2 := Lib.hid (HB0.out.trans (hb2.mono (by simp))); clear hb2))
  refine leaves_cons (f := 89) (args := #[.string seed, .slice ad sn sc, .bool true, .pointer (some ⟨w.heap.size, 0, none⟩)]) (by simp) (by simp [go_sem]) ?_
  refine (checked_d seed ad sn sc hs hp w.heap.size .returning _).mono ?_
  rintro e u' w'' ⟨rfl, rfl, rfl⟩
  have hcr : (w2.setCell ⟨w.heap.size, 0, none⟩ (.int .i64 0)).cell? ⟨w.heap.size, 0, none⟩ = some (.int .i64 0) := World.cell?_setCell_same' _ _ _ (by rw [hc]; rfl)
  refine ⟨.tuple #[.int .i64 (lo + (Y : Int)), .int .i64 0], ?_, rfl, HB2.out.setCell (p := ⟨w.heap.size, 0, none⟩) (Nat.le_refl _) _⟩
  simp [results, Tryd.results57, go_sem, hcr]
end Go.Proofs.YtfkpeabkcdhcfaaDoor
namespace Go.Proofs.YtfkpeabkcdhcfaaDoor
open Go.RowKit
set_option maxRecDepth 100000
/-- a split and a node as values -/
def spV (seed : ByteArray) (v : Value) (total N lo hi : Int) : Array Value := #[.string seed, v, .int .i64 total, .int .i64 N, .int .i64 lo, .int .i64 hi]
def ndV (a n t : Int) : Array Value := #[.int .i64 a, .int .i64 n, .int .i64 t]
structure HoldH (w : World) (sp nd : Array Value) (wx : World) : Prop where
  s : wx.heap[w.heap.size]? = some (.cells sp 43 (0, 0))
  x : wx.heap[w.heap.size + 1]? = some (.cells nd 98 (0, 0))
  r1 : wx.heap[w.heap.size + 2]? = some (.cells (ndV 0 0 0) 98 (0, 0))
  r2 : wx.heap[w.heap.size + 3]? = some (.cells (ndV 0 0 0) 98 (0, 0))
  below : Below w.heap.size w wx
  size : w.heap.size + 4 ≤ wx.heap.size
theorem HoldH.later {w : World} {sp nd : Array Value} {wx wy : World} (h : HoldH w sp nd wx) (hb : Below wx.heap.size wx wy) : HoldH w sp nd wy :=
  ⟨(hb.block _ (lt_of_block h.s)).trans h.s, (hb.block _ (lt_of_block h.x)).trans h.x, (hb.block _ (lt_of_block h.r1)).trans h.r1, (hb.block _ (lt_of_block h.r2)).trans h.r2, h.below.trans (hb.mono (by have := h.size; omega)), Nat.le_trans h.size hb.size⟩
theorem holdH_mk (w : World) (sp nd : Array Value) : HoldH w sp nd ((((w.alloc (.cells sp 43)).alloc (.cells nd 98)).alloc (.cells (ndV 0 0 0) 98)).alloc (.cells (ndV 0 0 0) 98)) := by
  have e1 : (w.alloc (.cells sp 43)).heap.size = w.heap.size + 1 := by simp
  have e2 : ((w.alloc (.cells sp 43)).alloc (.cells nd 98)).heap.size = w.heap.size + 2 := by simp
  have e3 : (((w.alloc (.cells sp 43)).alloc (.cells nd 98)).alloc (.cells (ndV 0 0 0) 98)).heap.size = w.heap.size + 3 := by simp
  refine ⟨?_, ?_, ?_, ?_, ((((Below.refl _ _).alloc (Nat.le_refl _) _).alloc (by omega) _).alloc (by omega) _).alloc (by omega) _, by simp⟩
  · rw [Below.heap_alloc _ _ _ (by omega), Below.heap_alloc _ _ _ (by omega), Below.heap_alloc _ _ _ (by omega)]; exact heap_alloc_new _ _
  · rw [Below.heap_alloc _ _ _ (by omega), Below.heap_alloc _ _ _ (by omega)]; exact heap_alloc2_new _ _ _
  · rw [Below.heap_alloc _ _ _ (by omega)]
    have := heap_alloc_new ((w.alloc (.cells sp 43)).alloc (.cells nd 98)) (.cells (ndV 0 0 0) 98 (0, 0))
    rw [e2] at this; exact this
  · have := heap_alloc_new (((w.alloc (.cells sp 43)).alloc (.cells nd 98)).alloc (.cells (ndV 0 0 0) 98)) (.cells (ndV 0 0 0) 98 (0, 0))
    rw [e3] at this; exact this
theorem OwnI.base {b b2 : Nat} {v : Value} {l : List Int} {w : World} (h : OwnI b v l w) (hb : b2 ≤ b) : OwnI b2 v l w := by
  refine ⟨h.1, ?_⟩
  rcases h.2 with h2 | ⟨g, cap, cur, h1, h2, h3⟩
  · exact .inl h2
  · exact .inr ⟨g, cap, cur, h1, Nat.le_trans hb h2, h3⟩
/-- append of two integers, at a step of a region that draws -/
theorem step_append2 {ops : Array Oper} {o : Oper} {A : Act} {K : Act → World → Prop} {Q : Exit → Act → World → Prop} {E : Prop} {w : World} (base : Nat) (v : Value) (l : List Int) (hown : OwnI base v l w) (hgd : o.guard = none) (x y : Operand)
    (ho : o.op = .call { callee := .builtin .append, args := #[x, y], argTypes := #[22, 22] }) (hx : A.eval x = v) (B c : Nat) (p q : Int) (hy : A.eval y = .slice (some ⟨B, 0, none⟩) 2 c)
    (hB : w.heap[B]? = some (.cells #[.int .i64 p, .int .i64 q] 3 (0, 0))) (hbd : l.length ≤ 1000000) (hbase : base ≤ w.heap.size) (W0 : World) (hb : Below base W0 w)
    (h : ∀ g cap w1, OwnI base (.slice (some ⟨g, 0, none⟩) (l.length + 2) cap) (l ++ [p, q]) w1 → Below base W0 w1 → K (A.put o.dst (.slice (some ⟨g, 0, none⟩) (l.length + 2) cap)) w1) :
    if Region.wanted o (yielded ops A.tmps) = true then Oper.wp Tryd.prog o A w K Q else E := by
  obtain ⟨i0, hi0, hz0, hz1, hz2⟩ := info_parts infoI
  refine step_append_lies w hgd x y 22 ho base 3 i0 (.int .i64 0) 1 8 Tryd.underlying22 hi0 hz0 hz1 hz2 rfl (by decide) v l.length (l.map (Value.int .i64)) hx hown ⟨B, 0, none⟩ 2 c [.int .i64 p, .int .i64 q] hy rfl
    (World.news_of_block (cs := #[.int .i64 p, .int .i64 q]) hB) (by simp [Value.oneCell']) (by decide) (by unfold maxLen; omega) (by omega) hbase w.heap.size rfl ?_
  intro g cap w1 hown1 hgrow _ _
  refine h g cap w1 ?_ (hb.grown hgrow hbase (own_row_le hown))
  unfold OwnI
  rw [List.map_append, List.length_append]
  exact hown1
theorem info98 : (Tryd.prog.info? 98).map (·.size) = some 3 := by kernel_rfl
theorem set3 (w : World) (g : Nat) (x y z p q r : Value) (t : TypeId) (h : w.heap[g]? = some (.cells #[x, y, z] t (0, 0))) :
    (((w.setCell ⟨g, 0, none⟩ p).setCell ⟨g, 1, none⟩ q).setCell ⟨g, 2, none⟩ r).heap[g]? = some (.cells #[p, q, r] t (0, 0)) := by
  simp [World.setCell, Array.getElem?_modify, h]
theorem results_two_rows {fn : Func} {p q : Tmp} {ty : TypeId} (h : fn.results = #[.cell p ty, .cell q ty]) (tmps : Array Value) (w : World) (g1 g2 : Nat) (cs1 cs2 : Array Value)
    (hp : tmps.getD p undef = .pointer (some ⟨g1, 0, none⟩)) (hq : tmps.getD q undef = .pointer (some ⟨g2, 0, none⟩)) (h1 : (loadVar ty ⟨g1, 0, none⟩).run Tryd.prog w = .ok (.agg cs1) w) (h2 : (loadVar ty ⟨g2, 0, none⟩).run Tryd.prog w = .ok (.agg cs2) w) :
    (results fn tmps).run Tryd.prog w = .ok (.tuple #[.agg cs1, .agg cs2]) w := by
  have hp' : tmps[p]?.getD undef = .pointer (some ⟨g1, 0, none⟩) := by simpa using hp
  have hq' : tmps[q]?.getD undef = .pointer (some ⟨g2, 0, none⟩) := by simpa using hq
  simp [results, h, hp', hq', asAddr, h1, h2]
set_option maxHeartbeats 2000000 in
theorem halves_gen (seed : ByteArray) (ad : Option Addr) (sn sc : Nat) (l : List Int) (total N lo hi : Int) (a n : Nat) (T D z : Int) (hT : (-1099511627776 ≤ T ∧ T ≤ 1099511627776) ∧ -1099511627776 ≤ D ∧ D ≤ 1099511627776) (hn : 2 ≤ n) (hn2 : n ≤ 65536) (ha : a ≤ 65536) (hp : sn ≤ 6)
    (hcall : ∀ (g cap : Nat) (wx : World), Net seed (.slice (some ⟨g, 0, none⟩) (l.length + 2) cap) (l ++ [(a : Int), (n : Int)]) wx → Calls Tryd.prog 57 #[.string seed, .slice (some ⟨g, 0, none⟩) (l.length + 2) cap,
      .int .i64 (max (wrap64 ((n / 2 : Nat) * lo)) (wrap64 (T - wrap64 ((n - n / 2 : Nat) * hi)))), .int .i64 (min (wrap64 ((n / 2 : Nat) * hi)) (wrap64 (T - wrap64 ((n - n / 2 : Nat) * lo))))] wx fun e w' => e = .returned (.tuple #[.int .i64 D, .int .i64 z]) ∧ Below wx.heap.size wx w')
    (w : World) (hN : Net seed (.slice ad sn sc) l w) (hsn : sn = l.length) :
    Calls Tryd.prog 112 #[.agg (spV seed (.slice ad sn sc) total N lo hi), .agg (ndV a n T)] w fun e w' => e = .returned (.tuple #[.agg (ndV a (n / 2 : Nat) D), .agg (ndV (a + n / 2 : Nat) (n - n / 2 : Nat) (T - D))]) ∧ Below w.heap.size w w' := by
  have HCALL := Lib.hid hcall
  have HT := Lib.hid hT
  clear hcall hT
  have HN := Lib.hid hN
  have HSN := Lib.hid hsn
  have hh := holdH_mk w (spV seed (.slice ad sn sc) total N lo hi) (ndV a n T)
  have HH := Lib.hid hh
  clear hN hsn hh
  unfold spV ndV
  go_enter Tryd.func112, Tryd.ntmps112
  go_upto_region 1 with fail
  obtain ⟨W1, hW1⟩ : ∃ W1, W1 = (((w.alloc (.cells (spV seed (.slice ad sn sc) total N lo hi) 43)).alloc (.cells (ndV a n T) 98)).alloc (.cells (ndV 0 0 0) 98)).alloc (.cells (ndV 0 0 0) 98) := ⟨_, rfl⟩
  rw [← hW1] at HH
  change Code.wp Tryd.prog _ _ _ ((((w.alloc (.cells (spV seed (.slice ad sn sc) total N lo hi) 43)).alloc (.cells (ndV a n T) 98)).alloc (.cells (ndV 0 0 0) 98)).alloc (.cells (ndV 0 0 0) 98))
  rw [← hW1]
  clear hW1
  have x0 : W1.cell? ⟨w.heap.size + 1, 0, none⟩ = some (.int .i64 a) := cell_of_row _ _ _ _ _ _ HH.out.x
  have x1 : W1.cell? ⟨w.heap.size + 1, 1, none⟩ = some (.int .i64 n) := cell_of_row _ _ _ _ _ _ HH.out.x
  have s1 : W1.cell? ⟨w.heap.size, 1, none⟩ = some (.slice ad sn sc) := cell_of_row _ _ _ _ _ _ HH.out.s
  go_quiet (fail)
  go_wp2_with fail
  rw [show (n : Int) / 2 = ((n / 2 : Nat) : Int) from rfl]
  obtain ⟨L, hL⟩ : ∃ L, L = n / 2 := ⟨_, rfl⟩
  rw [← hL] at HCALL ⊢
  rw [show (n : Int) - (L : Int) = ((n - L : Nat) : Int) by omega]
  obtain ⟨R, hR⟩ : ∃ R, R = n - L := ⟨_, rfl⟩
  rw [← hR] at HCALL ⊢
  have hL1 : 1 ≤ L := by omega
  have hR1 : 1 ≤ R := by omega
  have hLR : L + R = n := by omega
  have hL2 : L ≤ 32768 := by omega
  have hR2 : R ≤ 65536 := by omega
  have HLN := Lib.hid hL
  have HRN := Lib.hid hR
  clear hL hR
  obtain ⟨W2, hW2⟩ : ∃ W2, W2 = W1.drewN nq := ⟨_, rfl⟩
  rw [← hW2]
  have h2 : HoldH w (spV seed (.slice ad sn sc) total N lo hi) (ndV a n T) W2 := by rw [hW2]; exact HH.out.later (below_drewN (Below.refl _ _) _)
  have HH2 := Lib.hid h2
  clear hW2 h2 x0 x1 s1
  have x0 : W2.cell? ⟨w.heap.size + 1, 0, none⟩ = some (.int .i64 a) := cell_of_row _ _ _ _ _ _ HH2.out.x
  have x1 : W2.cell? ⟨w.heap.size + 1, 1, none⟩ = some (.int .i64 n) := cell_of_row _ _ _ _ _ _ HH2.out.x
  have s1 : W2.cell? ⟨w.heap.size, 1, none⟩ = some (.slice ad sn sc) := cell_of_row _ _ _ _ _ _ HH2.out.s
  have hN2 := HN.out.later HH2.out.below
  have HN2 := Lib.hid hN2
  clear hN2
  obtain ⟨i0, hi0, hz0, hz1, hz2⟩ := info_parts infoI
  go_region_held3 (fun w' => w'.cell? ⟨w.heap.size, 1, none⟩ = some (.slice ad sn sc) ∧ w'.cell? ⟨w.heap.size + 1, 0, none⟩ = some (.int .i64 a) ∧ w'.cell? ⟨w.heap.size + 1, 1, none⟩ = some (.int .i64 n))
    (first | go_keep | exact ⟨cell_of_row _ _ _ _ _ _ (HH2.out.later HB6.out).s, cell_of_row _ _ _ _ _ _ (HH2.out.later HB6.out).x, cell_of_row _ _ _ _ _ _ (HH2.out.later HB6.out).x⟩ | exact ⟨cell_of_row _ _ _ _ _ _ (HH2.out.later HB5.out).s, cell_of_row _ _ _ _ _ _ (HH2.out.later HB5.out).x, cell_of_row _ _ _ _ _ _ (HH2.out.later HB5.out).x⟩)
    (first
      | (go_at_call 73
         first
           | (with_reducible refine (clone_any (.slice ad sn sc) l (by have := HN2.out.hl; omega) W2.drew (HN2.out.later ((Below.refl _ _).drew)).hr).mono ?_)
             rintro e w5 ⟨v5, rfl, hown, hb5⟩
             have HB5 := Lib.hid (show Below W2.heap.size W2 w5 from Below.drew_l (show Below W2.heap.size W2.drew w5 from hb5))
             have HV5 := Lib.hid (show OwnI W2.heap.size v5 l w5 from hown)
             clear hb5 hown
           | (with_reducible refine (clone_any (.slice ad sn sc) l (by have := HN2.out.hl; omega) ((W2.alloc (.cells #[.int .i64 a, .int .i64 n] 3)).drew) (HN2.out.later (((Below.refl _ _).alloc (Nat.le_refl _) _).drew)).hr).mono ?_)
             rintro e w5 ⟨v5, rfl, hown, hb5⟩
             have HB5 := Lib.hid (show Below W2.heap.size W2 w5 from (((Below.refl _ _).alloc (Nat.le_refl _) _).drew).trans (hb5.mono (by simp)))
             have HV5 := Lib.hid (show OwnI W2.heap.size v5 l w5 from hown.base (by simp))
             have HX5 := Lib.hid (show w5.heap[W2.heap.size]? = some (.cells #[.int .i64 a, .int .i64 n] 3 (0, 0)) from (hb5.block W2.heap.size (by simp)).trans (heap_alloc_new W2 _))
             clear hb5 hown
           )
      | (refine step_append2 W2.heap.size v5 l (HV5.out.later ((Below.refl _ _).alloc (Nat.le_refl _) _)) (by rfl) _ _ (by rfl) (by rfl) w5.heap.size 2 a n (by rfl) (heap_alloc_new _ _) (by have := HN2.out.hl; omega) (Nat.le_trans HB5.out.size (by simp)) W2 (HB5.out.alloc HB5.out.size _) ?_
         intro g cap w6 hown hb6
         have HB6 := Lib.hid hb6
         have HV6 := Lib.hid hown
         clear hown hb6)
      | (refine step_append2 W2.heap.size v5 l HV5.out (by rfl) _ _ (by rfl) (by rfl) W2.heap.size 2 a n (by rfl) HX5.out (by have := HN2.out.hl; omega) HB5.out.size W2 HB5.out ?_
         intro g cap w6 hown hb6
         have HB6 := Lib.hid hb6
         have HV6 := Lib.hid hown
         clear hown hb6))
  all_goals
    clear x0 x1 s1
    have hW6 := HH2.out.later HB6.out
    have hN6 := HN2.out.later HB6.out
    have HH6 := Lib.hid hW6
    have HN6 := Lib.hid hN6
    clear hW6 hN6
    have x0 : w6.cell? ⟨w.heap.size + 1, 0, none⟩ = some (.int .i64 a) := cell_of_row _ _ _ _ _ _ HH6.out.x
    have x2 : w6.cell? ⟨w.heap.size + 1, 2, none⟩ = some (.int .i64 T) := cell_of_row _ _ _ _ _ _ HH6.out.x
    have s0 : w6.cell? ⟨w.heap.size, 0, none⟩ = some (.string seed) := cell_of_row _ _ _ _ _ _ HH6.out.s
    have s4 : w6.cell? ⟨w.heap.size, 4, none⟩ = some (.int .i64 lo) := cell_of_row _ _ _ _ _ _ HH6.out.s
    have s5 : w6.cell? ⟨w.heap.size, 5, none⟩ = some (.int .i64 hi) := cell_of_row _ _ _ _ _ _ HH6.out.s
    go_wp2_with fail
    have hOI : OwnI W2.heap.size (.slice (some ⟨g, 0, none⟩) (l.length + 2) cap) (l ++ [(a : Int), (n : Int)]) w6 := HV6.out
    have hN7 : Net seed (.slice (some ⟨g, 0, none⟩) (l.length + 2) cap) (l ++ [(a : Int), (n : Int)]) w6 := by
      refine ⟨HN6.out.hs, ?_, ?_, HN6.out.h0, HN6.out.hK, hOI.read⟩
      · have := HSN.out; simp; omega
      · intro m hm
        rcases List.mem_append.1 hm with h | h
        · exact HN6.out.h64 m h
        · simp at h; omega
    go_at_call 57
    with_reducible refine (HCALL.out g cap w6 hN7).mono ?_
    rintro e w7 ⟨rfl, hb7⟩
    have HH7 := Lib.hid (HH6.out.later hb7)
    clear hN7 hb7 hOI x0 x2 s0 s4 s5
    have x0 : w7.cell? ⟨w.heap.size + 1, 0, none⟩ = some (.int .i64 a) := cell_of_row _ _ _ _ _ _ HH7.out.x
    have x2 : w7.cell? ⟨w.heap.size + 1, 2, none⟩ = some (.int .i64 T) := cell_of_row _ _ _ _ _ _ HH7.out.x
    have hw1 : IntKind.i64.wrap (T - D) = T - D := by have := HT.out; simp only [IntKind.wrap_i64]; omega
    have hw2 : IntKind.i64.wrap ((a : Int) + (L : Int)) = ((a + L : Nat) : Int) := by simp only [IntKind.wrap_i64]; omega
    go_wp2_with fail
    have r1c0 : w7.cell? ⟨w.heap.size + 1 + 1, 0, none⟩ = some (.int .i64 0) := cell_of_row _ _ _ _ _ _ HH7.out.r1
    have r1f0 : w7.frozen? ⟨w.heap.size + 1 + 1, 0, none⟩ = false := frozen_of_row _ _ _ _ _ HH7.out.r1
    have r1c1 : w7.cell? ⟨w.heap.size + 1 + 1, 1, none⟩ = some (.int .i64 0) := cell_of_row _ _ _ _ _ _ HH7.out.r1
    have r1f1 : w7.frozen? ⟨w.heap.size + 1 + 1, 1, none⟩ = false := frozen_of_row _ _ _ _ _ HH7.out.r1
    have r1c2 : w7.cell? ⟨w.heap.size + 1 + 1, 2, none⟩ = some (.int .i64 0) := cell_of_row _ _ _ _ _ _ HH7.out.r1
    have r1f2 : w7.frozen? ⟨w.heap.size + 1 + 1, 2, none⟩ = false := frozen_of_row _ _ _ _ _ HH7.out.r1
    have r2c0 : w7.cell? ⟨w.heap.size + 1 + 1 + 1, 0, none⟩ = some (.int .i64 0) := cell_of_row _ _ _ _ _ _ HH7.out.r2
    have r2f0 : w7.frozen? ⟨w.heap.size + 1 + 1 + 1, 0, none⟩ = false := frozen_of_row _ _ _ _ _ HH7.out.r2
    have r2c1 : w7.cell? ⟨w.heap.size + 1 + 1 + 1, 1, none⟩ = some (.int .i64 0) := cell_of_row _ _ _ _ _ _ HH7.out.r2
    have r2f1 : w7.frozen? ⟨w.heap.size + 1 + 1 + 1, 1, none⟩ = false := frozen_of_row _ _ _ _ _ HH7.out.r2
    have r2c2 : w7.cell? ⟨w.heap.size + 1 + 1 + 1, 2, none⟩ = some (.int .i64 0) := cell_of_row _ _ _ _ _ _ HH7.out.r2
    have r2f2 : w7.frozen? ⟨w.heap.size + 1 + 1 + 1, 2, none⟩ = false := frozen_of_row _ _ _ _ _ HH7.out.r2
    go_region_held3 (fun w' => w'.cell? ⟨w.heap.size + 1, 0, none⟩ = some (.int .i64 a) ∧ w'.cell? ⟨w.heap.size + 1, 2, none⟩ = some (.int .i64 T))
      (first
        | (refine ⟨?_, ?_⟩ <;> ((try rw [World.cell?_drew]); (repeat rw [World.cell?_setCell_far _ _ _ _ (by dsimp only; omega)]); assumption))
        | go_keep) (fail)
    go_wp2
    have k1 := set3 w7 (w.heap.size + 1 + 1) _ _ _ (.int .i64 (a : Int)) (.int .i64 (L : Int)) (.int .i64 D) 98 HH7.out.r1
    have k2 := set3 (((w7.setCell ⟨w.heap.size + 1 + 1, 0, none⟩ (.int .i64 (a : Int))).setCell ⟨w.heap.size + 1 + 1, 1, none⟩ (.int .i64 (L : Int))).setCell ⟨w.heap.size + 1 + 1, 2, none⟩ (.int .i64 D)) (w.heap.size + 1 + 1 + 1) (.int .i64 0) (.int .i64 0) (.int .i64 0) (.int .i64 ((a : Int) + (L : Int))) (.int .i64 (R : Int)) (.int .i64 (T - D)) 98 (by
      rw [Below.heap_setCell _ _ _ _ (by dsimp only; omega), Below.heap_setCell _ _ _ _ (by dsimp only; omega), Below.heap_setCell _ _ _ _ (by dsimp only; omega)]; exact HH7.out.r2)
    have hdh : ∀ W : World, W.drew.heap = W.heap := fun _ => rfl
    refine bodyPost_ret (v := .tuple #[.agg (ndV a (L : Nat) D), .agg (ndV (a + L : Nat) (R : Nat) (T - D))]) (results_two_rows rfl _ _ (w.heap.size + 1 + 1) (w.heap.size + 1 + 1 + 1) (ndV a (L : Nat) D) (ndV (a + L : Nat) (R : Nat) (T - D)) rfl rfl ?_ ?_) rfl ⟨?_, ?_⟩
    · refine run_loadVar_row _ _ 98 98 _ (0, 0) _ ?_ Tryd.underlying98 rfl info98
      rw [hdh, Below.heap_setCell _ _ _ _ (by dsimp only; omega), Below.heap_setCell _ _ _ _ (by dsimp only; omega), Below.heap_setCell _ _ _ _ (by dsimp only; omega)]
      exact k1
    · refine run_loadVar_row _ _ 98 98 _ (0, 0) _ ?_ Tryd.underlying98 rfl info98
      rw [hdh]
      exact k2
    · rw [← HLN.out, ← HRN.out]; rfl
    · exact ((((((HH7.out.below.setCell (by dsimp only; omega) _).setCell (by dsimp only; omega) _).setCell (by dsimp only; omega) _).setCell (by dsimp only; omega) _).setCell (by dsimp only; omega) _).setCell (by dsimp only; omega) _).drew
/-- the left total of a node -/
def leftOf (seed : ByteArray) (l : List Int) (lo hi : Int) (a n : Nat) (t : Int) : Int :=
  btwOf seed (l ++ [(a : Int), (n : Int)]) (max ((n / 2 : Nat) * lo) (t - (n - n / 2 : Nat) * hi)) (min ((n / 2 : Nat) * hi) (t - (n - n / 2 : Nat) * lo))
/-- how many left totals a node can have -/
def rangeOf (lo hi : Int) (n : Nat) (t : Int) : Nat :=
  (min ((n / 2 : Nat) * hi) (t - (n - n / 2 : Nat) * lo) - max ((n / 2 : Nat) * lo) (t - (n - n / 2 : Nat) * hi) + 1).toNat
theorem mul_bound (m : Nat) (hm : m ≤ 65536) (x : Int) (h1 : -1048576 ≤ x) (h2 : x ≤ 1048576) : -68719476736 ≤ (m : Int) * x ∧ (m : Int) * x ≤ 68719476736 := by
  have h3 : (m : Int) * x ≤ m * 1048576 := Int.mul_le_mul_of_nonneg_left h2 (by omega)
  have h4 : (m : Int) * (-1048576) ≤ m * x := Int.mul_le_mul_of_nonneg_left h1 (by omega)
  omega
/-- the totals of a node's halves -/
structure NodeOk (lo hi : Int) (n : Nat) (t : Int) : Prop where
  n2 : n ≤ 65536
  lo1 : -1048576 ≤ lo
  hi1 : hi ≤ 1048576
  lh : lo ≤ hi
  t1 : n * lo ≤ t
  t2 : t ≤ n * hi
theorem NodeOk.left {seed : ByteArray} {l : List Int} {lo hi : Int} {a n : Nat} {t : Int} (h : NodeOk lo hi n t) :
    (NodeOk lo hi (n / 2) (leftOf seed l lo hi a n t)) ∧ NodeOk lo hi (n - n / 2) (t - leftOf seed l lo hi a n t) := by
  obtain ⟨h1, h2, h3, h4, h5, h6⟩ := h
  have e1 : (n : Int) * lo = (n / 2 : Nat) * lo + (n - n / 2 : Nat) * lo := by rw [← Int.add_mul]; congr 1; omega
  have e2 : (n : Int) * hi = (n / 2 : Nat) * hi + (n - n / 2 : Nat) * hi := by rw [← Int.add_mul]; congr 1; omega
  have e3 : ((n / 2 : Nat) : Int) * lo ≤ (n / 2 : Nat) * hi := Int.mul_le_mul_of_nonneg_left h4 (by omega)
  have e4 : ((n - n / 2 : Nat) : Int) * lo ≤ (n - n / 2 : Nat) * hi := Int.mul_le_mul_of_nonneg_left h4 (by omega)
  have hb := btwOf_bd seed (l ++ [(a : Int), (n : Int)]) (max ((n / 2 : Nat) * lo) (t - (n - n / 2 : Nat) * hi)) (min ((n / 2 : Nat) * hi) (t - (n - n / 2 : Nat) * lo)) (by omega)
  unfold leftOf
  refine ⟨⟨by omega, h2, h3, h4, by omega, by omega⟩, ⟨by omega, h2, h3, h4, by omega, by omega⟩⟩
theorem halves_ok (seed : ByteArray) (ad : Option Addr) (sn sc : Nat) (l : List Int) (total N lo hi : Int) (a n : Nat) (t : Int) (hk : NodeOk lo hi n t) (hn : 2 ≤ n) (ha : a ≤ 65536) (hA : Acc seed (l ++ [(a : Int), (n : Int)]) (rangeOf lo hi n t)) (hs : seed.size ≤ 32) (hp : sn ≤ 6) (w : World) (hN : Net seed (.slice ad sn sc) l w) (hsn : sn = l.length) :
    Calls Tryd.prog 112 #[.agg (spV seed (.slice ad sn sc) total N lo hi), .agg (ndV a n t)] w fun e w' => e = .returned (.tuple #[.agg (ndV a (n / 2 : Nat) (leftOf seed l lo hi a n t)), .agg (ndV (a + n / 2 : Nat) (n - n / 2 : Nat) (t - leftOf seed l lo hi a n t))]) ∧ Below w.heap.size w w' := by
  have hl := (hk.left (seed := seed) (l := l) (a := a)).1
  obtain ⟨h1, h2, h3, h4, h5, h6⟩ := hk
  have e0 := mul_bound n h1 lo h2 (by omega)
  have e1 := mul_bound n h1 hi (by omega) h3
  have e2 := mul_bound (n / 2) (by omega) lo h2 (by omega)
  have e3 := mul_bound (n / 2) (by omega) hi (by omega) h3
  have e4 := mul_bound (n - n / 2) (by omega) lo h2 (by omega)
  have e5 := mul_bound (n - n / 2) (by omega) hi (by omega) h3
  have s1 : (n : Int) * lo = (n / 2 : Nat) * lo + (n - n / 2 : Nat) * lo := by rw [← Int.add_mul]; congr 1; omega
  have s2 : (n : Int) * hi = (n / 2 : Nat) * hi + (n - n / 2 : Nat) * hi := by rw [← Int.add_mul]; congr 1; omega
  have s3 : ((n / 2 : Nat) : Int) * lo ≤ (n / 2 : Nat) * hi := Int.mul_le_mul_of_nonneg_left h4 (by omega)
  have s4 : ((n - n / 2 : Nat) : Int) * lo ≤ (n - n / 2 : Nat) * hi := Int.mul_le_mul_of_nonneg_left h4 (by omega)
  have hw : ∀ x : Int, -1099511627776 ≤ x → x ≤ 1099511627776 → wrap64 x = x := by
    intro x h1 h2
    unfold wrap64; omega
  have l1 := hl.t1
  have l2 := hl.t2
  refine halves_gen seed ad sn sc l total N lo hi a n t _ 0 ⟨by omega, by omega⟩ hn h1 ha hp ?_ w hN hsn
  intro g cap wx hNx
  rw [hw (((n / 2 : Nat) : Int) * lo) (by omega) (by omega), hw (((n - n / 2 : Nat) : Int) * hi) (by omega) (by omega), hw (((n / 2 : Nat) : Int) * hi) (by omega) (by omega), hw (((n - n / 2 : Nat) : Int) * lo) (by omega) (by omega), hw _ (by omega) (by omega), hw _ (by omega) (by omega)]
  exact between_any seed _ _ _ _ _ _ (by omega) (by omega) (by omega) (by omega) hs (by omega) hA wx hNx
end Go.Proofs.YtfkpeabkcdhcfaaDoor
namespace Go.Proofs.YtfkpeabkcdhcfaaDoor
open Go.RowKit
set_option maxRecDepth 100000
set_option maxHeartbeats 1000000 in
theorem vs_ok (seed : ByteArray) (ad : Option Addr) (sn sc : Nat) (total : Int) (N : Nat) (lo hi : Int) (hs : seed.size ≤ 32) (hp : sn ≤ 6) (hk : NodeOk lo hi N total) (w : World) :
    Calls Tryd.prog 46 #[.agg (spV seed (.slice ad sn sc) total N lo hi)] w fun e w' => e = .returned (.int .i64 0) ∧ Below w.heap.size w w' := by
  obtain ⟨hN, hlo, hhi, hlh, ht1, ht2⟩ := hk
  have h1 : ¬ (32 < (seed.size : Int)) := by omega
  have h2 : ¬ (6 < (sn : Int)) := by omega
  have h3 : ¬ (65536 < (N : Int)) := by omega
  have h4 : ¬ (min lo hi < -1048576) := by omega
  have h5 : ¬ (1048576 < max lo hi) := by omega
  have h6 : ¬ ((N : Int) < 0) := by omega
  have h7 : ¬ (hi < lo) := by omega
  have b1 := mul_bound N hN lo hlo (by omega)
  have b2 := mul_bound N hN hi (by omega) hhi
  have w1 : IntKind.i64.wrap ((N : Int) * lo) = (N : Int) * lo := by simp only [IntKind.wrap_i64]; omega
  have w2 : IntKind.i64.wrap ((N : Int) * hi) = (N : Int) * hi := by simp only [IntKind.wrap_i64]; omega
  have h8 : ¬ (total < (N : Int) * lo) := by omega
  have h9 : ¬ ((N : Int) * hi < total) := by omega
  unfold spV
  go_enter Tryd.func46, Tryd.ntmps46
  go_wp2
  go_ret
  exact ⟨rfl, (Below.refl _ _).alloc (Nat.le_refl _) _⟩
/-- a split of nothing with a sum is refused -/
theorem vs_none (w : World) : Calls Tryd.prog 46 #[.agg (spV default (.slice none 0 0) 7 0 0 9)] w fun e w' => e = .returned (.int .i64 5) ∧ Below w.heap.size w w' := by
  unfold spV
  go_enter Tryd.func46, Tryd.ntmps46
  go_wp2
  go_ret
  exact ⟨rfl, (Below.refl _ _).alloc (Nat.le_refl _) _⟩
theorem info43 : (Tryd.prog.info? 43).map (·.size) = some 6 := by kernel_rfl
set_option maxHeartbeats 1000000 in
theorem own_any (seed : ByteArray) (ad : Option Addr) (sn sc : Nat) (total N lo hi : Int) (w : World) : Calls Tryd.prog 45 #[.agg (spV seed (.slice ad sn sc) total N lo hi)] w fun e w' => e = .returned (.agg (spV seed (.slice ad sn sc) total N lo hi)) ∧ Below w.heap.size w w' := by
  have hrow : ((w.alloc (.cells (spV seed (.slice ad sn sc) total N lo hi) 55)).alloc (.cells #[.string ⟨#[]⟩, .slice none 0 0, .int .i64 0, .int .i64 0, .int .i64 0, .int .i64 0] 43)).heap[w.heap.size + 1]? = some (.cells #[.string ⟨#[]⟩, .slice none 0 0, .int .i64 0, .int .i64 0, .int .i64 0, .int .i64 0] 43 (0, 0)) := by
    have := heap_alloc_new (w.alloc (.cells (spV seed (.slice ad sn sc) total N lo hi) 55)) (.cells #[.string ⟨#[]⟩, .slice none 0 0, .int .i64 0, .int .i64 0, .int .i64 0, .int .i64 0] 43 (0, 0))
    rw [show (w.alloc (.cells (spV seed (.slice ad sn sc) total N lo hi) 55)).heap.size = w.heap.size + 1 by simp] at this
    exact this
  have hsp : ((w.alloc (.cells (spV seed (.slice ad sn sc) total N lo hi) 55)).alloc (.cells #[.string ⟨#[]⟩, .slice none 0 0, .int .i64 0, .int .i64 0, .int .i64 0, .int .i64 0] 43)).heap[w.heap.size]? = some (.cells (spV seed (.slice ad sn sc) total N lo hi) 55 (0, 0)) := by
    rw [Below.heap_alloc _ _ _ (by simp)]; exact heap_alloc_new _ _
  have hb : Below w.heap.size w ((w.alloc (.cells (spV seed (.slice ad sn sc) total N lo hi) 55)).alloc (.cells #[.string ⟨#[]⟩, .slice none 0 0, .int .i64 0, .int .i64 0, .int .i64 0, .int .i64 0] 43)) := ((Below.refl _ _).alloc (Nat.le_refl _) _).alloc (by simp) _
  unfold spV at hrow hsp hb ⊢
  go_enter Tryd.func45, Tryd.ntmps45
  go_upto_region 1 with fail
  change Code.wp Tryd.prog _ _ _ ((w.alloc (.cells #[.string seed, .slice ad sn sc, .int .i64 total, .int .i64 N, .int .i64 lo, .int .i64 hi] 55)).alloc (.cells #[.string ⟨#[]⟩, .slice none 0 0, .int .i64 0, .int .i64 0, .int .i64 0, .int .i64 0] 43))
  obtain ⟨W1, hW1⟩ : ∃ W1, W1 = (w.alloc (.cells #[.string seed, .slice ad sn sc, .int .i64 total, .int .i64 N, .int .i64 lo, .int .i64 hi] 55)).alloc (.cells #[.string ⟨#[]⟩, .slice none 0 0, .int .i64 0, .int .i64 0, .int .i64 0, .int .i64 0] 43) := ⟨_, rfl⟩
  rw [← hW1] at hrow hsp hb ⊢
  clear hW1
  have c0 : W1.cell? ⟨w.heap.size, 0, none⟩ = some (.string seed) := cell_of_row _ _ _ _ _ _ hsp
  have c1 : W1.cell? ⟨w.heap.size, 1, none⟩ = some (.slice ad sn sc) := cell_of_row _ _ _ _ _ _ hsp
  have c2 : W1.cell? ⟨w.heap.size, 2, none⟩ = some (.int .i64 total) := cell_of_row _ _ _ _ _ _ hsp
  have c3 : W1.cell? ⟨w.heap.size, 3, none⟩ = some (.int .i64 N) := cell_of_row _ _ _ _ _ _ hsp
  have c4 : W1.cell? ⟨w.heap.size, 4, none⟩ = some (.int .i64 lo) := cell_of_row _ _ _ _ _ _ hsp
  have c5 : W1.cell? ⟨w.heap.size, 5, none⟩ = some (.int .i64 hi) := cell_of_row _ _ _ _ _ _ hsp
  have HR := Lib.hid hrow
  have HB := Lib.hid hb
  clear hrow hsp hb
  go_wp2_with ((with_reducible show wpList _ _ _ ((⟨_, Op.store 43 _ _, _, _, _, _⟩ : Oper) :: _) _ _); refine wpList_store_row rfl 43 (.tmp 2) (.tmp 15) rfl (w.heap.size + 1) #[.string seed, .slice ad sn sc, .int .i64 total, .int .i64 N, .int .i64 lo, .int .i64 hi] rfl rfl 43 _ HR.out info43 rfl (by simp [Value.oneCell']) ?_)
  refine bodyPost_ret (v := .agg #[.string seed, .slice ad sn sc, .int .i64 total, .int .i64 N, .int .i64 lo, .int .i64 hi]) (results_cell_row rfl _ _ (w.heap.size + 1) _ _ _ _ rfl (setRow_heap _ _ _ _ _ _ HR.out) Tryd.underlying43 rfl info43) rfl ⟨rfl, below_setRow HB.out (by omega) _⟩
/-- the iterator of the leaves -/
theorem leaves_in (seed : ByteArray) (v : Value) (total N lo hi a n T : Int) (w : World) :
    Calls Tryd.prog 83 #[.agg (spV seed v total N lo hi), .agg (ndV a n T)] w fun e w' => e = .returned (.func (.func 111) #[] #[.pointer (some ⟨w.heap.size + 1, 0, none⟩), .pointer (some ⟨w.heap.size, 0, none⟩)]) ∧
      w' = (w.alloc (.cells (spV seed v total N lo hi) 43)).alloc (.cells (ndV a n T) 98) := by
  unfold spV ndV
  go_enter Tryd.func83, Tryd.ntmps83
  go_wp2
  go_ret
  exact ⟨rfl, rfl⟩
end Go.Proofs.YtfkpeabkcdhcfaaDoor
namespace Go.Proofs.YtfkpeabkcdhcfaaDoor
open Go.RowKit Go.Shelf
attribute [local go_sem] Oper.semAt_some
set_option maxRecDepth 100000
/-- a node: its first part, its number of parts, its sum -/
abbrev Nd := Nat × Nat × Int
def ndL (x : Nd) : List Value := [.int .i64 x.1, .int .i64 x.2.1, .int .i64 x.2.2]
/-- a stack's cells, its top first -/
def stC : List Nd → List Value
  | [] => []
  | x :: st => stC st ++ ndL x
theorem stC_len : ∀ st : List Nd, (stC st).length = st.length * 3
  | [] => rfl
  | x :: st => by simp [stC, ndL, stC_len st]; omega
def wN (n : Nat) : Nat := if n = 0 then 1 else 2 * n - 1
/-- a stack's weight, out of its cells -/
def wC : List Value → Nat
  | _ :: n :: _ :: r => wN (intOf n).toNat + wC r
  | _ => 0
theorem wC_app : ∀ (st : List Nd) (l : List Value), wC (stC st ++ l) = wC (stC st) + wC l
  | [], l => by simp [stC, wC]
  | x :: st, l => by
    have h1 := wC_app st (ndL x ++ l)
    have h2 := wC_app st (ndL x)
    simp only [stC, List.append_assoc]
    rw [h1, h2]
    simp [ndL, wC]; omega
theorem wC_cons (x : Nd) (st : List Nd) : wC (stC (x :: st)) = wC (stC st) + wN x.2.1 := by
  rw [stC, wC_app]; simp [ndL, wC, intOf]
theorem wC_len : ∀ st : List Nd, st.length ≤ wC (stC st)
  | [] => Nat.zero_le _
  | x :: st => by
    have := wC_len st
    rw [wC_cons]
    have h : 1 ≤ wN x.2.1 := by unfold wN; split <;> omega
    simp; omega
/-- the weight of the stack that a slice's value shows -/
def wV (v : Value) (w : World) : Nat := match v with
  | .slice (some a) n _ => match w.heap[a.block]? with
    | some (.cells cs _ _) => wC (cs.toList.take (n * 3))
    | _ => 0
  | _ => 0
theorem wV_own {w : World} {base : Nat} {v : Value} {st : List Nd} (h : w.ownsRow base 98 3 v st.length (stC st)) : wV v w = wC (stC st) := by
  rcases h.2 with ⟨h1, h2⟩ | ⟨g, cap, cur, h1, _, h3, _, _, _, h4⟩
  · have : st = [] := List.length_eq_zero_iff.1 h2
    subst this; subst h1; rfl
  · subst h1
    simp only [wV, h3, h4]
/-- the parts of a stack, its top first -/
def LVs (LV : Nd → List Int → Prop) : List Nd → List Int → Prop
  | [], ys => ys = []
  | x :: st, ys => ∃ y1 y2, LV x y1 ∧ LVs LV st y2 ∧ ys = y1 ++ y2
/-- the rule of a split: how a node's parts come out of its halves -/
structure Rule (seed : ByteArray) (v : Value) (l : List Int) (total N lo hi : Int) (LV : Nd → List Int → Prop) : Prop where
  two : ∀ x ys, LV x ys → 2 ≤ x.2.1 → ∃ p q y1 y2, LV p y1 ∧ LV q y2 ∧ ys = y1 ++ y2 ∧ 1 ≤ p.2.1 ∧ 1 ≤ q.2.1 ∧ p.2.1 + q.2.1 = x.2.1 ∧ ∀ w, Net seed v l w →
    Calls Tryd.prog 112 #[.agg (spV seed v total N lo hi), .agg (ndV x.1 x.2.1 x.2.2)] w fun e w' => e = .returned (.tuple #[.agg (ndV p.1 p.2.1 p.2.2), .agg (ndV q.1 q.2.1 q.2.2)]) ∧ Below w.heap.size w w'
  one : ∀ x ys, LV x ys → x.2.1 = 1 → ys = [x.2.2]
  none : ∀ x ys, LV x ys → x.2.1 = 0 → ys = []
/-- what a round of a loop over the parts keeps: what lay below n₀, and each node and split -/
structure KeptT (n₀ : Nat) (W W' : World) : Prop where
  below : Below n₀ W W'
  nd : ∀ (b : Nat) (cs : Array Value) (fr : Nat × Nat), W.heap[b]? = some (Obj.cells cs 98 fr) → W'.heap[b]? = some (Obj.cells cs 98 fr)
  sp : ∀ (b : Nat) (cs : Array Value) (fr : Nat × Nat), W.heap[b]? = some (Obj.cells cs 43 fr) → W'.heap[b]? = some (Obj.cells cs 43 fr)
theorem KeptT.trans {n₀ : Nat} {A B C : World} (h : KeptT n₀ A B) (k : KeptT n₀ B C) : KeptT n₀ A C :=
  ⟨h.below.trans k.below, fun b cs fr h1 => k.nd b cs fr (h.nd b cs fr h1), fun b cs fr h1 => k.sp b cs fr (h.sp b cs fr h1)⟩
theorem KeptT.own {n₀ base : Nat} {W W' : World} {v : Value} {n : Nat} {xs : List Value} (h : KeptT n₀ W W') (ho : W.ownsRow base 98 3 v n xs) : W'.ownsRow base 98 3 v n xs := by
  refine ⟨ho.1, ?_⟩
  rcases ho.2 with h1 | ⟨g, cap, cur, h1, h2, h3, h4⟩
  · exact .inl h1
  · exact .inr ⟨g, cap, cur, h1, h2, h.nd _ _ _ h3, h4⟩
/-- a popped stack -/
theorem own_pop {base g cap : Nat} {w : World} {x : Nd} {st : List Nd} (h : w.ownsRow base 98 3 (.slice (some ⟨g, 0, none⟩) (st.length + 1) cap) (st.length + 1) (stC (x :: st))) :
    w.ownsRow base 98 3 (.slice (some ⟨g, 0, none⟩) st.length cap) st.length (stC st) := by
  refine ⟨stC_len st, .inr ?_⟩
  rcases h.2 with ⟨h1, _⟩ | ⟨g', cap', cur, h1, h2, h3, h4, h5, h6, h7⟩
  · cases h1
  · simp only [Value.slice.injEq, Option.some.injEq, Addr.mk.injEq] at h1
    obtain ⟨⟨rfl, _⟩, _, rfl⟩ := h1
    refine ⟨g, cap, cur, rfl, h2, h3, by omega, h5, h6, ?_⟩
    have h8 : (cur.toList.take ((st.length + 1) * 3)).take (st.length * 3) = (stC (x :: st)).take (st.length * 3) := by rw [h7]
    rw [List.take_take, Nat.min_eq_left (by omega)] at h8
    rw [h8, stC, List.take_left' (stC_len st)]
end Go.Proofs.YtfkpeabkcdhcfaaDoor
namespace Go.Proofs.YtfkpeabkcdhcfaaDoor
open Go.RowKit Go.Shelf
attribute [local go_sem] Oper.semAt_some
theorem info98z : (Tryd.prog.info? 98).map (fun i => (i.zero, i.size, i.bytes)) = some (some (.agg #[.int .i64 0, .int .i64 0, .int .i64 0]), 3, 24) := by kernel_rfl
theorem own_later {base : Nat} {v : Value} {e : TypeId} {size n : Nat} {xs : List Value} {w w' : World} (h : w.ownsRow base e size v n xs) (hb : Below w.heap.size w w') : w'.ownsRow base e size v n xs := by
  refine ⟨h.1, ?_⟩
  rcases h.2 with h1 | ⟨g, cap, cur, h1, h2, h3, h4⟩
  · exact .inl h1
  · exact .inr ⟨g, cap, cur, h1, h2, (hb.block _ (lt_of_block h3)).trans h3, h4⟩
/-- J stands where new blocks are made, and where a walk's object or a row of nodes beyond B is written -/
def AbidesT {β : Type} (B : Nat) (J : β → World → Prop) : Prop :=
  ∀ s W W' row, J s W → W.grownBy W' row → (∀ r, row = some r → B ≤ r ∧ ∃ o : Obj, W.heap[r]? = some o ∧ (o.isWalk = true ∨ ∃ cs fr, o = .cells cs 98 fr)) → J s W'
theorem three_new {w : World} (w2 : World) (o1 o2 o3 : Obj) (h : Below w.heap.size w w2) : Below w.heap.size w (((w2.alloc o1).alloc o2).alloc o3) :=
  ((h.alloc h.size _).alloc (Nat.le_trans h.size (by simp)) _).alloc (Nat.le_trans h.size (by simp; omega)) _
theorem three_cell (w2 : World) (o1 o2 o3 : Obj) : (((w2.alloc o1).alloc o2).alloc o3).heap[w2.heap.size + 1 + 1]? = some o3 := by
  have := heap_alloc_new ((w2.alloc o1).alloc o2) o3
  rw [show ((w2.alloc o1).alloc o2).heap.size = w2.heap.size + 1 + 1 by simp] at this
  exact this
/-- two nodes are pushed -/
theorem push2 {F : Fence} {nF : Nat} {ops : Array Oper} {rest : List Oper} {o : Oper} {a : Act} {Q : Exit → Act → World → Prop} {w : World} (base : Nat) (hgd : o.guard = none) (s x : Operand)
    (ho : o.op = .call { callee := .builtin .append, args := #[s, x], argTypes := #[131, 131] }) (v : Value) (k : Nat) (st : List Nd) (hs : a.eval s = v) (hown : w.ownsRow base 98 3 v k (stC st)) (B c : Nat) (p q : Nd) (hx : a.eval x = .slice (some ⟨B, 0, none⟩) 2 c)
    (hB : w.heap[B]? = some (.cells #[.int .i64 q.1, .int .i64 q.2.1, .int .i64 q.2.2, .int .i64 p.1, .int .i64 p.2.1, .int .i64 p.2.2] 98 (0, 0))) (hk : k ≤ 2000) (hbase : base ≤ w.heap.size)
    (h : ∀ v' w', w'.ownsRow base 98 3 v' (k + 2) (stC (p :: q :: st)) → w.grownBy w' v.ownBlock → wpListIn F nF Tryd.prog ops Q rest (a.put o.dst v') w') : wpListIn F nF Tryd.prog ops Q (o :: rest) a w := by
  obtain ⟨i0, hi0, hz0, hz1, hz2⟩ := info_parts info98z
  refine wpListIn_append_own_at w hgd s x 131 ho base 98 i0 _ 3 24 Tryd.underlying131 hi0 hz0 hz1 hz2 rfl (by decide) v k (stC st) hs hown ⟨B, 0, none⟩ 2 c [.int .i64 q.1, .int .i64 q.2.1, .int .i64 q.2.2, .int .i64 p.1, .int .i64 p.2.1, .int .i64 p.2.2] hx rfl
    (World.news_of_block (cs := #[.int .i64 q.1, .int .i64 q.2.1, .int .i64 q.2.2, .int .i64 p.1, .int .i64 p.2.1, .int .i64 p.2.2]) hB) (by simp [Value.oneCell']) (by unfold maxLen; omega) (by omega) hbase ?_
  intro v' w' h1 h2 _ _
  refine h v' w' ?_ h2
  rw [stC, stC, List.append_assoc]
  exact h1
set_option maxRecDepth 100000 in
set_option maxHeartbeats 1000000 in
theorem leaves1_in (seed : ByteArray) (ad : Option Addr) (sn sc : Nat) (l : List Int) (total N lo hi : Int) (LV : Nd → List Int → Prop) (hR : Rule seed (.slice ad sn sc) l total N lo hi LV) (x0 : Nd) (ys : List Int) (h0 : LV x0 ys) (hx0 : x0.2.1 ≤ 1000) (m : Nat) (hm : 1 ≤ m) (lp Bn Bw : Nat) (wS : World) (hN : Net seed (.slice ad sn sc) l wS)
    (J Jx : List Int → World → Prop)
    (hY : ∀ pre x W, J pre W → pre.length < ys.length → YieldAt Fence.wide (m - 1) Tryd.prog lp #[.int .i64 x] W fun e W' =>
      (e = .returned (.bool true) ∧ J (pre ++ [x]) W' ∧ KeptT wS.heap.size W W') ∨ (e = .returned (.bool false) ∧ Jx (pre ++ [x]) W'))
    (W : World) (hW : Below wS.heap.size wS W) (hBn : W.heap[Bn]? = some (.cells (ndV x0.1 x0.2.1 x0.2.2) 98 (0, 0))) (hBw : W.heap[Bw]? = some (.cells (spV seed (.slice ad sn sc) total N lo hi) 43 (0, 0))) (hJ : AbidesT W.heap.size J) (hJ0 : J [] W) :
    CallsIn Fence.wide m Tryd.prog 111 #[.func (.yield lp) #[] #[], .pointer (some ⟨Bn, 0, none⟩), .pointer (some ⟨Bw, 0, none⟩)] W fun e W' => (∃ v, e = .returned v) ∧
      ((∃ zs, zs = ys ∧ J zs W') ∨ (∃ pre, pre <+: ys ∧ Jx pre W')) := by
  have HR := Lib.hid hR
  have HN := Lib.hid hN
  have HJ0 := Lib.hid hJ
  have HBW := Lib.hid hBw
  have HWS := Lib.hid hW.size
  have hc0 : W.cell? ⟨Bn, 0, none⟩ = some (.int .i64 x0.1) := cell_of_row _ _ _ _ _ _ hBn
  have hc1 : W.cell? ⟨Bn, 1, none⟩ = some (.int .i64 x0.2.1) := cell_of_row _ _ _ _ _ _ hBn
  have hc2 : W.cell? ⟨Bn, 2, none⟩ = some (.int .i64 x0.2.2) := cell_of_row _ _ _ _ _ _ hBn
  clear hR hN hJ hBw hBn
  refine callsIn_of_wp Tryd.func111 rfl trivial ?_ rfl
  simp only [Tryd.ntmps111, List.size_toArray, List.length_cons, List.length_nil, Nat.reduceAdd, Nat.reduceSub, Array.replicate_succ, Array.replicate_zero, List.push_toArray, List.append_toArray, List.nil_append, List.cons_append]
  gi_wp2
  gi_loopw [4] (fun c wr => ∃ (st : List Nd) (pre rest : List Int), wr.ownsRow W.heap.size 98 3 c st.length (stC st) ∧ wC (stC st) ≤ 2000 ∧ LVs LV st rest ∧ pre ++ rest = ys ∧ (Below wS.heap.size wS wr ∧ W.heap.size ≤ wr.heap.size ∧ wr.heap[Bw]? = some (.cells (spV seed (.slice ad sn sc) total N lo hi) 43 (0, 0))) ∧ J pre wr) (fun c wr => wV c wr)
  case atStart =>
    refine ⟨[x0], [], ys, ⟨rfl, .inr ⟨W.heap.size, 1, _, rfl, Nat.le_refl _, heap_alloc_new _ _, Nat.le_refl _, by unfold maxLen; omega, rfl, rfl⟩⟩, ?_, ⟨ys, [], h0, rfl, by simp⟩, rfl, ⟨hW.alloc hW.size _, by simp, ?_⟩, ?_⟩
    · rw [wC_cons]; simp only [stC, wC, wN]; split <;> omega
    · rw [Below.heap_alloc _ _ _ (lt_of_block HBW.out)]; exact HBW.out
    · exact HJ0.out _ W _ none hJ0 ⟨rfl, rfl, rfl, by simp, fun k hk _ => Below.heap_alloc _ _ _ hk⟩ (fun r e => by cases e)
  case round =>
    obtain ⟨st, pre, rest, hown, hwt, hlv, hys, hb, hJs⟩ := hrel
    have HB := Lib.hid hb
    have HJ := Lib.hid hJs
    clear hb hJs hc0 hc1 hc2 hJ0 hW h0
    cases st with
    | nil =>
      rcases hown.2 with ⟨rfl, _⟩ | ⟨g, cap, cur, rfl, _⟩
      · gi_wp2
        go_end0
        refine ⟨⟨_, rfl⟩, .inl ⟨pre, ?_, HJ.out⟩⟩
        rw [← hys, show rest = [] from hlv, List.append_nil]
      · gi_wp2
        go_end0
        refine ⟨⟨_, rfl⟩, .inl ⟨pre, ?_, HJ.out⟩⟩
        rw [← hys, show rest = [] from hlv, List.append_nil]
    | cons x st =>
      obtain ⟨xa, xn, xt⟩ := x
      obtain ⟨g, cap, rfl, hg1, hg2⟩ := hown.form (by simp)
      obtain ⟨k, hk⟩ : ∃ k, k = st.length := ⟨_, rfl⟩
      have hpop := own_pop hown
      have hlen : ((xa, xn, xt) :: st).length = k + 1 := by rw [hk]; rfl
      have e0 : wr.cell? ⟨g, k * 3, none⟩ = some (.int .i64 xa) := by rw [hown.cellAt _ (by rw [hlen]; omega), stC, hk, ← stC_len, List.getElem?_append_right (Nat.le_refl _), Nat.sub_self]; rfl
      have e1 : wr.cell? ⟨g, k * 3 + 1, none⟩ = some (.int .i64 xn) := by rw [hown.cellAt _ (by rw [hlen]; omega), stC, hk, ← stC_len, List.getElem?_append_right (by omega), Nat.add_sub_cancel_left]; rfl
      have e2 : wr.cell? ⟨g, k * 3 + 2, none⟩ = some (.int .i64 xt) := by rw [hown.cellAt _ (by rw [hlen]; omega), stC, hk, ← stC_len, List.getElem?_append_right (by omega), Nat.add_sub_cancel_left]; rfl
      rw [hlen]
      have HO := Lib.hid hown
      have HP := Lib.hid hpop
      have HWT := Lib.hid hwt
      have HLV := Lib.hid hlv
      have HG1 := Lib.hid hg1
      have HG2 := Lib.hid hg2
      have HK := Lib.hid hk
      clear hown hpop hwt hlv hg1 hg2 hk hlen
      have hk2 : k ≤ 2000 := by have := wC_len ((xa, xn, xt) :: st); have := HWT.out; have := HK.out; simp at *; omega
      have hwk : wrap64 (k : Int) = (k : Int) := by unfold wrap64; omega
      have hcap : k + 1 ≤ cap := by
        rcases HO.out.2 with ⟨h, _⟩ | ⟨g', cap', cur, h, _, _, h4, _⟩
        · cases h
        · simp only [Value.slice.injEq] at h
          rw [h.2.2, HK.out]; exact h4
      have hk0 : (0 : Int) ≤ (k : Int) := by omega
      have hkc : (k : Int) ≤ (cap : Int) := by omega
      have hk1 : (k : Int) < (k : Int) + 1 := by omega
      by_cases hn : 1 < xn
      · have hn' : 1 < (xn : Int) := by omega
        obtain ⟨y1, y2, hy1, hy2, hy3⟩ := HLV.out
        obtain ⟨⟨pa, pn, pt⟩, ⟨qa, qn, qt⟩, z1, z2, hp, hq, hz, hp1, hq1, hpq, hcall⟩ := HR.out.two _ _ hy1 hn
        have hbw := lt_of_block HB.out.2.2
        have b0 : wr.cell? ⟨Bw, 0, none⟩ = some (.string seed) := cell_of_row _ _ _ _ _ _ HB.out.2.2
        have b1 : wr.cell? ⟨Bw, 1, none⟩ = some (.slice ad sn sc) := cell_of_row _ _ _ _ _ _ HB.out.2.2
        have b2 : wr.cell? ⟨Bw, 2, none⟩ = some (.int .i64 total) := cell_of_row _ _ _ _ _ _ HB.out.2.2
        have b3 : wr.cell? ⟨Bw, 3, none⟩ = some (.int .i64 N) := cell_of_row _ _ _ _ _ _ HB.out.2.2
        have b4 : wr.cell? ⟨Bw, 4, none⟩ = some (.int .i64 lo) := cell_of_row _ _ _ _ _ _ HB.out.2.2
        have b5 : wr.cell? ⟨Bw, 5, none⟩ = some (.int .i64 hi) := cell_of_row _ _ _ _ _ _ HB.out.2.2
        have hal : Below wr.heap.size wr (wr.alloc (.cells #[.int .i64 xa, .int .i64 xn, .int .i64 xt] 98)) := (Below.refl _ _).alloc (Nat.le_refl _) _
        have hc := hcall _ (HN.out.later (HB.out.1.trans (hal.mono HB.out.1.size)))
        unfold spV ndV at hc
        have HC := Lib.hid hc
        have HAL := Lib.hid hal
        have HY3 := Lib.hid hy3
        have HY2 := Lib.hid hy2
        have HZ := Lib.hid hz
        have HPQ := Lib.hid (And.intro hp hq)
        dsimp only at hp1 hq1 hpq
        clear hc hcall hal hy3 hy2 hy1 hz hp hq hY
        gi_wp2_with (first
          | (refine ⟨trivial, ?_⟩; gi_at_call 112; refine (callsIn_wide.2 HC.out).mono ?_; rintro e w2 ⟨rfl, hb2⟩; have HB2 := Lib.hid (HAL.out.trans (hb2.mono HAL.out.size)); clear hb2)
          | (gi_at_builtin
             (with_reducible show wpListIn _ _ _ _ _ ((⟨_, Op.call {callee := .builtin .append, args := _, argTypes := _}, _, _, _, _⟩ : Oper) :: _) _ _)
             refine push2 W.heap.size rfl _ _ rfl (.slice (some ⟨g, 0, none⟩) k cap) k st rfl (own_later (by rw [HK.out]; exact HP.out) (three_new w2 _ _ _ HB2.out)) (w2.heap.size + 1 + 1) 2 (pa, pn, pt) (qa, qn, qt) rfl (three_cell w2 _ _ _) hk2 (Nat.le_trans HB.out.2.1 (three_new w2 _ _ _ HB2.out).size) ?_
             intro v5 w5 hown5 hgrow5
             have HO5 := Lib.hid hown5
             have HG5 := Lib.hid hgrow5
             clear hown5 hgrow5))
        have hwt2 : wC (stC ((pa, pn, pt) :: (qa, qn, qt) :: st)) < wC (stC (((xa, xn, xt) : Nd) :: st)) := by
          simp only [wC_cons, wN]
          rw [if_neg (by omega), if_neg (by omega), if_neg (by omega)]
          omega
        have ho5 : w5.ownsRow W.heap.size 98 3 v5 ((pa, pn, pt) :: (qa, qn, qt) :: st).length (stC ((pa, pn, pt) :: (qa, qn, qt) :: st)) := by
          have := HO5.out
          rw [HK.out] at this
          exact this
        have hb6 := three_new w2 (.cells #[.int .i64 pa, .int .i64 pn, .int .i64 pt] 98) (.cells #[.int .i64 qa, .int .i64 qn, .int .i64 qt] 98) (.cells #[.int .i64 qa, .int .i64 qn, .int .i64 qt, .int .i64 pa, .int .i64 pn, .int .i64 pt] 98) HB2.out
        have hJ6 := HJ0.out _ wr _ none HJ.out ⟨hb6.os, hb6.tape, hb6.output, hb6.size, fun k hk _ => hb6.block k hk⟩ (fun r e => by cases e)
        have hgo : ∃ o, (((w2.alloc (.cells #[.int .i64 pa, .int .i64 pn, .int .i64 pt] 98)).alloc (.cells #[.int .i64 qa, .int .i64 qn, .int .i64 qt] 98)).alloc (.cells #[.int .i64 qa, .int .i64 qn, .int .i64 qt, .int .i64 pa, .int .i64 pn, .int .i64 pt] 98)).heap[g]? = some o ∧ (o.isWalk = true ∨ ∃ cs fr, o = .cells cs 98 fr) := by
          have hx := own_later HP.out hb6
          rcases hx.2 with ⟨h1, _⟩ | ⟨g', cap', cur, h1, _, h3, _⟩
          · cases h1
          · simp only [Value.slice.injEq, Option.some.injEq, Addr.mk.injEq] at h1
            obtain ⟨⟨rfl, _⟩, _⟩ := h1
            exact ⟨_, h3, .inr ⟨_, _, rfl⟩⟩
        have hJ5 := HJ0.out _ _ _ _ hJ6 HG5.out (fun r e => by cases e; exact ⟨HG1.out, hgo⟩)
        have hbs : Below wS.heap.size wS w5 := (HB.out.1.trans (hb6.mono HB.out.1.size)).grown HG5.out (Nat.le_trans HB.out.1.size hb6.size) (fun j ej => by cases ej; exact Nat.le_trans HWS.out HG1.out)
        have hsz : W.heap.size ≤ w5.heap.size := Nat.le_trans (Nat.le_trans HB.out.2.1 hb6.size) HG5.out.size
        have hbl := lt_of_block HBW.out
        have hsp : w5.heap[Bw]? = some (.cells (spV seed (.slice ad sn sc) total N lo hi) 43 (0, 0)) := by
          have hg := HG1.out
          rw [HG5.out.block Bw (Nat.lt_of_lt_of_le hbw hb6.size) (by intro h; simp [Value.ownBlock] at h; omega), hb6.block _ hbw]
          exact HB.out.2.2
        have H5 := Lib.hid hJ5
        have H6 := Lib.hid hsp
        have H7 := Lib.hid hbs
        have H8 := Lib.hid hsz
        have H9 := Lib.hid ho5
        have HW2 := Lib.hid hwt2
        clear hJ5 hJ6 hsp hbs hsz ho5 hwt2 hb6
        go_roundw
        case rel =>
          refine ⟨(pa, pn, pt) :: (qa, qn, qt) :: st, pre, rest, H9.out, Nat.le_trans (Nat.le_of_lt HW2.out) HWT.out, ⟨z1, z2 ++ y2, HPQ.out.1, ⟨z2, y2, HPQ.out.2, HY2.out, rfl⟩, ?_⟩, hys, ⟨H7.out, H8.out, H6.out⟩, H5.out⟩
          rw [HY3.out, HZ.out, List.append_assoc]
        case measure =>
          have e1 := wV_own HO.out
          rw [show (((xa, xn, xt) : Nd) :: st).length = k + 1 by rw [HK.out]; rfl] at e1
          rw [wV_own H9.out, e1]
          exact HW2.out
      · rcases (show xn = 1 ∨ xn = 0 by omega) with rfl | rfl
        · obtain ⟨y1, y2, hy1, hy2, hy3⟩ := HLV.out
          have hy1' := HR.out.one _ _ hy1 rfl
          subst hy1'
          have hJ2 : J pre (wr.alloc (.cells #[.int .i64 xa, .int .i64 1, .int .i64 xt] 98)) := HJ0.out _ wr _ none HJ.out ⟨rfl, rfl, rfl, by simp, fun k hk _ => Below.heap_alloc _ _ _ hk⟩ (fun r e => by cases e)
          obtain ⟨fn, tmps, assign, body, hy, hYR⟩ := hY pre xt _ hJ2 (by rw [← hys, hy3]; simp)
          have HJ2 := Lib.hid hJ2
          have HY3 := Lib.hid hy3
          have HY2 := Lib.hid hy2
          clear hJ2 hy3 hy2 hy1
          gi_wp2_with fail
          refine hYR.mono ?_
          rintro e W3 (⟨rfl, hJ3, hk3⟩ | ⟨rfl, hJx3⟩)
          · have HJ3 := Lib.hid hJ3
            have HK3 := Lib.hid hk3
            clear hJ3 hk3 hYR hy
            have hal : Below wr.heap.size wr (wr.alloc (.cells #[.int .i64 xa, .int .i64 1, .int .i64 xt] 98)) := (Below.refl _ _).alloc (Nat.le_refl _) _
            have hown3 := HK3.out.own (HP.out.alloc (.cells #[.int .i64 xa, .int .i64 1, .int .i64 xt] 98))
            rw [← HK.out] at hown3
            have HAL := Lib.hid hal
            have HO3 := Lib.hid hown3
            clear hal hown3
            gi_wp2
            go_roundw
            case rel =>
              refine ⟨st, pre ++ [xt], y2, by rw [← HK.out]; exact HO3.out, ?_, HY2.out, ?_, ⟨(HB.out.1.trans (HAL.out.mono HB.out.1.size)).trans HK3.out.below, ?_, ?_⟩, HJ3.out⟩
              · have := HWT.out; rw [wC_cons] at this; omega
              · rw [← hys, HY3.out]; simp
              · have h1 := HB.out.2.1; have h2 := HAL.out.size; have h3 := HK3.out.below.size; omega
              · exact HK3.out.sp _ _ _ ((HAL.out.block _ (lt_of_block HB.out.2.2)).trans HB.out.2.2)
            case measure =>
              have e1 := wV_own HO.out
              have e2 := wV_own (st := st) (by rw [← HK.out]; exact HO3.out)
              rw [wC_cons, show (((xa, 1, xt) : Nd) :: st).length = k + 1 by rw [HK.out]; rfl] at e1
              rw [e1, e2]
              simp [wN]
          · gi_wp2
            refine bodyPost_ret (results_none rfl _ _ _) rfl ?_
            exact ⟨⟨_, rfl⟩, .inr ⟨pre ++ [xt], by rw [← hys, HY3.out]; simp, hJx3⟩⟩
        · obtain ⟨y1, y2, hy1, hy2, hy3⟩ := HLV.out
          have hy1' := HR.out.none _ _ hy1 rfl
          subst hy1'
          have hJ2 : J pre (wr.alloc (.cells #[.int .i64 xa, .int .i64 0, .int .i64 xt] 98)) := HJ0.out _ wr _ none HJ.out ⟨rfl, rfl, rfl, by simp, fun k hk _ => Below.heap_alloc _ _ _ hk⟩ (fun r e => by cases e)
          have hal : Below wr.heap.size wr (wr.alloc (.cells #[.int .i64 xa, .int .i64 0, .int .i64 xt] 98)) := (Below.refl _ _).alloc (Nat.le_refl _) _
          have hown3 := HP.out.alloc (.cells #[.int .i64 xa, .int .i64 0, .int .i64 xt] 98)
          rw [← HK.out] at hown3
          have HAL := Lib.hid hal
          have HO3 := Lib.hid hown3
          have HJ2 := Lib.hid hJ2
          have HY3 := Lib.hid hy3
          have HY2 := Lib.hid hy2
          clear hal hown3 hJ2 hy3 hy2 hy1
          gi_wp2_with (first | ((with_reducible show (∀ f : FuncId, none = some f → _) ∧ _); refine And.intro (fun f h => nomatch h) ?_))
          go_roundw
          case rel =>
            refine ⟨st, pre, y2, by rw [← HK.out]; exact HO3.out, ?_, HY2.out, ?_, ⟨HB.out.1.trans (HAL.out.mono HB.out.1.size), ?_, ?_⟩, HJ2.out⟩
            · have := HWT.out; rw [wC_cons] at this; omega
            · rw [← hys, HY3.out]; simp
            · have h1 := HB.out.2.1; have h2 := HAL.out.size; omega
            · exact (HAL.out.block _ (lt_of_block HB.out.2.2)).trans HB.out.2.2
          case measure =>
            have e1 := wV_own HO.out
            have e2 := wV_own (st := st) (by rw [← HK.out]; exact HO3.out)
            rw [wC_cons, show (((xa, 0, xt) : Nd) :: st).length = k + 1 by rw [HK.out]; rfl] at e1
            rw [e1, e2]
            simp [wN]
end Go.Proofs.YtfkpeabkcdhcfaaDoor
namespace Go.Proofs.YtfkpeabkcdhcfaaDoor
open Go.RowKit Go.Shelf
attribute [local go_sem] Oper.semAt_some
/-- what the caller's relation abides -/
def OwnT {β : Type} (B : Nat) (I : β → World → Prop) : Prop :=
  ∀ s W W' row, I s W → W.grownBy W' row → (∀ r, row = some r → B ≤ r ∧ ∃ o : Obj, W.heap[r]? = some o ∧ (o.isCells = false ∨ ∃ cs fr, o = .cells cs 98 fr)) → I s W'
theorem OwnT.alloc {β : Type} {B : Nat} {I : β → World → Prop} (h : OwnT B I) {s : β} {W : World} (hs : I s W) (o : Obj) : I s (W.alloc o) :=
  h s W _ none hs (World.grownBy_alloc W o none) (fun r e => by cases e)
theorem OwnT.put {β : Type} {B : Nat} {I : β → World → Prop} (h : OwnT B I) {s : β} {W : World} {l : Nat} {o : Obj} (o' : Obj) (hs : I s W) (hB : B ≤ l) (hl : W.heap[l]? = some o) (ho : o.isCells = false) : I s (W.putObj l o') :=
  h s W _ (some l) hs (grownBy_putObj' W l o') (fun r e => by cases e; exact ⟨hB, o, hl, .inl ho⟩)
theorem KeptT.put {n₀ : Nat} {W : World} (hn : n₀ ≤ W.heap.size) {l : Nat} {o : Obj} (o' : Obj) (hl : n₀ ≤ l) (h : W.heap[l]? = some o) (h1 : o.isCells = false) : KeptT n₀ W (W.putObj l o') := by
  have hne : ∀ b cs t fr, W.heap[b]? = some (Obj.cells cs t fr) → b ≠ l := fun b cs t fr hb e => by
    subst e; rw [h] at hb; cases hb; cases h1
  refine ⟨(Below.refl n₀ W).grown (grownBy_putObj' W l o') hn (fun k e => by cases e; exact hl), fun b cs fr hb => ?_, fun b cs fr hb => ?_⟩
  · exact (World.putObj_heap_other (hne b cs 98 fr hb)).trans hb
  · exact (World.putObj_heap_other (hne b cs 43 fr hb)).trans hb
/-- the iterator hands out ys; it writes walks' objects and rows of nodes beyond B alone -/
def SeqT (m gf : Nat) (lb : Array Value) (ys : List Int) (n₀ : Nat) (w : World) : Prop :=
  ∀ (l : Nat) (J : List Int → World → Prop) (W : World), Below w.heap.size w W → AbidesT W.heap.size J →
    (∀ pre x W1, J pre W1 → pre.length < ys.length → YieldAt Fence.wide (m - 1) Tryd.prog l #[.int .i64 x] W1 fun e W' => e = .returned (.bool true) ∧ J (pre ++ [x]) W' ∧ KeptT n₀ W1 W') → J [] W →
    CallsIn Fence.wide m Tryd.prog gf (#[.func (.yield l) #[] #[]] ++ lb) W fun e W' => (∃ v, e = .returned v) ∧ J ys W'
theorem range_all {n : Nat} {g : Operand} {ps : Array Tmp} {assign body : Code} {Q : Exit → Act → World → Prop} {a : Act} {w : World} (h1 : 1 ≤ n) {gf : Nat} {lb : Array Value} (hg : a.eval g = .func (.func gf) #[] lb)
    (eg : ∀ args w, (callFunc gf args).run Tryd.prog w = .ok (.enter gf args) w) {ys : List Int} {n₀ : Nat} (hn₀ : n₀ ≤ w.heap.size) (hps : ps.size = 1) (hseq : SeqT (n - 1) gf lb ys n₀ w) (I : List Int → World → Prop) (hI : OwnT w.heap.size I) (h0 : I [] w) (a₁ : Int → Act)
    (hassign : ∀ (l : Nat) (x : Int) (W : World) (K : Act → World → Prop), K (a₁ x) W → assign.wpIn (Fence.wide.inRound l) (n - 1 - 1) Tryd.prog (Exit.then K (fun _ _ _ => False)) { tmps := (ps.zip #[.int .i64 x]).foldl (fun t (p, v) => t.setIfInBounds p v) a.tmps, defers := [] } W)
    (hbody : ∀ (l : Nat) (pre : List Int) (x : Int) (W : World), I pre W → pre.length < ys.length → body.wpIn (Fence.wide.inRound l) (n - 1 - 1) Tryd.prog (fun e _ W' => e = .normal ∧ KeepsOthers W W' ∧ KeptT n₀ W W' ∧ I (pre ++ [x]) W') (a₁ x) W)
    (hdone : ∀ (D : Nat) (W : World), w.heap.size ≤ D → I ys W → W.heap[D]? = some (.deferred (some [])) → Q .normal { a with defers := { target := .collected D, args := #[] } :: a.defers } W) :
    (Code.rangeFunc g ps assign body).wpIn Fence.wide n Tryd.prog Q a w := by
  refine wpIn_rangeFunc fun fn hfn => ?_
  rw [show Fence.wide.round = none from rfl]
  let rec0 : Loop := { state := .ready, pending := none, fn, tmps := a.tmps, params := ps, assign, body, defers := w.heap.size }
  let B := w.heap.size
  obtain ⟨V, hV⟩ : ∃ V, V = (w.alloc (.deferred (some []))).alloc (.loop rec0) := ⟨_, rfl⟩
  have hsB : (w.alloc (.deferred (some []))).heap.size = B + 1 := by simp [B]
  have hloop : V.heap[B + 1]? = some (.loop rec0) := by
    rw [hV, ← hsB]; exact World.alloc_heap_new _ _
  have hmark : V.heap[B]? = some (.deferred (some [])) := by
    rw [hV, Below.heap_alloc _ _ _ (by rw [hsB]; exact Nat.lt_succ_self _)]; exact World.alloc_heap_new w _
  have hIV : I [] V := by rw [hV]; exact hI.alloc (hI.alloc h0 _) _
  have hbV : Below w.heap.size w V := by rw [hV]; exact ((Below.refl _ w).alloc (Nat.le_refl _) _).alloc (by simp) _
  refine ⟨B + 1, [{ target := .collected B, args := #[] }], V, { target := .fn (.func gf) lb, args := #[.func (.yield (B + 1)) #[] #[]] }, V, gf, #[.func (.yield (B + 1)) #[] #[]] ++ lb, V, ?_, ?_, fun _ _ => trivial, ?_, fun _ => h1, ?_⟩
  · rw [hV]; exact run_enterLoop_outer _ _ _ _ _
  · simp only [resolve, hg]
    simp [go_sem]
  · simp [invoke, go_sem, eg]
  have hltV : B + 1 < V.heap.size := (Array.getElem?_eq_some_iff.1 hloop).1
  refine (hseq (B + 1) (fun pre W => I pre W ∧ W.heap[B + 1]? = some (.loop rec0) ∧ W.heap[B]? = some (.deferred (some []))) V hbV ?_ ?_ ⟨hIV, hloop, hmark⟩).mono ?_
  · intro s W W' row hs hg' hr
    have hne : ∀ j, j < V.heap.size → some j ≠ row := fun j hj e => by have := (hr j e.symm).1; omega
    refine ⟨hI s W W' row hs.1 hg' fun r e => ?_, (hg'.block _ (Array.getElem?_eq_some_iff.1 hs.2.1).1 (hne _ hltV)).trans hs.2.1, (hg'.block _ (Array.getElem?_eq_some_iff.1 hs.2.2).1 (hne _ (by omega))).trans hs.2.2⟩
    obtain ⟨h3, o, ho, hw⟩ := hr r e
    exact ⟨by show B ≤ r; omega, o, ho, hw.imp Obj.not_cells_of_walk id⟩
  · rintro pre x W ⟨hi, hl, hd⟩ hlen
    have hlt := (Array.getElem?_eq_some_iff.1 hl).1
    have hy := run_yield (P := Tryd.prog) (args := #[.int .i64 x]) hl (by rw [hps]; rfl)
    refine ⟨fn, _, assign, body, hy, roundIn_of_wpIn hfn (hassign _ x W _ ⟨_, run_beginRound hl rfl, ?_⟩)⟩
    obtain ⟨W2, hW2⟩ : ∃ W2, W2 = W.putObj (B + 1) (.loop { rec0 with state := .busy }) := ⟨_, rfl⟩
    have hl2 : W2.heap[B + 1]? = some (.loop { rec0 with state := .busy }) := by rw [hW2]; exact World.putObj_heap_same hlt
    have hd2 : W2.heap[B]? = some (.deferred (some [])) := by rw [hW2]; exact (World.putObj_heap_other (by omega)).trans hd
    have hi2 : I pre W2 := by rw [hW2]; exact hI.put _ hi (Nat.le_succ _) hl rfl
    have hk2 : KeptT n₀ W W2 := by rw [hW2]; exact KeptT.put (by omega) _ (by omega) hl rfl
    rw [← hW2]
    refine wpIn_mono (hbody _ pre x W2 hi2 hlen) ?_
    rintro e a3 W3 ⟨rfl, hk, hkt, hx⟩
    have hl3 := hk.same _ _ hl2 rfl
    have hd3 := hk.same _ _ hd2 rfl
    have hlt3 := (Array.getElem?_eq_some_iff.1 hl3).1
    refine ⟨_, _, run_endRound none hl3, rfl, ⟨hI.put _ hx (Nat.le_succ _) hl3 rfl, World.putObj_heap_same hlt3, (World.putObj_heap_other (by omega)).trans hd3⟩, (hk2.trans hkt).trans (KeptT.put (by omega) _ (by omega) hl3 rfl)⟩
  · rintro e W2 ⟨⟨v, rfl⟩, hx, hl, hd⟩
    exact ⟨none, _, run_endLoop hl (by simp [rec0]), hdone B _ (Nat.le_refl _) (hI.put _ hx (Nat.le_succ _) hl rfl) ((World.putObj_heap_other (by omega)).trans hd)⟩
end Go.Proofs.YtfkpeabkcdhcfaaDoor
namespace Go.Proofs.YtfkpeabkcdhcfaaDoor
open Go.RowKit Go.Shelf
attribute [local go_sem] Oper.semAt_some
theorem leaves_seq (seed : ByteArray) (ad : Option Addr) (sn sc : Nat) (l : List Int) (total N lo hi : Int) (LV : Nd → List Int → Prop) (hR : Rule seed (.slice ad sn sc) l total N lo hi LV) (x0 : Nd) (ys : List Int) (h0 : LV x0 ys) (hx0 : x0.2.1 ≤ 1000) (m : Nat) (hm : 1 ≤ m) (Bn Bw : Nat) (wS w : World) (hN : Net seed (.slice ad sn sc) l wS)
    (hw : Below wS.heap.size wS w) (hBn : w.heap[Bn]? = some (.cells (ndV x0.1 x0.2.1 x0.2.2) 98 (0, 0))) (hBw : w.heap[Bw]? = some (.cells (spV seed (.slice ad sn sc) total N lo hi) 43 (0, 0))) :
    SeqT m 111 #[.pointer (some ⟨Bn, 0, none⟩), .pointer (some ⟨Bw, 0, none⟩)] ys wS.heap.size w :=
  fun lp J W hW hJ hY hJ0 => by
    refine (leaves1_in seed ad sn sc l total N lo hi LV hR x0 ys h0 hx0 m hm lp Bn Bw wS hN J (fun _ _ => False) (fun pre x W1 h1 h2 => ?_) W (hw.trans (hW.mono hw.size)) ((hW.block _ (lt_of_block hBn)).trans hBn) ((hW.block _ (lt_of_block hBw)).trans hBw) hJ hJ0).mono ?_
    · obtain ⟨fn, tmps, assign, body, h3, h4⟩ := hY pre x W1 h1 h2
      exact ⟨fn, tmps, assign, body, h3, h4.mono fun _ _ h => .inl h⟩
    · rintro e W' ⟨hv, (⟨zs, rfl, h⟩ | ⟨_, _, h⟩)⟩
      · exact ⟨hv, h⟩
      · exact h.elim
/-- what has been gathered: the box at G holds a slice that owns pre -/
def Got (n₀ G : Nat) (pre : List Int) (W : World) : Prop := ∃ v, Boxed W G 22 v ∧ W.ownsRow n₀ 3 1 v pre.length (pre.map (Value.int .i64))
theorem got_own (n₀ G B : Nat) : OwnT B (fun pre W => Got n₀ G pre W) := by
  intro pre W W' row ⟨v, hv, hrow⟩ hg hr
  have key : ∀ (b : Nat) (cs : Array Value) (t : TypeId) (fr : Nat × Nat), t ≠ 98 → W.heap[b]? = some (.cells cs t fr) → W'.heap[b]? = some (.cells cs t fr) := by
    intro b cs t fr ht hb
    refine (hg.block b (Array.getElem?_eq_some_iff.1 hb).1 fun e => ?_).trans hb
    obtain ⟨_, o, ho, h⟩ := hr b e.symm
    rw [hb] at ho
    cases ho
    rcases h with h | ⟨cs', fr', h⟩
    · cases h
    · cases h; exact ht rfl
  refine ⟨v, key _ _ _ _ (by decide) hv, hrow.1, ?_⟩
  rcases hrow.2 with h | ⟨g, cap, cur, h1, h2, h3, h4⟩
  · exact .inl h
  · exact .inr ⟨g, cap, cur, h1, h2, key _ _ _ _ (by decide) h3, h4⟩
theorem below_own {β : Type} (n₀ B : Nat) (w₀ : World) (hn : n₀ ≤ w₀.heap.size) (hB : n₀ ≤ B) : OwnT B (fun (_ : β) W => Below n₀ w₀ W) :=
  fun _ _ _ _ hs hg hr => hs.grown hg (Nat.le_trans hn hs.size) (fun k e => Nat.le_trans hB (hr k e).1)
theorem OwnT.and {β : Type} {B : Nat} {I I' : β → World → Prop} (h : OwnT B I) (h' : OwnT B I') : OwnT B (fun s W => I s W ∧ I' s W) := fun s W W' row hs hg hr => ⟨h s W W' row hs.1 hg hr, h' s W W' row hs.2 hg hr⟩
/-- 'out = append(out, x)', whether or not the row grows: what stands behind the store -/
theorem out_grow {W w5 : World} {n₀ G k k' : Nat} {xs ys : List Value} {v v' : Value} {tmp : Obj} (hv : Boxed W G 22 v) (hrow : W.ownsRow n₀ 3 1 v k xs) (hn₀ : n₀ ≤ W.heap.size) (hG : n₀ ≤ G) (hown : w5.ownsRow n₀ 3 1 v' k' ys) (hgrow : (W.alloc tmp).grownBy w5 v.ownBlock) :
    Boxed w5 G 22 v ∧ Boxed (w5.setCell ⟨G, 0, none⟩ v') G 22 v' ∧ (w5.setCell ⟨G, 0, none⟩ v').ownsRow n₀ 3 1 v' k' ys ∧ KeepsOthers W (w5.setCell ⟨G, 0, none⟩ v') ∧ KeptT n₀ W (w5.setCell ⟨G, 0, none⟩ v') := by
  have hrt : ∀ j, v.ownBlock = some j → ∃ cur fr, (W.alloc tmp).heap[j]? = some (.cells cur 3 fr) := fun j e => by
    rcases (hrow.alloc tmp).2 with ⟨rfl, _⟩ | ⟨g, cap, cur, rfl, _, h, _⟩
    · cases e
    · cases e; exact ⟨cur, _, h⟩
  have hva : Boxed (W.alloc tmp) G 22 v := hv.alloc tmp
  have hne : ∀ j, v.ownBlock = some j → j ≠ G := fun j e h => by
    obtain ⟨cur, fr, h1⟩ := hrt j e
    rw [h] at h1
    have h2 : (W.alloc tmp).heap[G]? = some (.cells #[v] 22 (0, 0)) := hva
    rw [h2] at h1; cases h1
  have hv1 : Boxed w5 G 22 v := (hgrow.block G (lt_of_block hva) (fun e => hne G e.symm rfl)).trans hva
  have hne' : ∀ j, v'.ownBlock = some j → j ≠ G := fun j e h => by
    rcases hown.2 with ⟨rfl, _⟩ | ⟨g, cap, cur, rfl, _, h1, _⟩
    · cases e
    · cases e
      have h2 : w5.heap[G]? = some (.cells #[v] 22 (0, 0)) := hv1
      rw [← h, h1] at h2; cases h2
  have hb5 : Below n₀ W w5 := ((Below.refl n₀ W).alloc hn₀ tmp).grown hgrow (by simp; omega) fun j ej => (hrow.lt j ej).1
  have hkt : ∀ (b : Nat) (cs : Array Value) (t : TypeId) (fr : Nat × Nat), t ≠ 3 → t ≠ 22 → W.heap[b]? = some (.cells cs t fr) → (w5.setCell ⟨G, 0, none⟩ v').heap[b]? = some (.cells cs t fr) := fun b cs t fr h3 h22 hb => by
    have hbG : b ≠ G := fun e => by
      have h2 : W.heap[G]? = some (.cells #[v] 22 (0, 0)) := hv
      rw [e, h2] at hb; cases hb; exact h22 rfl
    have hba : (W.alloc tmp).heap[b]? = some (.cells cs t fr) := (Below.heap_alloc _ _ _ (lt_of_block hb)).trans hb
    rw [heap_setCell_other _ _ _ _ hbG, hgrow.block b (lt_of_block hba) (fun e => ?_)]
    · exact hba
    · obtain ⟨cur, fr', h1⟩ := hrt b e.symm
      rw [hba] at h1; cases h1; exact h3 rfl
  refine ⟨hv1, hv1.set v', hown.kept (grownBy_setCell' w5 G v') ?_, ?_, hb5.setCell (p := ⟨G, 0, none⟩) hG v', fun b cs fr hb => hkt b cs 98 fr (by decide) (by decide) hb, fun b cs fr hb => hkt b cs 43 fr (by decide) (by decide) hb⟩
  · rcases h : v'.ownBlock with _ | j
    · exact .inl rfl
    · exact .inr fun e => hne' j h (by cases e; rfl)
  · refine ((KeepsOthers.alloc W tmp).trans (KeepsOthers.of_grownBy hgrow fun j o ej hj => ?_)).trans (KeepsOthers.setCell _ _ _)
    obtain ⟨cur, fr, h1⟩ := hrt j ej
    rw [h1] at hj; cases hj; rfl
set_option maxRecDepth 100000 in
set_option maxHeartbeats 2000000 in
theorem alls_ok (seed : ByteArray) (ad : Option Addr) (sn sc : Nat) (l : List Int) (total : Int) (N : Nat) (lo hi : Int) (LV : Nd → List Int → Prop) (hR : Rule seed (.slice ad sn sc) l total N lo hi LV) (ys : List Int) (h0 : LV (0, N, total) ys) (hyl : ys.length ≤ 1000) (hs : seed.size ≤ 32) (hp : sn ≤ 6) (hN1 : N ≤ 1000) (hk : NodeOk lo hi N total) (w : World) (hN : Net seed (.slice ad sn sc) l w) :
    Calls Tryd.prog 48 #[.agg (spV seed (.slice ad sn sc) total N lo hi)] w fun e w' => ∃ v, e = .returned (.tuple #[v, .int .i64 0]) ∧ OwnI w.heap.size v ys w' ∧ Below w.heap.size w w' := by
  have HN := Lib.hid hN
  have HRU := Lib.hid hR
  have HL0 := Lib.hid h0
  have hvs := fun W => vs_ok seed ad sn sc total N lo hi hs hp hk W
  have HVS := Lib.hid hvs
  clear hN hR h0 hvs
  unfold spV at HVS ⊢
  refine (callsIn_wide (n := 3)).1 ?_
  refine callsIn_of_wp_marks Tryd.func48 rfl trivial ?_ rfl
  simp only [Tryd.ntmps48, List.size_toArray, List.length_cons, List.length_nil, Nat.reduceAdd, Nat.reduceSub, Array.replicate_succ, Array.replicate_zero, List.push_toArray, List.append_toArray, List.nil_append, List.cons_append]
  gi_wp2_with (first
    | (refine ⟨trivial, ?_⟩; gi_at_call 46; refine (callsIn_wide.2 (HVS.out _)).mono ?_; rintro e w1 ⟨rfl, hb1⟩; have hr1 : w1.heap[w.heap.size]? = some (.cells #[.string seed, .slice ad sn sc, .int .i64 total, .int .i64 N, .int .i64 lo, .int .i64 hi] 43 (0, 0)) := (hb1.block _ (by simp)).trans (heap_alloc_new w _); have c0 : w1.cell? ⟨w.heap.size, 0, none⟩ = some (.string seed) := cell_of_row _ _ _ _ _ _ hr1; have c1 : w1.cell? ⟨w.heap.size, 1, none⟩ = some (.slice ad sn sc) := cell_of_row _ _ _ _ _ _ hr1; have c2 : w1.cell? ⟨w.heap.size, 2, none⟩ = some (.int .i64 total) := cell_of_row _ _ _ _ _ _ hr1; have c3 : w1.cell? ⟨w.heap.size, 3, none⟩ = some (.int .i64 N) := cell_of_row _ _ _ _ _ _ hr1; have c4 : w1.cell? ⟨w.heap.size, 4, none⟩ = some (.int .i64 lo) := cell_of_row _ _ _ _ _ _ hr1; have c5 : w1.cell? ⟨w.heap.size, 5, none⟩ = some (.int .i64 hi) := cell_of_row _ _ _ _ _ _ hr1; have hlt1 := lt_of_block hr1; have HB1 := Lib.hid (show Below w.heap.size w w1 from ((Below.refl _ _).alloc (Nat.le_refl _) _).trans (hb1.mono (by simp))); clear hb1 hr1)
    | (refine ⟨trivial, ?_⟩; gi_at_call 83; refine (callsIn_wide.2 (leaves_in seed (.slice ad sn sc) total N lo hi 0 N total _)).mono ?_; rintro e w4 ⟨rfl, hw4⟩; have HW4 := Lib.hid hw4; clear hw4))
  have hsz := HB1.out.size
  have hb4 : Below w1.heap.size w1 w4 := by rw [HW4.out]; exact three_new w1 _ _ _ (Below.refl _ _)
  have hbx : Boxed w4 w1.heap.size 22 (.slice none 0 0) := by
    show w4.heap[w1.heap.size]? = _
    rw [HW4.out, Below.heap_alloc _ _ _ (by simp only [World.size_alloc]; omega), Below.heap_alloc _ _ _ (by simp only [World.size_alloc]; omega)]; exact heap_alloc_new _ _
  have hBw : w4.heap[w1.heap.size + 1]? = some (.cells (spV seed (.slice ad sn sc) total N lo hi) 43 (0, 0)) := by
    rw [HW4.out, Below.heap_alloc _ _ _ (by simp only [World.size_alloc]; omega)]; exact heap_alloc2_new _ _ _
  have hBn : w4.heap[w1.heap.size + 1 + 1]? = some (.cells (ndV (0 : Nat) N total) 98 (0, 0)) := by rw [HW4.out]; exact three_cell w1 _ _ _
  have hB4 : Below w.heap.size w w4 := HB1.out.trans (hb4.mono hsz)
  have hs4 : w1.heap.size + 3 ≤ w4.heap.size := by rw [HW4.out]; simp
  have hst := leaves_seq seed ad sn sc l total N lo hi LV HRU.out (0, N, total) ys HL0.out hN1 2 (by omega) (w1.heap.size + 1 + 1) (w1.heap.size + 1) w w4 HN.out hB4 hBn hBw
  have HBX := Lib.hid hbx
  have HB4 := Lib.hid hB4
  have HST := Lib.hid hst
  obtain ⟨i0, hi0, hz0, hz1, hz2⟩ := info_parts infoI
  clear hbx hBw hBn hB4 hst hb4 HW4 c0 c1 c2 c3 c4 c5
  refine range_all (n := 3) (by omega) (gf := 111) (lb := #[.pointer (some ⟨w1.heap.size + 1 + 1, 0, none⟩), .pointer (some ⟨w1.heap.size + 1, 0, none⟩)]) rfl (enters_of Tryd.func111 (by kernel_rfl) rfl) (n₀ := w.heap.size) HB4.out.size rfl HST.out
    (fun pre W => Got w.heap.size w1.heap.size pre W ∧ Below w.heap.size w W) ((got_own _ _ _).and (below_own _ _ _ (Nat.le_refl _) HB4.out.size)) ⟨⟨_, HBX.out, World.ownsRow_nil _ _ _ _⟩, HB4.out⟩
    (fun x => { tmps := #[.agg #[.string seed, .slice ad sn sc, .int .i64 total, .int .i64 N, .int .i64 lo, .int .i64 hi], .pointer (some ⟨w.heap.size, 0, none⟩), .slice none 0 0, .int .i64 0, .int .i64 0, .pointer (some ⟨w1.heap.size, 0, none⟩), .int .i64 x, .agg #[.string seed, .slice ad sn sc, .int .i64 total, .int .i64 N, .int .i64 lo, .int .i64 hi], .int .i64 0, .int .i64 0, .bool false, undef,
      .agg #[.string seed, .slice ad sn sc, .int .i64 total, .int .i64 N, .int .i64 lo, .int .i64 hi], .pointer (some ⟨w.heap.size, 3, none⟩), .int .i64 N, .pointer (some ⟨w.heap.size, 2, none⟩), .int .i64 total, .agg #[.int .i64 0, .int .i64 N, .int .i64 total], .func (.func 111) #[] #[.pointer (some ⟨w1.heap.size + 1 + 1, 0, none⟩), .pointer (some ⟨w1.heap.size + 1, 0, none⟩)], .int .i64 x, undef, undef, undef, undef, undef], defers := [] }) ?assign ?body ?done
  case assign =>
    intro l x W K hK
    gi_wp2
    exact hK
  case body =>
    rintro lp pre x W ⟨⟨v, hv, hrow⟩, hB⟩ hlt
    have hc := hv.cell
    have HV := Lib.hid hv
    have HR := Lib.hid hrow
    have HB := Lib.hid hB
    clear hv hrow hB
    gi_wp2_with (gi_at_builtin; refine wpListIn_append_own_at _ rfl _ _ 22 rfl w.heap.size 3 i0 _ 1 8 Tryd.underlying22 hi0 hz0 hz1 hz2 rfl (by decide) v pre.length (pre.map (Value.int .i64)) rfl (HR.out.alloc _) ⟨W.heap.size, 0, none⟩ 1 1 [.int .i64 x] rfl rfl (cell_one_new _ _ _) (by simp [Value.oneCell']) (by unfold maxLen; omega) (by omega) (Nat.le_trans HB.out.size (by simp)) ?_; intro v5 w5 hown5 hgrow5 _ _; obtain ⟨g5, cap5, rfl, _, _⟩ := hown5.form (Nat.succ_pos _); have hst5 := out_grow HV.out HR.out HB.out.size HB1.out.size hown5 hgrow5; have HST5 := Lib.hid hst5; have hc1 := hst5.1.cell; have hf1 := hst5.1.frozen; clear hst5 hown5 hgrow5)
    obtain ⟨_, hv2, hr2, hk2, hb2⟩ := HST5.out
    refine ⟨hk2, hb2, ⟨_, hv2, ?_⟩, HB.out.trans hb2.below⟩
    simpa using hr2
  case done =>
    rintro D W hD ⟨⟨v, hv, hrow⟩, hB⟩ hK
    have hc := hv.cell
    gi_wp2
    refine ⟨by simp, .inl ⟨_, _, rfl, run_takeDeferred hK, ?_⟩⟩
    refine ⟨_, results_tmp2 rfl _ _ _, v, rfl, ?_, hB.trans (belowK_b (w := w) (Nat.le_refl _) W D _ _ (Nat.le_trans HB4.out.size hD) hK rfl rfl)⟩
    exact ownsRow_putObj hrow (.deferred none) hK rfl
end Go.Proofs.YtfkpeabkcdhcfaaDoor
namespace Go.Proofs.YtfkpeabkcdhcfaaDoor
open Go.RowKit Go.Shelf
/-- the parts of a node -/
def partsOf (seed : ByteArray) (l : List Int) (lo hi : Int) (a n : Nat) (t : Int) : List Int :=
  if n = 0 then [] else if n = 1 then [t] else
    partsOf seed l lo hi a (n / 2) (leftOf seed l lo hi a n t) ++ partsOf seed l lo hi (a + n / 2) (n - n / 2) (t - leftOf seed l lo hi a n t)
termination_by n
decreasing_by all_goals omega
theorem partsOf_zero (seed : ByteArray) (l : List Int) (lo hi : Int) (a : Nat) (t : Int) : partsOf seed l lo hi a 0 t = [] := by rw [partsOf]; rfl
theorem partsOf_one (seed : ByteArray) (l : List Int) (lo hi : Int) (a : Nat) (t : Int) : partsOf seed l lo hi a 1 t = [t] := by rw [partsOf]; rfl
theorem partsOf_more (seed : ByteArray) (l : List Int) (lo hi : Int) (a n : Nat) (t : Int) (hn : 2 ≤ n) : partsOf seed l lo hi a n t =
    partsOf seed l lo hi a (n / 2) (leftOf seed l lo hi a n t) ++ partsOf seed l lo hi (a + n / 2) (n - n / 2) (t - leftOf seed l lo hi a n t) := by
  rw [partsOf, if_neg (by omega), if_neg (by omega)]
/-- induction over a node's halves -/
theorem node_ind {C : Nat → Nat → Int → Prop} (lf : Nat → Nat → Int → Int) (h0 : ∀ a t, C a 0 t) (h1 : ∀ a t, C a 1 t)
    (h2 : ∀ a n t, 2 ≤ n → C a (n / 2) (lf a n t) → C (a + n / 2) (n - n / 2) (t - lf a n t) → C a n t) : ∀ k a n t, n ≤ k → C a n t
  | 0, a, n, t, h => by obtain rfl : n = 0 := by omega
                        exact h0 a t
  | k + 1, a, n, t, h => by
    rcases (show n = 0 ∨ n = 1 ∨ 2 ≤ n by omega) with rfl | rfl | hn
    · exact h0 a t
    · exact h1 a t
    · exact h2 a n t hn (node_ind lf h0 h1 h2 k _ _ _ (by omega)) (node_ind lf h0 h1 h2 k _ _ _ (by omega))
theorem partsOf_len (seed : ByteArray) (l : List Int) (lo hi : Int) (a n : Nat) (t : Int) : (partsOf seed l lo hi a n t).length = n := by
  refine node_ind (C := fun a n t => (partsOf seed l lo hi a n t).length = n) (leftOf seed l lo hi) (fun a t => by rw [partsOf_zero]; rfl) (fun a t => by rw [partsOf_one]; rfl) (fun a n t hn i1 i2 => ?_) n a n t (Nat.le_refl _)
  rw [partsOf_more _ _ _ _ _ _ _ hn, List.length_append, i1, i2]; omega
/-- nodes whose draws are all accepted at last -/
structure Drawn (seed : ByteArray) (l : List Int) (lo hi : Int) (S : Nat → Nat → Int → Prop) : Prop where
  ok : ∀ a n t, S a n t → NodeOk lo hi n t ∧ a ≤ 65536
  left : ∀ a n t, S a n t → 2 ≤ n → S a (n / 2) (leftOf seed l lo hi a n t)
  right : ∀ a n t, S a n t → 2 ≤ n → S (a + n / 2) (n - n / 2) (t - leftOf seed l lo hi a n t)
  acc : ∀ a n t, S a n t → 2 ≤ n → Acc seed (l ++ [(a : Int), (n : Int)]) (rangeOf lo hi n t)
/-- a node and its parts -/
def LVd (seed : ByteArray) (l : List Int) (lo hi : Int) (S : Nat → Nat → Int → Prop) (x : Nd) (ys : List Int) : Prop := S x.1 x.2.1 x.2.2 ∧ ys = partsOf seed l lo hi x.1 x.2.1 x.2.2
theorem rule_drawn {seed : ByteArray} {ad : Option Addr} {sn sc : Nat} {l : List Int} {lo hi : Int} {S : Nat → Nat → Int → Prop} (hD : Drawn seed l lo hi S) (total N : Int) (hs : seed.size ≤ 32) (hp : sn ≤ 6) (hsn : sn = l.length) :
    Rule seed (.slice ad sn sc) l total N lo hi (LVd seed l lo hi S) := by
  refine ⟨?_, ?_, ?_⟩
  · rintro ⟨a, n, t⟩ ys ⟨h1, h2⟩ hn
    dsimp only at h1 h2 hn ⊢
    refine ⟨(a, n / 2, leftOf seed l lo hi a n t), (a + n / 2, n - n / 2, t - leftOf seed l lo hi a n t), _, _, ⟨hD.left a n t h1 hn, rfl⟩, ⟨hD.right a n t h1 hn, rfl⟩, ?_, by dsimp only; omega, by dsimp only; omega, by dsimp only; omega, ?_⟩
    · rw [h2, partsOf_more _ _ _ _ _ _ _ hn]
    · intro w hw
      exact halves_ok seed ad sn sc l total N lo hi a n t (hD.ok a n t h1).1 hn (hD.ok a n t h1).2 (hD.acc a n t h1 hn) hs hp w hw hsn
  · rintro ⟨a, n, t⟩ ys ⟨h1, h2⟩ hn
    dsimp only at h1 h2 hn ⊢
    subst hn
    rw [h2, partsOf_one]
  · rintro ⟨a, n, t⟩ ys ⟨h1, h2⟩ hn
    dsimp only at h1 h2 hn ⊢
    subst hn
    rw [h2, partsOf_zero]
/-- All -/
theorem alls_any {seed : ByteArray} {ad : Option Addr} {sn sc : Nat} {l : List Int} {lo hi : Int} {S : Nat → Nat → Int → Prop} (hD : Drawn seed l lo hi S) (total : Int) (N : Nat) (hS : S 0 N total) (hN1 : N ≤ 1000) (hs : seed.size ≤ 32) (hp : sn ≤ 6) (hsn : sn = l.length) (w : World) (hN : Net seed (.slice ad sn sc) l w) :
    Calls Tryd.prog 48 #[.agg (spV seed (.slice ad sn sc) total N lo hi)] w fun e w' => ∃ v, e = .returned (.tuple #[v, .int .i64 0]) ∧ OwnI w.heap.size v (partsOf seed l lo hi 0 N total) w' ∧ Below w.heap.size w w' :=
  alls_ok seed ad sn sc l total N lo hi _ (rule_drawn hD total N hs hp hsn) _ ⟨hS, rfl⟩ (by rw [partsOf_len]; exact hN1) hs hp hN1 (hD.ok 0 N total hS).1 w hN
/-- the left total where all parts are equal -/
theorem leftOf_eq (seed : ByteArray) (l : List Int) (lo hi V : Int) (a n : Nat) (hV : (V = lo ∨ V = hi) ∧ lo ≤ hi) : leftOf seed l lo hi a n (n * V) = (n / 2 : Nat) * V ∧ rangeOf lo hi n (n * V) = 1 := by
  obtain ⟨hV, hlh⟩ := hV
  have e1 : (n : Int) * V = (n / 2 : Nat) * V + (n - n / 2 : Nat) * V := by rw [← Int.add_mul]; congr 1; omega
  have e3 : ((n / 2 : Nat) : Int) * lo ≤ (n / 2 : Nat) * hi := Int.mul_le_mul_of_nonneg_left hlh (by omega)
  have e4 : ((n - n / 2 : Nat) : Int) * lo ≤ (n - n / 2 : Nat) * hi := Int.mul_le_mul_of_nonneg_left hlh (by omega)
  have hmax : max (((n / 2 : Nat) : Int) * lo) (n * V - ((n - n / 2 : Nat) : Int) * hi) = (n / 2 : Nat) * V := by
    rcases hV with rfl | rfl <;> omega
  have hmin : min (((n / 2 : Nat) : Int) * hi) (n * V - ((n - n / 2 : Nat) : Int) * lo) = (n / 2 : Nat) * V := by
    rcases hV with rfl | rfl <;> omega
  unfold leftOf rangeOf
  rw [hmax, hmin, btwOf_eq]
  exact ⟨rfl, by omega⟩
/-- the nodes whose parts are all equal -/
def Equal (lo hi V : Int) (a n : Nat) (t : Int) : Prop := (a + n ≤ 65536 ∧ -1048576 ≤ lo ∧ hi ≤ 1048576) ∧ t = n * V
theorem drawn_eq (seed : ByteArray) (l : List Int) (lo hi V : Int) (hV : (V = lo ∨ V = hi) ∧ lo ≤ hi) : Drawn seed l lo hi (Equal lo hi V) := by
  have hlv : lo ≤ V ∧ V ≤ hi := by
    obtain ⟨h1, h2⟩ := hV
    rcases h1 with rfl | rfl <;> omega
  refine ⟨?_, ?_, ?_, ?_⟩
  · rintro a n t ⟨⟨h1, h2, h3⟩, rfl⟩
    exact ⟨⟨by omega, h2, h3, hV.2, Int.mul_le_mul_of_nonneg_left hlv.1 (by omega), Int.mul_le_mul_of_nonneg_left hlv.2 (by omega)⟩, by omega⟩
  · rintro a n t ⟨⟨h1, h2, h3⟩, rfl⟩ hn
    exact ⟨⟨by omega, h2, h3⟩, (leftOf_eq seed l lo hi V a n hV).1⟩
  · rintro a n t ⟨⟨h1, h2, h3⟩, rfl⟩ hn
    refine ⟨⟨by omega, h2, h3⟩, ?_⟩
    rw [(leftOf_eq seed l lo hi V a n hV).1, ← Int.sub_mul]; congr 1; omega
  · rintro a n t ⟨_, rfl⟩ hn
    rw [(leftOf_eq seed l lo hi V a n hV).2]
    exact acc_one _ _
theorem partsOf_eq (seed : ByteArray) (l : List Int) (lo hi V : Int) (hV : (V = lo ∨ V = hi) ∧ lo ≤ hi) (a n : Nat) : partsOf seed l lo hi a n (n * V) = List.replicate n V := by
  have key := node_ind (C := fun a n t => t = n * V → partsOf seed l lo hi a n t = List.replicate n V) (leftOf seed l lo hi)
    (fun a t _ => by rw [partsOf_zero]; rfl) (fun a t h => by rw [partsOf_one, h]; simp) (fun a n t hn i1 i2 h => ?_) n a n (n * V) (Nat.le_refl _)
  · exact key rfl
  · subst h
    have e := (leftOf_eq seed l lo hi V a n hV).1
    rw [partsOf_more _ _ _ _ _ _ _ hn, i1 e, i2 (by rw [e, ← Int.sub_mul]; congr 1; omega), List.replicate_append_replicate]
    congr 1; omega
end Go.Proofs.YtfkpeabkcdhcfaaDoor
namespace Go.Proofs.YtfkpeabkcdhcfaaDoor
open Go.RowKit
set_option maxRecDepth 100000
/-- the way down from a node: its part's number, that part, the sum of those before it -/
def downOf (seed : ByteArray) (l : List Int) (lo hi : Int) (f : Nat → Int → Int → Bool) (a n : Nat) (t before : Int) : Nat × Nat × Int × Int :=
  if n ≤ 1 then (a, n, t, before) else
    if f (a + n / 2) (leftOf seed l lo hi a n t) before then downOf seed l lo hi f a (n / 2) (leftOf seed l lo hi a n t) before
    else downOf seed l lo hi f (a + n / 2) (n - n / 2) (t - leftOf seed l lo hi a n t) (before + leftOf seed l lo hi a n t)
termination_by n
decreasing_by all_goals omega
theorem downOf_end (seed : ByteArray) (l : List Int) (lo hi : Int) (f : Nat → Int → Int → Bool) (a n : Nat) (t before : Int) (h : n ≤ 1) : downOf seed l lo hi f a n t before = (a, n, t, before) := by rw [downOf, if_pos h]
theorem downOf_left (seed : ByteArray) (l : List Int) (lo hi : Int) (f : Nat → Int → Int → Bool) (a n : Nat) (t before : Int) (h : 2 ≤ n) (hf : f (a + n / 2) (leftOf seed l lo hi a n t) before = true) :
    downOf seed l lo hi f a n t before = downOf seed l lo hi f a (n / 2) (leftOf seed l lo hi a n t) before := by rw [downOf, if_neg (by omega), if_pos hf]
theorem downOf_right (seed : ByteArray) (l : List Int) (lo hi : Int) (f : Nat → Int → Int → Bool) (a n : Nat) (t before : Int) (h : 2 ≤ n) (hf : f (a + n / 2) (leftOf seed l lo hi a n t) before = false) :
    downOf seed l lo hi f a n t before = downOf seed l lo hi f (a + n / 2) (n - n / 2) (t - leftOf seed l lo hi a n t) (before + leftOf seed l lo hi a n t) := by rw [downOf, if_neg (by omega), if_neg (by rw [hf]; exact Bool.false_ne_true)]
theorem results_row_tmp {fn : Func} {p u : Tmp} {ty : TypeId} (h : fn.results = #[.cell p ty, .tmp u]) (tmps : Array Value) (w : World) (g : Nat) (cs : Array Value) (v : Value)
    (hp : tmps.getD p undef = .pointer (some ⟨g, 0, none⟩)) (hv : tmps.getD u undef = v) (h1 : (loadVar ty ⟨g, 0, none⟩).run Tryd.prog w = .ok (.agg cs) w) : (results fn tmps).run Tryd.prog w = .ok (.tuple #[.agg cs, v]) w := by
  have hp' : tmps[p]?.getD undef = .pointer (some ⟨g, 0, none⟩) := by simpa using hp
  have hv' : tmps[u]?.getD undef = v := by simpa using hv
  simp [results, h, hp', hv', asAddr, h1]
/-- the number of parts of the node in a row -/
def rowN (w : World) (B : Nat) : Nat := match w.heap[B]? with
  | some (.cells cs _ _) => (intOf (cs.getD 1 undef)).toNat
  | _ => 0
theorem rowN_at {w : World} {B : Nat} {a t : Int} {n : Nat} (h : w.heap[B]? = some (.cells #[.int .i64 a, .int .i64 n, .int .i64 t] 98 (0, 0))) : rowN w B = n := by
  unfold rowN; rw [h]; simp [intOf]
/-- what a choice's closure answers -/
def Choice (fc : FuncId) (B : Nat) (f : Nat → Int → Int → Bool) (w : World) : Prop := ∀ (la ln ra rn : Nat) (lt rt before : Int) (W : World), Below w.heap.size w W → -1099511627776 ≤ before + lt → before + lt ≤ 1099511627776 →
  Calls Tryd.prog fc #[.agg (ndV la ln lt), .agg (ndV ra rn rt), .int .i64 before, .pointer (some ⟨B, 0, none⟩)] W fun e w' => e = .returned (.bool (f ra lt before)) ∧ Below W.heap.size W w'
set_option maxHeartbeats 2000000 in
theorem down_to (seed : ByteArray) (ad : Option Addr) (sn sc : Nat) (l : List Int) (lo hi : Int) (S : Nat → Nat → Int → Prop) (hD : Drawn seed l lo hi S) (total : Int) (N : Nat) (hS : S 0 N total) (f : Nat → Int → Int → Bool) (hs : seed.size ≤ 32) (hp : sn ≤ 6) (hsn : sn = l.length) (B : Nat) (w : World) (hN : Net seed (.slice ad sn sc) l w) (hC : Choice 107 B f w) :
    Calls Tryd.prog 86 #[.agg (spV seed (.slice ad sn sc) total N lo hi), .func (.func 107) #[] #[.pointer (some ⟨B, 0, none⟩)]] w fun e w' =>
      (∃ (a n : Nat) (t b : Int), downOf seed l lo hi f 0 N total 0 = (a, n, t, b) ∧ e = .returned (.tuple #[.agg (ndV a n t), .int .i64 b])) ∧ Below w.heap.size w w' := by
  have HN := Lib.hid hN
  have HC := Lib.hid hC
  have HDD := Lib.hid hD
  have HS := Lib.hid hS
  have HSN := Lib.hid hsn
  have HSS := Lib.hid hs
  clear hN hC hD hS hs hsn
  unfold spV ndV at *
  go_enter Tryd.func86, Tryd.ntmps86
  go_wp2
  go_loopw [7] (fun c wr => ∃ (a n : Nat) (t b : Int), c = .int .i64 b ∧ (S a n t ∧ downOf seed l lo hi f a n t b = downOf seed l lo hi f 0 N total 0 ∧ (a : Int) * lo ≤ b ∧ b ≤ a * hi) ∧ wr.heap[w.heap.size + 1 + 1]? = some (.cells #[.int .i64 a, .int .i64 n, .int .i64 t] 98 (0, 0)) ∧
    wr.heap[w.heap.size]? = some (.cells #[.string seed, .slice ad sn sc, .int .i64 total, .int .i64 N, .int .i64 lo, .int .i64 hi] 43 (0, 0)) ∧ wr.heap[w.heap.size + 1]? = some (.cells #[.int .i64 0, .int .i64 0, .int .i64 0] 98 (0, 0)) ∧ Below w.heap.size w wr) (fun _ wr => rowN wr (w.heap.size + 1 + 1))
  case atStart =>
    refine ⟨0, N, total, 0, rfl, ⟨HS.out, rfl, by simp, by simp⟩, three_cell w _ _ _, ?_, ?_, three_new w _ _ _ (Below.refl _ _)⟩
    · rw [Below.heap_alloc _ _ _ (by simp only [World.size_alloc]; omega)]; exact heap_alloc2_old _ _ _
    · rw [Below.heap_alloc _ _ _ (by simp only [World.size_alloc]; omega)]; exact heap_alloc2_new _ _ _
  case round =>
    obtain ⟨a, n, t, b, rfl, hst, hx, hsp, hr, hb⟩ := hrel
    have x0 : wr.cell? ⟨w.heap.size + 1 + 1, 0, none⟩ = some (.int .i64 a) := cell_of_row _ _ _ _ _ _ hx
    have x1 : wr.cell? ⟨w.heap.size + 1 + 1, 1, none⟩ = some (.int .i64 n) := cell_of_row _ _ _ _ _ _ hx
    have x2 : wr.cell? ⟨w.heap.size + 1 + 1, 2, none⟩ = some (.int .i64 t) := cell_of_row _ _ _ _ _ _ hx
    have HX := Lib.hid hx
    have HSP := Lib.hid hsp
    have HR := Lib.hid hr
    have HB := Lib.hid hb
    have HST := Lib.hid hst
    clear hx hsp hr hb hst
    by_cases hn : 2 ≤ n
    · have s0 : wr.cell? ⟨w.heap.size, 0, none⟩ = some (.string seed) := cell_of_row _ _ _ _ _ _ HSP.out
      have s1 : wr.cell? ⟨w.heap.size, 1, none⟩ = some (.slice ad sn sc) := cell_of_row _ _ _ _ _ _ HSP.out
      have s2 : wr.cell? ⟨w.heap.size, 2, none⟩ = some (.int .i64 total) := cell_of_row _ _ _ _ _ _ HSP.out
      have s3 : wr.cell? ⟨w.heap.size, 3, none⟩ = some (.int .i64 N) := cell_of_row _ _ _ _ _ _ HSP.out
      have s4 : wr.cell? ⟨w.heap.size, 4, none⟩ = some (.int .i64 lo) := cell_of_row _ _ _ _ _ _ HSP.out
      have s5 : wr.cell? ⟨w.heap.size, 5, none⟩ = some (.int .i64 hi) := cell_of_row _ _ _ _ _ _ HSP.out
      have hn' : 1 < (n : Int) := by omega
      have hS := HST.out.1
      have hok := HDD.out.ok a n t hS
      have hcl := halves_ok seed ad sn sc l total N lo hi a n t hok.1 hn hok.2 (HDD.out.acc a n t hS hn) HSS.out hp wr (HN.out.later HB.out) HSN.out
      obtain ⟨L, hL⟩ : ∃ L, L = leftOf seed l lo hi a n t := ⟨_, rfl⟩
      rw [← hL] at hcl
      obtain ⟨h, hh⟩ : ∃ h, h = n / 2 := ⟨_, rfl⟩
      obtain ⟨q, hq⟩ : ∃ q, q = a + h := ⟨_, rfl⟩
      obtain ⟨r, hr⟩ : ∃ r, r = n - h := ⟨_, rfl⟩
      rw [← hh, ← hq, ← hr] at hcl
      unfold spV ndV at hcl
      have HL := Lib.hid hL
      have HCL := Lib.hid hcl
      have HOK := Lib.hid hok
      have HQ := Lib.hid (And.intro hh (And.intro hq hr))
      have hbd : -1099511627776 ≤ b + L ∧ b + L ≤ 1099511627776 ∧ (q : Int) * lo ≤ b + L ∧ b + L ≤ q * hi := by
        obtain ⟨h1, h2⟩ := hok
        have hlf := (h1.left (seed := seed) (l := l) (a := a)).1
        have har := (HDD.out.ok _ _ _ (HDD.out.right a n t hS hn)).2
        have e1 := HST.out.2.2
        have e2 := mul_bound (a + n / 2) har lo h1.lo1 (by have := h1.lh; have := h1.hi1; omega)
        have e3 := mul_bound (a + n / 2) har hi (by have := h1.lh; have := h1.lo1; omega) h1.hi1
        have e4 : ((a + n / 2 : Nat) : Int) * lo = a * lo + (n / 2 : Nat) * lo := by rw [Int.natCast_add, Int.add_mul]
        have e5 : ((a + n / 2 : Nat) : Int) * hi = a * hi + (n / 2 : Nat) * hi := by rw [Int.natCast_add, Int.add_mul]
        have e6 := hlf.t1
        have e7 := hlf.t2
        rw [← hL] at e6 e7
        rw [hq, hh]
        omega
      have HBD := Lib.hid hbd
      clear hS hok hcl hL hh hq hr hbd
      cases hfb : f q L b with
      | true =>
        go_wp2_with (first
          | (go_at_call 112; (with_reducible refine HCL.out.mono ?_); rintro e w5 ⟨rfl, hb5⟩
             have HX5 := Lib.hid ((hb5.block _ (lt_of_block HX.out)).trans HX.out)
             have HR5 := Lib.hid ((hb5.block _ (lt_of_block HR.out)).trans HR.out)
             have HSP5 := Lib.hid ((hb5.block _ (lt_of_block HSP.out)).trans HSP.out)
             have HB5 := Lib.hid (HB.out.trans (hb5.mono HB.out.size))
             clear hb5)
          | (go_at_call 107
             have hcc := HC.out a h q r L (t - L) b _ ((HB5.out.alloc HB5.out.size (.cells #[.int .i64 a, .int .i64 h, .int .i64 L] 98)).alloc (Nat.le_trans HB5.out.size (by simp)) (.cells #[.int .i64 q, .int .i64 r, .int .i64 (t - L)] 98)) HBD.out.1 HBD.out.2.1
             rw [hfb] at hcc
             refine hcc.mono ?_
             clear hcc
             rintro e w6 ⟨rfl, hb6⟩
             have HB6 := Lib.hid (show Below w5.heap.size w5 w6 from (((Below.refl _ _).alloc (Nat.le_refl _) _).alloc (by simp) _).trans (hb6.mono (by simp only [World.size_alloc]; omega)))
             have HL6 := Lib.hid (show w6.heap[w5.heap.size]? = some (.cells #[.int .i64 a, .int .i64 h, .int .i64 L] 98 (0, 0)) from (hb6.block _ (by simp only [World.size_alloc]; omega)).trans (heap_alloc2_old _ _ _))
             have HRR6 := Lib.hid (show w6.heap[w5.heap.size + 1]? = some (.cells #[.int .i64 q, .int .i64 r, .int .i64 (t - L)] 98 (0, 0)) from (hb6.block _ (by simp only [World.size_alloc]; omega)).trans (heap_alloc2_new _ _ _))
             have HX6 := Lib.hid ((HB6.out.block _ (lt_of_block HX5.out)).trans HX5.out)
             have HR6 := Lib.hid ((HB6.out.block _ (lt_of_block HR5.out)).trans HR5.out)
             have HSP6 := Lib.hid ((HB6.out.block _ (lt_of_block HSP5.out)).trans HSP5.out)
             clear hb6
             have l0 : w6.cell? ⟨w5.heap.size, 0, none⟩ = some (.int .i64 a) := cell_of_row _ _ _ _ _ _ HL6.out
             have l1 : w6.cell? ⟨w5.heap.size, 1, none⟩ = some (.int .i64 h) := cell_of_row _ _ _ _ _ _ HL6.out
             have l2 : w6.cell? ⟨w5.heap.size, 2, none⟩ = some (.int .i64 L) := cell_of_row _ _ _ _ _ _ HL6.out
             have r0 : w6.cell? ⟨w5.heap.size + 1, 0, none⟩ = some (.int .i64 q) := cell_of_row _ _ _ _ _ _ HRR6.out
             have r1 : w6.cell? ⟨w5.heap.size + 1, 1, none⟩ = some (.int .i64 r) := cell_of_row _ _ _ _ _ _ HRR6.out
             have r2 : w6.cell? ⟨w5.heap.size + 1, 2, none⟩ = some (.int .i64 (t - L)) := cell_of_row _ _ _ _ _ _ HRR6.out)
          | ((with_reducible show wpList _ _ _ ((⟨_, Op.store 98 (.tmp 6) (.tmp 29), _, _, _, _⟩ : Oper) :: _) _ _); refine wpList_store_row rfl 98 (.tmp 6) (.tmp 29) rfl (w.heap.size + 1 + 1) #[.int .i64 a, .int .i64 h, .int .i64 L] rfl rfl 98 _ HX6.out info98 rfl (by simp [Value.oneCell']) ?_))
        go_roundw
        case rel =>
          refine ⟨_, _, _, _, _, _, _, _, _, _, _, _, _, _, _, _, _, _, _, _, _, _, _, ⟨a, h, L, b, rfl, ⟨?_, ?_, HST.out.2.2⟩, setRow_heap _ _ _ _ _ _ HX6.out, ?_, ?_, ?_⟩, rfl⟩
          · rw [HL.out, HQ.out.1]; exact HDD.out.left a n t HST.out.1 hn
          · rw [← HST.out.2.1, downOf_left _ _ _ _ _ _ _ _ _ hn (by rw [← HL.out, ← HQ.out.1, ← HQ.out.2.1]; exact hfb), ← HL.out, ← HQ.out.1]
          · exact (setRow_other _ _ _ _ (by omega)).trans HSP6.out
          · exact (setRow_other _ _ _ _ (by omega)).trans HR6.out
          · exact below_setRow (HB5.out.trans (HB6.out.mono HB5.out.size)) (by omega) _
        case measure =>
          rw [rowN_at HX.out, rowN_at (setRow_heap _ _ _ _ _ _ HX6.out)]
          have := HQ.out.1; omega
      | false =>
        go_wp2_with (first
          | (go_at_call 112; (with_reducible refine HCL.out.mono ?_); rintro e w5 ⟨rfl, hb5⟩
             have HX5 := Lib.hid ((hb5.block _ (lt_of_block HX.out)).trans HX.out)
             have HR5 := Lib.hid ((hb5.block _ (lt_of_block HR.out)).trans HR.out)
             have HSP5 := Lib.hid ((hb5.block _ (lt_of_block HSP.out)).trans HSP.out)
             have HB5 := Lib.hid (HB.out.trans (hb5.mono HB.out.size))
             clear hb5)
          | (go_at_call 107
             have hcc := HC.out a h q r L (t - L) b _ ((HB5.out.alloc HB5.out.size (.cells #[.int .i64 a, .int .i64 h, .int .i64 L] 98)).alloc (Nat.le_trans HB5.out.size (by simp)) (.cells #[.int .i64 q, .int .i64 r, .int .i64 (t - L)] 98)) HBD.out.1 HBD.out.2.1
             rw [hfb] at hcc
             refine hcc.mono ?_
             clear hcc
             rintro e w6 ⟨rfl, hb6⟩
             have HB6 := Lib.hid (show Below w5.heap.size w5 w6 from (((Below.refl _ _).alloc (Nat.le_refl _) _).alloc (by simp) _).trans (hb6.mono (by simp only [World.size_alloc]; omega)))
             have HL6 := Lib.hid (show w6.heap[w5.heap.size]? = some (.cells #[.int .i64 a, .int .i64 h, .int .i64 L] 98 (0, 0)) from (hb6.block _ (by simp only [World.size_alloc]; omega)).trans (heap_alloc2_old _ _ _))
             have HRR6 := Lib.hid (show w6.heap[w5.heap.size + 1]? = some (.cells #[.int .i64 q, .int .i64 r, .int .i64 (t - L)] 98 (0, 0)) from (hb6.block _ (by simp only [World.size_alloc]; omega)).trans (heap_alloc2_new _ _ _))
             have HX6 := Lib.hid ((HB6.out.block _ (lt_of_block HX5.out)).trans HX5.out)
             have HR6 := Lib.hid ((HB6.out.block _ (lt_of_block HR5.out)).trans HR5.out)
             have HSP6 := Lib.hid ((HB6.out.block _ (lt_of_block HSP5.out)).trans HSP5.out)
             clear hb6
             have l0 : w6.cell? ⟨w5.heap.size, 0, none⟩ = some (.int .i64 a) := cell_of_row _ _ _ _ _ _ HL6.out
             have l1 : w6.cell? ⟨w5.heap.size, 1, none⟩ = some (.int .i64 h) := cell_of_row _ _ _ _ _ _ HL6.out
             have l2 : w6.cell? ⟨w5.heap.size, 2, none⟩ = some (.int .i64 L) := cell_of_row _ _ _ _ _ _ HL6.out
             have r0 : w6.cell? ⟨w5.heap.size + 1, 0, none⟩ = some (.int .i64 q) := cell_of_row _ _ _ _ _ _ HRR6.out
             have r1 : w6.cell? ⟨w5.heap.size + 1, 1, none⟩ = some (.int .i64 r) := cell_of_row _ _ _ _ _ _ HRR6.out
             have r2 : w6.cell? ⟨w5.heap.size + 1, 2, none⟩ = some (.int .i64 (t - L)) := cell_of_row _ _ _ _ _ _ HRR6.out))
        have x60 : w6.cell? ⟨w.heap.size + 1 + 1, 0, none⟩ = some (.int .i64 a) := cell_of_row _ _ _ _ _ _ HX6.out
        have x61 : w6.cell? ⟨w.heap.size + 1 + 1, 1, none⟩ = some (.int .i64 n) := cell_of_row _ _ _ _ _ _ HX6.out
        have x62 : w6.cell? ⟨w.heap.size + 1 + 1, 2, none⟩ = some (.int .i64 t) := cell_of_row _ _ _ _ _ _ HX6.out
        have xf0 : w6.frozen? ⟨w.heap.size + 1 + 1, 0, none⟩ = false := frozen_of_row _ _ _ _ _ HX6.out
        have xf1 : w6.frozen? ⟨w.heap.size + 1 + 1, 1, none⟩ = false := frozen_of_row _ _ _ _ _ HX6.out
        have xf2 : w6.frozen? ⟨w.heap.size + 1 + 1, 2, none⟩ = false := frozen_of_row _ _ _ _ _ HX6.out
        have hw1 : IntKind.i64.wrap (b + L) = b + L := by have := HBD.out; simp only [IntKind.wrap_i64]; omega
        have hne : w.heap.size + 1 + 1 ≠ w5.heap.size := by have := lt_of_block HX5.out; omega
        have hne1 : w.heap.size + 1 + 1 ≠ w5.heap.size + 1 := by have := lt_of_block HX5.out; omega
        clear x0 x1 x2 s0 s1 s2 s3 s4 s5
        go_region_held3 (fun w' => w'.cell? ⟨w5.heap.size, 2, none⟩ = some (.int .i64 L) ∧ w'.cell? ⟨w5.heap.size + 1, 0, none⟩ = some (.int .i64 q) ∧ w'.cell? ⟨w5.heap.size + 1, 1, none⟩ = some (.int .i64 r) ∧ w'.cell? ⟨w5.heap.size + 1, 2, none⟩ = some (.int .i64 (t - L)))
          (first
            | (refine ⟨?_, ?_, ?_, ?_⟩ <;> ((try rw [World.cell?_drew]); (repeat rw [World.cell?_setCell_far _ _ _ _ (by dsimp only; omega)]); assumption))
            | go_keep) (fail)
        have k1 := set3 w6 (w.heap.size + 1 + 1) _ _ _ (.int .i64 (q : Int)) (.int .i64 (r : Int)) (.int .i64 (t - L)) 98 HX6.out
        have HK1 := Lib.hid k1
        clear k1
        go_roundw
        case rel =>
          refine ⟨_, _, _, _, _, _, _, _, _, _, _, _, _, _, _, _, _, _, _, _, _, _, _, ⟨q, r, t - L, b + L, rfl, ⟨?_, ?_, HBD.out.2.2⟩, HK1.out, ?_, ?_, ?_⟩, rfl⟩
          · rw [HL.out, HQ.out.2.2, HQ.out.2.1, HQ.out.1]; exact HDD.out.right a n t HST.out.1 hn
          · rw [← HST.out.2.1, downOf_right _ _ _ _ _ _ _ _ _ hn (by rw [← HL.out, ← HQ.out.1, ← HQ.out.2.1]; exact hfb), ← HL.out, ← HQ.out.1, ← HQ.out.2.1, ← HQ.out.2.2]
          · exact ((Below.heap_setCell _ _ _ _ (by dsimp only; omega)).trans ((Below.heap_setCell _ _ _ _ (by dsimp only; omega)).trans (Below.heap_setCell _ _ _ _ (by dsimp only; omega)))).trans HSP6.out
          · exact ((Below.heap_setCell _ _ _ _ (by dsimp only; omega)).trans ((Below.heap_setCell _ _ _ _ (by dsimp only; omega)).trans (Below.heap_setCell _ _ _ _ (by dsimp only; omega)))).trans HR6.out
          · exact ((((HB5.out.trans (HB6.out.mono HB5.out.size)).setCell (by dsimp only; omega) _).setCell (by dsimp only; omega) _).setCell (by dsimp only; omega) _).drew
        case measure =>
          rw [rowN_at HX.out]
          refine Nat.lt_of_le_of_lt (Nat.le_of_eq (rowN_at (w := World.drew _) (a := q) (t := t - L) (n := r) HK1.out)) ?_
          have := HQ.out; omega
    · have hn' : ¬ (1 < (n : Int)) := by omega
      go_wp2_with ((with_reducible show wpList _ _ _ ((⟨_, Op.store 98 _ _, _, _, _, _⟩ : Oper) :: _) _ _); refine wpList_store_row rfl 98 (.tmp 4) (.tmp 35) rfl (w.heap.size + 1) #[.int .i64 a, .int .i64 n, .int .i64 t] rfl rfl 98 _ HR.out info98 rfl (by simp [Value.oneCell']) ?_)
      refine bodyPost_ret (v := .tuple #[.agg #[.int .i64 a, .int .i64 n, .int .i64 t], .int .i64 b]) (results_row_tmp rfl _ _ (w.heap.size + 1) _ _ rfl rfl (run_loadVar_row _ _ 98 98 _ (0, 0) _ (setRow_heap _ _ _ _ _ _ HR.out) Tryd.underlying98 rfl info98)) rfl ⟨⟨a, n, t, b, ?_, rfl⟩, below_setRow HB.out (by omega) _⟩
      rw [← HST.out.2.1, downOf_end _ _ _ _ _ _ _ _ _ (by omega)]
set_option maxHeartbeats 2000000 in
theorem down_find (seed : ByteArray) (ad : Option Addr) (sn sc : Nat) (l : List Int) (lo hi : Int) (S : Nat → Nat → Int → Prop) (hD : Drawn seed l lo hi S) (total : Int) (N : Nat) (hS : S 0 N total) (f : Nat → Int → Int → Bool) (hs : seed.size ≤ 32) (hp : sn ≤ 6) (hsn : sn = l.length) (B : Nat) (w : World) (hN : Net seed (.slice ad sn sc) l w) (hC : Choice 87 B f w) :
    Calls Tryd.prog 86 #[.agg (spV seed (.slice ad sn sc) total N lo hi), .func (.func 87) #[] #[.pointer (some ⟨B, 0, none⟩)]] w fun e w' =>
      (∃ (a n : Nat) (t b : Int), downOf seed l lo hi f 0 N total 0 = (a, n, t, b) ∧ e = .returned (.tuple #[.agg (ndV a n t), .int .i64 b])) ∧ Below w.heap.size w w' := by
  have HN := Lib.hid hN
  have HC := Lib.hid hC
  have HDD := Lib.hid hD
  have HS := Lib.hid hS
  have HSN := Lib.hid hsn
  have HSS := Lib.hid hs
  clear hN hC hD hS hs hsn
  unfold spV ndV at *
  go_enter Tryd.func86, Tryd.ntmps86
  go_wp2
  go_loopw [7] (fun c wr => ∃ (a n : Nat) (t b : Int), c = .int .i64 b ∧ (S a n t ∧ downOf seed l lo hi f a n t b = downOf seed l lo hi f 0 N total 0 ∧ (a : Int) * lo ≤ b ∧ b ≤ a * hi) ∧ wr.heap[w.heap.size + 1 + 1]? = some (.cells #[.int .i64 a, .int .i64 n, .int .i64 t] 98 (0, 0)) ∧
    wr.heap[w.heap.size]? = some (.cells #[.string seed, .slice ad sn sc, .int .i64 total, .int .i64 N, .int .i64 lo, .int .i64 hi] 43 (0, 0)) ∧ wr.heap[w.heap.size + 1]? = some (.cells #[.int .i64 0, .int .i64 0, .int .i64 0] 98 (0, 0)) ∧ Below w.heap.size w wr) (fun _ wr => rowN wr (w.heap.size + 1 + 1))
  case atStart =>
    refine ⟨0, N, total, 0, rfl, ⟨HS.out, rfl, by simp, by simp⟩, three_cell w _ _ _, ?_, ?_, three_new w _ _ _ (Below.refl _ _)⟩
    · rw [Below.heap_alloc _ _ _ (by simp only [World.size_alloc]; omega)]; exact heap_alloc2_old _ _ _
    · rw [Below.heap_alloc _ _ _ (by simp only [World.size_alloc]; omega)]; exact heap_alloc2_new _ _ _
  case round =>
    obtain ⟨a, n, t, b, rfl, hst, hx, hsp, hr, hb⟩ := hrel
    have x0 : wr.cell? ⟨w.heap.size + 1 + 1, 0, none⟩ = some (.int .i64 a) := cell_of_row _ _ _ _ _ _ hx
    have x1 : wr.cell? ⟨w.heap.size + 1 + 1, 1, none⟩ = some (.int .i64 n) := cell_of_row _ _ _ _ _ _ hx
    have x2 : wr.cell? ⟨w.heap.size + 1 + 1, 2, none⟩ = some (.int .i64 t) := cell_of_row _ _ _ _ _ _ hx
    have HX := Lib.hid hx
    have HSP := Lib.hid hsp
    have HR := Lib.hid hr
    have HB := Lib.hid hb
    have HST := Lib.hid hst
    clear hx hsp hr hb hst
    by_cases hn : 2 ≤ n
    · have s0 : wr.cell? ⟨w.heap.size, 0, none⟩ = some (.string seed) := cell_of_row _ _ _ _ _ _ HSP.out
      have s1 : wr.cell? ⟨w.heap.size, 1, none⟩ = some (.slice ad sn sc) := cell_of_row _ _ _ _ _ _ HSP.out
      have s2 : wr.cell? ⟨w.heap.size, 2, none⟩ = some (.int .i64 total) := cell_of_row _ _ _ _ _ _ HSP.out
      have s3 : wr.cell? ⟨w.heap.size, 3, none⟩ = some (.int .i64 N) := cell_of_row _ _ _ _ _ _ HSP.out
      have s4 : wr.cell? ⟨w.heap.size, 4, none⟩ = some (.int .i64 lo) := cell_of_row _ _ _ _ _ _ HSP.out
      have s5 : wr.cell? ⟨w.heap.size, 5, none⟩ = some (.int .i64 hi) := cell_of_row _ _ _ _ _ _ HSP.out
      have hn' : 1 < (n : Int) := by omega
      have hS := HST.out.1
      have hok := HDD.out.ok a n t hS
      have hcl := halves_ok seed ad sn sc l total N lo hi a n t hok.1 hn hok.2 (HDD.out.acc a n t hS hn) HSS.out hp wr (HN.out.later HB.out) HSN.out
      obtain ⟨L, hL⟩ : ∃ L, L = leftOf seed l lo hi a n t := ⟨_, rfl⟩
      rw [← hL] at hcl
      obtain ⟨h, hh⟩ : ∃ h, h = n / 2 := ⟨_, rfl⟩
      obtain ⟨q, hq⟩ : ∃ q, q = a + h := ⟨_, rfl⟩
      obtain ⟨r, hr⟩ : ∃ r, r = n - h := ⟨_, rfl⟩
      rw [← hh, ← hq, ← hr] at hcl
      unfold spV ndV at hcl
      have HL := Lib.hid hL
      have HCL := Lib.hid hcl
      have HOK := Lib.hid hok
      have HQ := Lib.hid (And.intro hh (And.intro hq hr))
      have hbd : -1099511627776 ≤ b + L ∧ b + L ≤ 1099511627776 ∧ (q : Int) * lo ≤ b + L ∧ b + L ≤ q * hi := by
        obtain ⟨h1, h2⟩ := hok
        have hlf := (h1.left (seed := seed) (l := l) (a := a)).1
        have har := (HDD.out.ok _ _ _ (HDD.out.right a n t hS hn)).2
        have e1 := HST.out.2.2
        have e2 := mul_bound (a + n / 2) har lo h1.lo1 (by have := h1.lh; have := h1.hi1; omega)
        have e3 := mul_bound (a + n / 2) har hi (by have := h1.lh; have := h1.lo1; omega) h1.hi1
        have e4 : ((a + n / 2 : Nat) : Int) * lo = a * lo + (n / 2 : Nat) * lo := by rw [Int.natCast_add, Int.add_mul]
        have e5 : ((a + n / 2 : Nat) : Int) * hi = a * hi + (n / 2 : Nat) * hi := by rw [Int.natCast_add, Int.add_mul]
        have e6 := hlf.t1
        have e7 := hlf.t2
        rw [← hL] at e6 e7
        rw [hq, hh]
        omega
      have HBD := Lib.hid hbd
      clear hS hok hcl hL hh hq hr hbd
      cases hfb : f q L b with
      | true =>
        go_wp2_with (first
          | (go_at_call 112; (with_reducible refine HCL.out.mono ?_); rintro e w5 ⟨rfl, hb5⟩
             have HX5 := Lib.hid ((hb5.block _ (lt_of_block HX.out)).trans HX.out)
             have HR5 := Lib.hid ((hb5.block _ (lt_of_block HR.out)).trans HR.out)
             have HSP5 := Lib.hid ((hb5.block _ (lt_of_block HSP.out)).trans HSP.out)
             have HB5 := Lib.hid (HB.out.trans (hb5.mono HB.out.size))
             clear hb5)
          | (go_at_call 87
             have hcc := HC.out a h q r L (t - L) b _ ((HB5.out.alloc HB5.out.size (.cells #[.int .i64 a, .int .i64 h, .int .i64 L] 98)).alloc (Nat.le_trans HB5.out.size (by simp)) (.cells #[.int .i64 q, .int .i64 r, .int .i64 (t - L)] 98)) HBD.out.1 HBD.out.2.1
             rw [hfb] at hcc
             refine hcc.mono ?_
             clear hcc
             rintro e w6 ⟨rfl, hb6⟩
             have HB6 := Lib.hid (show Below w5.heap.size w5 w6 from (((Below.refl _ _).alloc (Nat.le_refl _) _).alloc (by simp) _).trans (hb6.mono (by simp only [World.size_alloc]; omega)))
             have HL6 := Lib.hid (show w6.heap[w5.heap.size]? = some (.cells #[.int .i64 a, .int .i64 h, .int .i64 L] 98 (0, 0)) from (hb6.block _ (by simp only [World.size_alloc]; omega)).trans (heap_alloc2_old _ _ _))
             have HRR6 := Lib.hid (show w6.heap[w5.heap.size + 1]? = some (.cells #[.int .i64 q, .int .i64 r, .int .i64 (t - L)] 98 (0, 0)) from (hb6.block _ (by simp only [World.size_alloc]; omega)).trans (heap_alloc2_new _ _ _))
             have HX6 := Lib.hid ((HB6.out.block _ (lt_of_block HX5.out)).trans HX5.out)
             have HR6 := Lib.hid ((HB6.out.block _ (lt_of_block HR5.out)).trans HR5.out)
             have HSP6 := Lib.hid ((HB6.out.block _ (lt_of_block HSP5.out)).trans HSP5.out)
             clear hb6
             have l0 : w6.cell? ⟨w5.heap.size, 0, none⟩ = some (.int .i64 a) := cell_of_row _ _ _ _ _ _ HL6.out
             have l1 : w6.cell? ⟨w5.heap.size, 1, none⟩ = some (.int .i64 h) := cell_of_row _ _ _ _ _ _ HL6.out
             have l2 : w6.cell? ⟨w5.heap.size, 2, none⟩ = some (.int .i64 L) := cell_of_row _ _ _ _ _ _ HL6.out
             have r0 : w6.cell? ⟨w5.heap.size + 1, 0, none⟩ = some (.int .i64 q) := cell_of_row _ _ _ _ _ _ HRR6.out
             have r1 : w6.cell? ⟨w5.heap.size + 1, 1, none⟩ = some (.int .i64 r) := cell_of_row _ _ _ _ _ _ HRR6.out
             have r2 : w6.cell? ⟨w5.heap.size + 1, 2, none⟩ = some (.int .i64 (t - L)) := cell_of_row _ _ _ _ _ _ HRR6.out)
          | ((with_reducible show wpList _ _ _ ((⟨_, Op.store 98 (.tmp 6) (.tmp 29), _, _, _, _⟩ : Oper) :: _) _ _); refine wpList_store_row rfl 98 (.tmp 6) (.tmp 29) rfl (w.heap.size + 1 + 1) #[.int .i64 a, .int .i64 h, .int .i64 L] rfl rfl 98 _ HX6.out info98 rfl (by simp [Value.oneCell']) ?_))
        go_roundw
        case rel =>
          refine ⟨_, _, _, _, _, _, _, _, _, _, _, _, _, _, _, _, _, _, _, _, _, _, _, ⟨a, h, L, b, rfl, ⟨?_, ?_, HST.out.2.2⟩, setRow_heap _ _ _ _ _ _ HX6.out, ?_, ?_, ?_⟩, rfl⟩
          · rw [HL.out, HQ.out.1]; exact HDD.out.left a n t HST.out.1 hn
          · rw [← HST.out.2.1, downOf_left _ _ _ _ _ _ _ _ _ hn (by rw [← HL.out, ← HQ.out.1, ← HQ.out.2.1]; exact hfb), ← HL.out, ← HQ.out.1]
          · exact (setRow_other _ _ _ _ (by omega)).trans HSP6.out
          · exact (setRow_other _ _ _ _ (by omega)).trans HR6.out
          · exact below_setRow (HB5.out.trans (HB6.out.mono HB5.out.size)) (by omega) _
        case measure =>
          rw [rowN_at HX.out, rowN_at (setRow_heap _ _ _ _ _ _ HX6.out)]
          have := HQ.out.1; omega
      | false =>
        go_wp2_with (first
          | (go_at_call 112; (with_reducible refine HCL.out.mono ?_); rintro e w5 ⟨rfl, hb5⟩
             have HX5 := Lib.hid ((hb5.block _ (lt_of_block HX.out)).trans HX.out)
             have HR5 := Lib.hid ((hb5.block _ (lt_of_block HR.out)).trans HR.out)
             have HSP5 := Lib.hid ((hb5.block _ (lt_of_block HSP.out)).trans HSP.out)
             have HB5 := Lib.hid (HB.out.trans (hb5.mono HB.out.size))
             clear hb5)
          | (go_at_call 87
             have hcc := HC.out a h q r L (t - L) b _ ((HB5.out.alloc HB5.out.size (.cells #[.int .i64 a, .int .i64 h, .int .i64 L] 98)).alloc (Nat.le_trans HB5.out.size (by simp)) (.cells #[.int .i64 q, .int .i64 r, .int .i64 (t - L)] 98)) HBD.out.1 HBD.out.2.1
             rw [hfb] at hcc
             refine hcc.mono ?_
             clear hcc
             rintro e w6 ⟨rfl, hb6⟩
             have HB6 := Lib.hid (show Below w5.heap.size w5 w6 from (((Below.refl _ _).alloc (Nat.le_refl _) _).alloc (by simp) _).trans (hb6.mono (by simp only [World.size_alloc]; omega)))
             have HL6 := Lib.hid (show w6.heap[w5.heap.size]? = some (.cells #[.int .i64 a, .int .i64 h, .int .i64 L] 98 (0, 0)) from (hb6.block _ (by simp only [World.size_alloc]; omega)).trans (heap_alloc2_old _ _ _))
             have HRR6 := Lib.hid (show w6.heap[w5.heap.size + 1]? = some (.cells #[.int .i64 q, .int .i64 r, .int .i64 (t - L)] 98 (0, 0)) from (hb6.block _ (by simp only [World.size_alloc]; omega)).trans (heap_alloc2_new _ _ _))
             have HX6 := Lib.hid ((HB6.out.block _ (lt_of_block HX5.out)).trans HX5.out)
             have HR6 := Lib.hid ((HB6.out.block _ (lt_of_block HR5.out)).trans HR5.out)
             have HSP6 := Lib.hid ((HB6.out.block _ (lt_of_block HSP5.out)).trans HSP5.out)
             clear hb6
             have l0 : w6.cell? ⟨w5.heap.size, 0, none⟩ = some (.int .i64 a) := cell_of_row _ _ _ _ _ _ HL6.out
             have l1 : w6.cell? ⟨w5.heap.size, 1, none⟩ = some (.int .i64 h) := cell_of_row _ _ _ _ _ _ HL6.out
             have l2 : w6.cell? ⟨w5.heap.size, 2, none⟩ = some (.int .i64 L) := cell_of_row _ _ _ _ _ _ HL6.out
             have r0 : w6.cell? ⟨w5.heap.size + 1, 0, none⟩ = some (.int .i64 q) := cell_of_row _ _ _ _ _ _ HRR6.out
             have r1 : w6.cell? ⟨w5.heap.size + 1, 1, none⟩ = some (.int .i64 r) := cell_of_row _ _ _ _ _ _ HRR6.out
             have r2 : w6.cell? ⟨w5.heap.size + 1, 2, none⟩ = some (.int .i64 (t - L)) := cell_of_row _ _ _ _ _ _ HRR6.out))
        have x60 : w6.cell? ⟨w.heap.size + 1 + 1, 0, none⟩ = some (.int .i64 a) := cell_of_row _ _ _ _ _ _ HX6.out
        have x61 : w6.cell? ⟨w.heap.size + 1 + 1, 1, none⟩ = some (.int .i64 n) := cell_of_row _ _ _ _ _ _ HX6.out
        have x62 : w6.cell? ⟨w.heap.size + 1 + 1, 2, none⟩ = some (.int .i64 t) := cell_of_row _ _ _ _ _ _ HX6.out
        have xf0 : w6.frozen? ⟨w.heap.size + 1 + 1, 0, none⟩ = false := frozen_of_row _ _ _ _ _ HX6.out
        have xf1 : w6.frozen? ⟨w.heap.size + 1 + 1, 1, none⟩ = false := frozen_of_row _ _ _ _ _ HX6.out
        have xf2 : w6.frozen? ⟨w.heap.size + 1 + 1, 2, none⟩ = false := frozen_of_row _ _ _ _ _ HX6.out
        have hw1 : IntKind.i64.wrap (b + L) = b + L := by have := HBD.out; simp only [IntKind.wrap_i64]; omega
        have hne : w.heap.size + 1 + 1 ≠ w5.heap.size := by have := lt_of_block HX5.out; omega
        have hne1 : w.heap.size + 1 + 1 ≠ w5.heap.size + 1 := by have := lt_of_block HX5.out; omega
        clear x0 x1 x2 s0 s1 s2 s3 s4 s5
        go_region_held3 (fun w' => w'.cell? ⟨w5.heap.size, 2, none⟩ = some (.int .i64 L) ∧ w'.cell? ⟨w5.heap.size + 1, 0, none⟩ = some (.int .i64 q) ∧ w'.cell? ⟨w5.heap.size + 1, 1, none⟩ = some (.int .i64 r) ∧ w'.cell? ⟨w5.heap.size + 1, 2, none⟩ = some (.int .i64 (t - L)))
          (first
            | (refine ⟨?_, ?_, ?_, ?_⟩ <;> ((try rw [World.cell?_drew]); (repeat rw [World.cell?_setCell_far _ _ _ _ (by dsimp only; omega)]); assumption))
            | go_keep) (fail)
        have k1 := set3 w6 (w.heap.size + 1 + 1) _ _ _ (.int .i64 (q : Int)) (.int .i64 (r : Int)) (.int .i64 (t - L)) 98 HX6.out
        have HK1 := Lib.hid k1
        clear k1
        go_roundw
        case rel =>
          refine ⟨_, _, _, _, _, _, _, _, _, _, _, _, _, _, _, _, _, _, _, _, _, _, _, ⟨q, r, t - L, b + L, rfl, ⟨?_, ?_, HBD.out.2.2⟩, HK1.out, ?_, ?_, ?_⟩, rfl⟩
          · rw [HL.out, HQ.out.2.2, HQ.out.2.1, HQ.out.1]; exact HDD.out.right a n t HST.out.1 hn
          · rw [← HST.out.2.1, downOf_right _ _ _ _ _ _ _ _ _ hn (by rw [← HL.out, ← HQ.out.1, ← HQ.out.2.1]; exact hfb), ← HL.out, ← HQ.out.1, ← HQ.out.2.1, ← HQ.out.2.2]
          · exact ((Below.heap_setCell _ _ _ _ (by dsimp only; omega)).trans ((Below.heap_setCell _ _ _ _ (by dsimp only; omega)).trans (Below.heap_setCell _ _ _ _ (by dsimp only; omega)))).trans HSP6.out
          · exact ((Below.heap_setCell _ _ _ _ (by dsimp only; omega)).trans ((Below.heap_setCell _ _ _ _ (by dsimp only; omega)).trans (Below.heap_setCell _ _ _ _ (by dsimp only; omega)))).trans HR6.out
          · exact ((((HB5.out.trans (HB6.out.mono HB5.out.size)).setCell (by dsimp only; omega) _).setCell (by dsimp only; omega) _).setCell (by dsimp only; omega) _).drew
        case measure =>
          rw [rowN_at HX.out]
          refine Nat.lt_of_le_of_lt (Nat.le_of_eq (rowN_at (w := World.drew _) (a := q) (t := t - L) (n := r) HK1.out)) ?_
          have := HQ.out; omega
    · have hn' : ¬ (1 < (n : Int)) := by omega
      go_wp2_with ((with_reducible show wpList _ _ _ ((⟨_, Op.store 98 _ _, _, _, _, _⟩ : Oper) :: _) _ _); refine wpList_store_row rfl 98 (.tmp 4) (.tmp 35) rfl (w.heap.size + 1) #[.int .i64 a, .int .i64 n, .int .i64 t] rfl rfl 98 _ HR.out info98 rfl (by simp [Value.oneCell']) ?_)
      refine bodyPost_ret (v := .tuple #[.agg #[.int .i64 a, .int .i64 n, .int .i64 t], .int .i64 b]) (results_row_tmp rfl _ _ (w.heap.size + 1) _ _ rfl rfl (run_loadVar_row _ _ 98 98 _ (0, 0) _ (setRow_heap _ _ _ _ _ _ HR.out) Tryd.underlying98 rfl info98)) rfl ⟨⟨a, n, t, b, ?_, rfl⟩, below_setRow HB.out (by omega) _⟩
      rw [← HST.out.2.1, downOf_end _ _ _ _ _ _ _ _ _ (by omega)]
end Go.Proofs.YtfkpeabkcdhcfaaDoor
namespace Go.Proofs.YtfkpeabkcdhcfaaDoor
open Go.RowKit
set_option maxRecDepth 100000
/-- the choice of the way to a part, and to a unit -/
def toF (k : Int) : Nat → Int → Int → Bool := fun ra _ _ => decide (k < (ra : Int))
def findF (x : Int) : Nat → Int → Int → Bool := fun _ lt before => decide (x < before + lt)
theorem results_tmp3 {fn : Func} {p q r : Tmp} (h : fn.results = #[.tmp p, .tmp q, .tmp r]) (tmps : Array Value) (w : World) : (results fn tmps).run Tryd.prog w = .ok (.tuple #[tmps.getD p undef, tmps.getD q undef, tmps.getD r undef]) w := by
  simp [results, h]
theorem to1_any (B : Nat) (k : Int) (w : World) (hi : w.heap[B]? = some (.cells #[.int .i64 k] 3 (0, 0))) : Choice 107 B (toF k) w := by
  intro la ln ra rn lt rt before W hW _ _
  have hc : W.cell? ⟨B, 0, none⟩ = some (.int .i64 k) := cell_of_row _ _ _ _ _ _ ((hW.block _ (lt_of_block hi)).trans hi)
  have hlt := World.block_lt_of_cell? W _ hc
  clear hi
  unfold ndV toF
  go_enter Tryd.func107, Tryd.ntmps107
  go_wp2
  go_ret
  exact ⟨rfl, ((Below.refl _ _).alloc (Nat.le_refl _) _).alloc (by simp) _⟩
theorem find1_any (B : Nat) (k : Int) (w : World) (hi : w.heap[B]? = some (.cells #[.int .i64 k] 3 (0, 0))) : Choice 87 B (findF k) w := by
  intro la ln ra rn lt rt before W hW h1 h2
  have hc : W.cell? ⟨B, 0, none⟩ = some (.int .i64 k) := cell_of_row _ _ _ _ _ _ ((hW.block _ (lt_of_block hi)).trans hi)
  have hlt := World.block_lt_of_cell? W _ hc
  clear hi
  unfold ndV findF
  go_enter Tryd.func87, Tryd.ntmps87
  go_wp2
  go_ret
  exact ⟨rfl, ((Below.refl _ _).alloc (Nat.le_refl _) _).alloc (by simp) _⟩
set_option maxHeartbeats 1000000 in
theorem to_any {seed : ByteArray} {ad : Option Addr} {sn sc : Nat} {l : List Int} {lo hi : Int} {S : Nat → Nat → Int → Prop} (hD : Drawn seed l lo hi S) (total : Int) (N : Nat) (hS : S 0 N total) (k : Int) (hs : seed.size ≤ 32) (hp : sn ≤ 6) (hsn : sn = l.length) (w : World) (hN : Net seed (.slice ad sn sc) l w) :
    Calls Tryd.prog 79 #[.agg (spV seed (.slice ad sn sc) total N lo hi), .int .i64 k] w fun e w' =>
      (∃ (a n : Nat) (t b : Int), downOf seed l lo hi (toF k) 0 N total 0 = (a, n, t, b) ∧ e = .returned (.tuple #[.agg (ndV a n t), .int .i64 b])) ∧ Below w.heap.size w w' := by
  have HD := Lib.hid (fun W B hN' hC => down_to seed ad sn sc l lo hi S hD total N hS (toF k) hs hp hsn B W hN' hC)
  have HN := Lib.hid hN
  clear hD hS hs hsn hN
  unfold spV ndV at HD ⊢
  go_enter Tryd.func79, Tryd.ntmps79
  go_wp2_with fail
  have hb3 := three_new w (.cells #[.string seed, .slice ad sn sc, .int .i64 total, .int .i64 N, .int .i64 lo, .int .i64 hi] 43) (.cells #[.int .i64 k] 3) (.cells #[.int .i64 0, .int .i64 0, .int .i64 0] 98) (Below.refl _ _)
  have hk3 : (((w.alloc (.cells #[.string seed, .slice ad sn sc, .int .i64 total, .int .i64 N, .int .i64 lo, .int .i64 hi] 43)).alloc (.cells #[.int .i64 k] 3)).alloc (.cells #[.int .i64 0, .int .i64 0, .int .i64 0] 98)).heap[w.heap.size + 1]? = some (.cells #[.int .i64 k] 3 (0, 0)) := by
    rw [Below.heap_alloc _ _ _ (by simp only [World.size_alloc]; omega)]; exact heap_alloc2_new _ _ _
  have hr3 := three_cell w (.cells #[.string seed, .slice ad sn sc, .int .i64 total, .int .i64 N, .int .i64 lo, .int .i64 hi] 43) (.cells #[.int .i64 k] 3) (.cells #[.int .i64 0, .int .i64 0, .int .i64 0] 98)
  refine (HD.out _ _ (HN.out.later hb3) (to1_any _ k _ hk3)).mono ?_
  rintro e w2 ⟨⟨a, n, t, b, hd, rfl⟩, hb2⟩
  have HR2 := Lib.hid ((hb2.block _ (lt_of_block hr3)).trans hr3)
  have HB2 := Lib.hid (hb3.trans (hb2.mono hb3.size))
  clear hb2 hb3 hk3 hr3
  go_wp2_with ((with_reducible show wpList _ _ _ ((⟨_, Op.store 98 _ _, _, _, _, _⟩ : Oper) :: _) _ _); refine wpList_store_row rfl 98 (.tmp 4) (.tmp 9) rfl (w.heap.size + 1 + 1) #[.int .i64 a, .int .i64 n, .int .i64 t] rfl rfl 98 _ HR2.out info98 rfl (by simp [Value.oneCell']) ?_)
  refine bodyPost_ret (v := .tuple #[.agg #[.int .i64 a, .int .i64 n, .int .i64 t], .int .i64 b]) (results_row_tmp rfl _ _ (w.heap.size + 1 + 1) _ _ rfl rfl (run_loadVar_row _ _ 98 98 _ (0, 0) _ (setRow_heap _ _ _ _ _ _ HR2.out) Tryd.underlying98 rfl info98)) rfl ⟨⟨a, n, t, b, hd, rfl⟩, below_setRow HB2.out (by omega) _⟩
set_option maxHeartbeats 1000000 in
theorem part_any {seed : ByteArray} {ad : Option Addr} {sn sc : Nat} {l : List Int} {lo hi : Int} {S : Nat → Nat → Int → Prop} (hD : Drawn seed l lo hi S) (total : Int) (N : Nat) (hS : S 0 N total) (k : Int) (hk0 : 0 ≤ k) (hkN : k < N) (hs : seed.size ≤ 32) (hp : sn ≤ 6) (hsn : sn = l.length) (w : World) (hN : Net seed (.slice ad sn sc) l w) :
    Calls Tryd.prog 39 #[.agg (spV seed (.slice ad sn sc) total N lo hi), .int .i64 k] w fun e w' =>
      e = .returned (.tuple #[.int .i64 (downOf seed l lo hi (toF k) 0 N total 0).2.2.1, .int .i64 0]) ∧ Below w.heap.size w w' := by
  have HV := Lib.hid (fun W => vs_ok seed ad sn sc total N lo hi hs hp (hD.ok 0 N total hS).1 W)
  have HT := Lib.hid (fun W hN' => to_any (ad := ad) (sc := sc) hD total N hS k hs hp hsn W hN')
  have HN := Lib.hid hN
  clear hD hS hs hsn hN
  obtain ⟨R, hR⟩ : ∃ R, R = downOf seed l lo hi (toF k) 0 N total 0 := ⟨_, rfl⟩
  rw [← hR] at HT ⊢
  clear hR
  unfold spV ndV at *
  have g1 : ¬ (k < 0) := by omega
  have g2 : ¬ ((N : Int) ≤ k) := by omega
  go_enter Tryd.func39, Tryd.ntmps39
  go_wp2_with (first
    | (go_at_call 46; refine (HV.out _).mono ?_; rintro e w1 ⟨rfl, hb1⟩
       have HS1 := Lib.hid (show w1.heap[w.heap.size]? = some (.cells #[.string seed, .slice ad sn sc, .int .i64 total, .int .i64 N, .int .i64 lo, .int .i64 hi] 43 (0, 0)) from (hb1.block _ (by simp)).trans (heap_alloc_new w _))
       have HB1 := Lib.hid (show Below w.heap.size w w1 from ((Below.refl _ _).alloc (Nat.le_refl _) _).trans (hb1.mono (by simp)))
       clear hb1
       have c0 : w1.cell? ⟨w.heap.size, 0, none⟩ = some (.string seed) := cell_of_row _ _ _ _ _ _ HS1.out
       have c1 : w1.cell? ⟨w.heap.size, 1, none⟩ = some (.slice ad sn sc) := cell_of_row _ _ _ _ _ _ HS1.out
       have c2 : w1.cell? ⟨w.heap.size, 2, none⟩ = some (.int .i64 total) := cell_of_row _ _ _ _ _ _ HS1.out
       have c3 : w1.cell? ⟨w.heap.size, 3, none⟩ = some (.int .i64 N) := cell_of_row _ _ _ _ _ _ HS1.out
       have c4 : w1.cell? ⟨w.heap.size, 4, none⟩ = some (.int .i64 lo) := cell_of_row _ _ _ _ _ _ HS1.out
       have c5 : w1.cell? ⟨w.heap.size, 5, none⟩ = some (.int .i64 hi) := cell_of_row _ _ _ _ _ _ HS1.out)
    | (go_at_call 79; refine (HT.out _ (HN.out.later HB1.out)).mono ?_; rintro e w2 ⟨⟨a, n, t, b, rfl, rfl⟩, hb2⟩
       have HB2 := Lib.hid (HB1.out.trans (hb2.mono HB1.out.size))
       clear hb2))
  exact bodyPost_ret (results_tmp2 rfl _ _ _) rfl ⟨rfl, HB2.out.alloc HB2.out.size _⟩
set_option maxHeartbeats 1000000 in
theorem before_any {seed : ByteArray} {ad : Option Addr} {sn sc : Nat} {l : List Int} {lo hi : Int} {S : Nat → Nat → Int → Prop} (hD : Drawn seed l lo hi S) (total : Int) (N : Nat) (hS : S 0 N total) (k : Int) (hk0 : 0 ≤ k) (hkN : k ≤ N) (hs : seed.size ≤ 32) (hp : sn ≤ 6) (hsn : sn = l.length) (w : World) (hN : Net seed (.slice ad sn sc) l w) :
    Calls Tryd.prog 51 #[.agg (spV seed (.slice ad sn sc) total N lo hi), .int .i64 k] w fun e w' =>
      e = .returned (.tuple #[.int .i64 (if k = N then total else (downOf seed l lo hi (toF k) 0 N total 0).2.2.2), .int .i64 0]) ∧ Below w.heap.size w w' := by
  have HV := Lib.hid (fun W => vs_ok seed ad sn sc total N lo hi hs hp (hD.ok 0 N total hS).1 W)
  have HT := Lib.hid (fun W hN' => to_any (ad := ad) (sc := sc) hD total N hS k hs hp hsn W hN')
  have HN := Lib.hid hN
  clear hD hS hs hsn hN
  obtain ⟨R, hR⟩ : ∃ R, R = downOf seed l lo hi (toF k) 0 N total 0 := ⟨_, rfl⟩
  rw [← hR] at HT ⊢
  clear hR
  unfold spV ndV at *
  have g1 : ¬ (k < 0) := by omega
  have g2 : ¬ ((N : Int) < k) := by omega
  by_cases g3 : k = (N : Int)
  · rw [if_pos g3]
    have HG := Lib.hid g3
    clear g3
    have g4 : (k == (N : Int)) = true := by rw [HG.out]; simp
    clear HT
    go_enter Tryd.func51, Tryd.ntmps51
    go_wp2_with (first
      | (go_at_call 46; refine (HV.out _).mono ?_; rintro e w1 ⟨rfl, hb1⟩
         have HS1 := Lib.hid (show w1.heap[w.heap.size]? = some (.cells #[.string seed, .slice ad sn sc, .int .i64 total, .int .i64 N, .int .i64 lo, .int .i64 hi] 43 (0, 0)) from (hb1.block _ (by simp)).trans (heap_alloc_new w _))
         have HB1 := Lib.hid (show Below w.heap.size w w1 from ((Below.refl _ _).alloc (Nat.le_refl _) _).trans (hb1.mono (by simp)))
         clear hb1
         have c0 : w1.cell? ⟨w.heap.size, 0, none⟩ = some (.string seed) := cell_of_row _ _ _ _ _ _ HS1.out
         have c1 : w1.cell? ⟨w.heap.size, 1, none⟩ = some (.slice ad sn sc) := cell_of_row _ _ _ _ _ _ HS1.out
         have c2 : w1.cell? ⟨w.heap.size, 2, none⟩ = some (.int .i64 total) := cell_of_row _ _ _ _ _ _ HS1.out
         have c3 : w1.cell? ⟨w.heap.size, 3, none⟩ = some (.int .i64 N) := cell_of_row _ _ _ _ _ _ HS1.out
         have c4 : w1.cell? ⟨w.heap.size, 4, none⟩ = some (.int .i64 lo) := cell_of_row _ _ _ _ _ _ HS1.out
         have c5 : w1.cell? ⟨w.heap.size, 5, none⟩ = some (.int .i64 hi) := cell_of_row _ _ _ _ _ _ HS1.out))
    exact bodyPost_ret (results_tmp2 rfl _ _ _) rfl ⟨rfl, HB1.out⟩
  · rw [if_neg g3]
    have g4 : (k == (N : Int)) = false := by simp; exact g3
    go_enter Tryd.func51, Tryd.ntmps51
    go_wp2_with (first
      | (go_at_call 46; refine (HV.out _).mono ?_; rintro e w1 ⟨rfl, hb1⟩
         have HS1 := Lib.hid (show w1.heap[w.heap.size]? = some (.cells #[.string seed, .slice ad sn sc, .int .i64 total, .int .i64 N, .int .i64 lo, .int .i64 hi] 43 (0, 0)) from (hb1.block _ (by simp)).trans (heap_alloc_new w _))
         have HB1 := Lib.hid (show Below w.heap.size w w1 from ((Below.refl _ _).alloc (Nat.le_refl _) _).trans (hb1.mono (by simp)))
         clear hb1
         have c0 : w1.cell? ⟨w.heap.size, 0, none⟩ = some (.string seed) := cell_of_row _ _ _ _ _ _ HS1.out
         have c1 : w1.cell? ⟨w.heap.size, 1, none⟩ = some (.slice ad sn sc) := cell_of_row _ _ _ _ _ _ HS1.out
         have c2 : w1.cell? ⟨w.heap.size, 2, none⟩ = some (.int .i64 total) := cell_of_row _ _ _ _ _ _ HS1.out
         have c3 : w1.cell? ⟨w.heap.size, 3, none⟩ = some (.int .i64 N) := cell_of_row _ _ _ _ _ _ HS1.out
         have c4 : w1.cell? ⟨w.heap.size, 4, none⟩ = some (.int .i64 lo) := cell_of_row _ _ _ _ _ _ HS1.out
         have c5 : w1.cell? ⟨w.heap.size, 5, none⟩ = some (.int .i64 hi) := cell_of_row _ _ _ _ _ _ HS1.out)
      | (go_at_call 79; refine (HT.out _ (HN.out.later HB1.out)).mono ?_; rintro e w2 ⟨⟨a, n, t, b, rfl, rfl⟩, hb2⟩
         have HB2 := Lib.hid (HB1.out.trans (hb2.mono HB1.out.size))
         clear hb2))
    exact bodyPost_ret (results_tmp2 rfl _ _ _) rfl ⟨rfl, HB2.out.alloc HB2.out.size _⟩
set_option maxHeartbeats 1000000 in
theorem find_any {seed : ByteArray} {ad : Option Addr} {sn sc : Nat} {l : List Int} {lo hi : Int} {S : Nat → Nat → Int → Prop} (hD : Drawn seed l lo hi S) (total : Int) (N : Nat) (hS : S 0 N total) (hlo : 0 ≤ lo) (x : Int) (hx0 : 0 ≤ x) (hxt : x < total) (hs : seed.size ≤ 32) (hp : sn ≤ 6) (hsn : sn = l.length) (w : World) (hN : Net seed (.slice ad sn sc) l w)
    (hb : 0 ≤ x - (downOf seed l lo hi (findF x) 0 N total 0).2.2.2 ∧ x - (downOf seed l lo hi (findF x) 0 N total 0).2.2.2 ≤ 1099511627776) :
    Calls Tryd.prog 53 #[.agg (spV seed (.slice ad sn sc) total N lo hi), .int .i64 x] w fun e w' =>
      e = .returned (.tuple #[.int .i64 (downOf seed l lo hi (findF x) 0 N total 0).1, .int .i64 (x - (downOf seed l lo hi (findF x) 0 N total 0).2.2.2), .int .i64 0]) ∧ Below w.heap.size w w' := by
  have HV := Lib.hid (fun W => vs_ok seed ad sn sc total N lo hi hs hp (hD.ok 0 N total hS).1 W)
  have HT := Lib.hid (fun B W hN' hC => down_find seed ad sn sc l lo hi S hD total N hS (findF x) hs hp hsn B W hN' hC)
  have HN := Lib.hid hN
  clear hD hS hs hsn hN
  obtain ⟨R, hR⟩ : ∃ R, R = downOf seed l lo hi (findF x) 0 N total 0 := ⟨_, rfl⟩
  rw [← hR] at HT hb ⊢
  clear hR
  have HBD := Lib.hid hb
  clear hb
  unfold spV ndV at *
  have g0 : ¬ (lo < 0) := by omega
  have g1 : ¬ (x < 0) := by omega
  have g2 : ¬ (total ≤ x) := by omega
  go_enter Tryd.func53, Tryd.ntmps53
  go_wp2_with (first
    | (go_at_call 46; refine (HV.out _).mono ?_; rintro e w1 ⟨rfl, hb1⟩
       have HS1 := Lib.hid (show w1.heap[w.heap.size]? = some (.cells #[.string seed, .slice ad sn sc, .int .i64 total, .int .i64 N, .int .i64 lo, .int .i64 hi] 43 (0, 0)) from (hb1.block _ (by simp only [World.size_alloc]; omega)).trans (heap_alloc2_old _ _ _))
       have HK1 := Lib.hid (show w1.heap[w.heap.size + 1]? = some (.cells #[.int .i64 x] 3 (0, 0)) from (hb1.block _ (by simp)).trans (heap_alloc2_new _ _ _))
       have HB1 := Lib.hid (show Below w.heap.size w w1 from (((Below.refl _ _).alloc (Nat.le_refl _) _).alloc (by simp) _).trans (hb1.mono (by simp only [World.size_alloc]; omega)))
       have k0 : w1.cell? ⟨w.heap.size + 1, 0, none⟩ = some (.int .i64 x) := cell_of_row _ _ _ _ _ _ HK1.out
       clear hb1
       have c0 : w1.cell? ⟨w.heap.size, 0, none⟩ = some (.string seed) := cell_of_row _ _ _ _ _ _ HS1.out
       have c1 : w1.cell? ⟨w.heap.size, 1, none⟩ = some (.slice ad sn sc) := cell_of_row _ _ _ _ _ _ HS1.out
       have c2 : w1.cell? ⟨w.heap.size, 2, none⟩ = some (.int .i64 total) := cell_of_row _ _ _ _ _ _ HS1.out
       have c3 : w1.cell? ⟨w.heap.size, 3, none⟩ = some (.int .i64 N) := cell_of_row _ _ _ _ _ _ HS1.out
       have c4 : w1.cell? ⟨w.heap.size, 4, none⟩ = some (.int .i64 lo) := cell_of_row _ _ _ _ _ _ HS1.out
       have c5 : w1.cell? ⟨w.heap.size, 5, none⟩ = some (.int .i64 hi) := cell_of_row _ _ _ _ _ _ HS1.out)
    | (go_at_call 86
       have hk1 : w1.heap[w.heap.size + 1]? = some (.cells #[.int .i64 x] 3 (0, 0)) := HK1.out
       refine (HT.out _ w1 (HN.out.later HB1.out) (find1_any _ x _ hk1)).mono ?_
       rintro e w2 ⟨⟨a, n, t, b, rfl, rfl⟩, hb2⟩
       have HK2 := Lib.hid ((hb2.block _ (lt_of_block HK1.out)).trans HK1.out)
       have HB2 := Lib.hid (HB1.out.trans (hb2.mono HB1.out.size))
       clear hb2 hk1))
  have hk2 : w2.cell? ⟨w.heap.size + 1, 0, none⟩ = some (.int .i64 x) := cell_of_row _ _ _ _ _ _ HK2.out
  have hw : IntKind.i64.wrap (x - b) = x - b := by have := HBD.out; simp only [IntKind.wrap_i64]; omega
  obtain ⟨W3, hW3⟩ : ∃ W3, W3 = w2.alloc (.cells #[.int .i64 a, .int .i64 n, .int .i64 t] 98) := ⟨_, rfl⟩
  have hb3 : Below w2.heap.size w2 W3 := by rw [hW3]; exact (Below.refl _ _).alloc (Nat.le_refl _) _
  have hn3 : W3.heap[w2.heap.size]? = some (.cells #[.int .i64 a, .int .i64 n, .int .i64 t] 98 (0, 0)) := by rw [hW3]; exact heap_alloc_new _ _
  have hk3 : W3.cell? ⟨w.heap.size + 1, 0, none⟩ = some (.int .i64 x) := (hb3.cell (p := ⟨w.heap.size + 1, 0, none⟩) (lt_of_block HK2.out)).trans hk2
  have n0 : W3.cell? ⟨w2.heap.size, 0, none⟩ = some (.int .i64 a) := cell_of_row _ _ _ _ _ _ hn3
  have HB3 := Lib.hid (HB2.out.trans (hb3.mono HB2.out.size))
  change Code.wp Tryd.prog _ _ _ (w2.alloc (.cells #[.int .i64 a, .int .i64 n, .int .i64 t] 98))
  rw [← hW3]
  clear hW3 hb3 hn3 hk2 k0 c0 c1 c2 c3 c4 c5
  go_quiet (fail)
  go_wp2
  exact bodyPost_ret (results_tmp3 rfl _ _) rfl ⟨rfl, below_drewN HB3.out _⟩
end Go.Proofs.YtfkpeabkcdhcfaaDoor
namespace Go.Proofs.YtfkpeabkcdhcfaaDoor
open Go.RowKit
theorem leftOf_move (seed : ByteArray) (l : List Int) (lo hi m : Int) (a n : Nat) (t : Int) : leftOf seed l (lo + m) (hi + m) a n (t + n * m) = leftOf seed l lo hi a n t + (n / 2 : Nat) * m := by
  have e : (n : Int) * m = (n / 2 : Nat) * m + (n - n / 2 : Nat) * m := by rw [← Int.add_mul]; congr 1; omega
  unfold leftOf
  rw [← btwOf_move, Int.mul_add, Int.mul_add, Int.mul_add, Int.mul_add, e]
  congr 1 <;> omega
/-- both bounds and the total grow: each part grows -/
theorem partsOf_move (seed : ByteArray) (l : List Int) (lo hi m : Int) (a n : Nat) (t : Int) : partsOf seed l (lo + m) (hi + m) a n (t + n * m) = (partsOf seed l lo hi a n t).map (· + m) := by
  refine node_ind (C := fun a n t => partsOf seed l (lo + m) (hi + m) a n (t + n * m) = (partsOf seed l lo hi a n t).map (· + m)) (leftOf seed l lo hi) (fun a t => by rw [partsOf_zero, partsOf_zero]; rfl) (fun a t => by rw [partsOf_one, partsOf_one]; simp) (fun a n t hn i1 i2 => ?_) n a n t (Nat.le_refl _)
  have e : (n : Int) * m = (n / 2 : Nat) * m + (n - n / 2 : Nat) * m := by rw [← Int.add_mul]; congr 1; omega
  rw [partsOf_more _ _ _ _ _ _ _ hn, partsOf_more _ _ _ _ _ _ _ hn, leftOf_move, List.map_append, ← i1, ← i2]
  congr 2
  omega
/-- the sum of numbers -/
def sumL : List Int → Int
  | [] => 0
  | x :: l => x + sumL l
theorem sumL_app : ∀ a b : List Int, sumL (a ++ b) = sumL a + sumL b
  | [], b => by simp [sumL]
  | x :: a, b => by rw [List.cons_append, sumL, sumL_app a b, sumL]; omega
/-- the parts are from lo to hi, and their sum is the total -/
theorem partsOf_sum (seed : ByteArray) (l : List Int) (lo hi : Int) (a n : Nat) (t : Int) (h : NodeOk lo hi n t) : sumL (partsOf seed l lo hi a n t) = t ∧ ∀ x ∈ partsOf seed l lo hi a n t, lo ≤ x ∧ x ≤ hi := by
  have key := node_ind (C := fun a n t => NodeOk lo hi n t → sumL (partsOf seed l lo hi a n t) = t ∧ ∀ x ∈ partsOf seed l lo hi a n t, lo ≤ x ∧ x ≤ hi) (leftOf seed l lo hi)
    (fun a t h => by rw [partsOf_zero]; have := h.t1; have := h.t2; refine ⟨?_, by simp⟩; simp at *; show (0 : Int) = t; omega)
    (fun a t h => by rw [partsOf_one]; have := h.t1; have := h.t2; refine ⟨by simp [sumL], fun x hx => ?_⟩; simp at *; subst hx; omega)
    (fun a n t hn i1 i2 h => ?_) n a n t (Nat.le_refl _)
  · exact key h
  · have hl := h.left (seed := seed) (l := l) (a := a)
    rw [partsOf_more _ _ _ _ _ _ _ hn, sumL_app, (i1 hl.1).1, (i2 hl.2).1]
    refine ⟨by omega, fun x hx => ?_⟩
    rcases List.mem_append.1 hx with h1 | h1
    · exact (i1 hl.1).2 x h1
    · exact (i2 hl.2).2 x h1
theorem partsOf_tot (seed : ByteArray) (l : List Int) (lo hi : Int) (a n : Nat) (t : Int) (h : 1 ≤ n) : sumL (partsOf seed l lo hi a n t) = t := by
  have key := node_ind (C := fun a n t => 1 ≤ n → sumL (partsOf seed l lo hi a n t) = t) (leftOf seed l lo hi)
    (fun a t h => by omega) (fun a t h => by rw [partsOf_one]; simp [sumL]) (fun a n t hn i1 i2 h => ?_) n a n t (Nat.le_refl _)
  · exact key h
  · rw [partsOf_more _ _ _ _ _ _ _ hn, sumL_app, i1 (by omega), i2 (by omega)]; omega
/-- the way to a part -/
theorem downOf_to (seed : ByteArray) (l : List Int) (lo hi : Int) (k a n : Nat) (t b : Int) (h1 : a ≤ k) (h2 : k < a + n) :
    downOf seed l lo hi (toF k) a n t b = (k, 1, (partsOf seed l lo hi a n t).getD (k - a) 0, b + sumL ((partsOf seed l lo hi a n t).take (k - a))) := by
  have key := node_ind (C := fun a n t => ∀ b, a ≤ k → k < a + n → downOf seed l lo hi (toF k) a n t b = (k, 1, (partsOf seed l lo hi a n t).getD (k - a) 0, b + sumL ((partsOf seed l lo hi a n t).take (k - a)))) (leftOf seed l lo hi)
    (fun a t b h1 h2 => by omega)
    (fun a t b h1 h2 => by
      obtain rfl : k = a := by omega
      rw [downOf_end _ _ _ _ _ _ _ _ _ (by omega), partsOf_one, Nat.sub_self]; simp [sumL])
    (fun a n t hn i1 i2 b h1 h2 => ?_) n a n t (Nat.le_refl _)
  · exact key b h1 h2
  · have hlen := partsOf_len seed l lo hi a (n / 2) (leftOf seed l lo hi a n t)
    rw [partsOf_more _ _ _ _ _ _ _ hn]
    by_cases hk : k < a + n / 2
    · rw [downOf_left _ _ _ _ _ _ _ _ _ hn (by unfold toF; exact decide_eq_true (by omega)), i1 b h1 hk]
      rw [List.getD_eq_getElem?_getD, List.getD_eq_getElem?_getD, List.getElem?_append_left (by omega), List.take_append_of_le_length (by omega)]
    · rw [downOf_right _ _ _ _ _ _ _ _ _ hn (by unfold toF; exact decide_eq_false (by omega)), i2 _ (by omega) (by omega)]
      have htot := partsOf_tot seed l lo hi a (n / 2) (leftOf seed l lo hi a n t) (by omega)
      obtain ⟨P1, hP1⟩ : ∃ P1, P1 = partsOf seed l lo hi a (n / 2) (leftOf seed l lo hi a n t) := ⟨_, rfl⟩
      obtain ⟨P2, hP2⟩ : ∃ P2, P2 = partsOf seed l lo hi (a + n / 2) (n - n / 2) (t - leftOf seed l lo hi a n t) := ⟨_, rfl⟩
      rw [← hP1] at hlen htot ⊢
      rw [← hP2]
      have e1 : (P1 ++ P2).take (k - a) = P1 ++ P2.take (k - (a + n / 2)) := by
        rw [List.take_append, hlen, show P1.take (k - a) = P1 from List.take_of_length_le (by omega), show k - a - n / 2 = k - (a + n / 2) by omega]
      have e2 : (P1 ++ P2).getD (k - a) 0 = P2.getD (k - (a + n / 2)) 0 := by
        rw [List.getD_eq_getElem?_getD, List.getD_eq_getElem?_getD, List.getElem?_append_right (by omega), hlen, show k - a - n / 2 = k - (a + n / 2) by omega]
      rw [e1, e2, sumL_app, htot, Int.add_assoc]
/-- the way to a unit: it ends at a part that has it -/
theorem downOf_unit (seed : ByteArray) (l : List Int) (lo hi : Int) (x : Int) (a n : Nat) (t b : Int) (h0 : 1 ≤ n) (h1 : b ≤ x) (h2 : x < b + t) :
    ∃ k, a ≤ k ∧ k < a + n ∧ downOf seed l lo hi (findF x) a n t b = downOf seed l lo hi (toF k) a n t b ∧ b + sumL ((partsOf seed l lo hi a n t).take (k - a)) ≤ x ∧ x < b + sumL ((partsOf seed l lo hi a n t).take (k - a)) + (partsOf seed l lo hi a n t).getD (k - a) 0 := by
  have key := node_ind (C := fun a n t => ∀ b, 1 ≤ n → b ≤ x → x < b + t → ∃ k, a ≤ k ∧ k < a + n ∧ downOf seed l lo hi (findF x) a n t b = (k, 1, (partsOf seed l lo hi a n t).getD (k - a) 0, b + sumL ((partsOf seed l lo hi a n t).take (k - a))) ∧ b + sumL ((partsOf seed l lo hi a n t).take (k - a)) ≤ x ∧ x < b + sumL ((partsOf seed l lo hi a n t).take (k - a)) + (partsOf seed l lo hi a n t).getD (k - a) 0) (leftOf seed l lo hi)
    (fun a t b h0 h1 h2 => by omega)
    (fun a t b h0 h1 h2 => ⟨a, by omega, by omega, by rw [downOf_end _ _ _ _ _ _ _ _ _ (by omega), partsOf_one, Nat.sub_self]; simp [sumL], by rw [Nat.sub_self]; simp [sumL]; exact h1, by rw [Nat.sub_self, partsOf_one]; simp [sumL]; exact h2⟩)
    (fun a n t hn i1 i2 b h0 h1 h2 => ?_) n a n t (Nat.le_refl _)
  · obtain ⟨k, k1, k2, k3, k4, k5⟩ := key b h0 h1 h2
    exact ⟨k, k1, k2, by rw [k3, downOf_to _ _ _ _ _ _ _ _ _ k1 k2], k4, k5⟩
  · have hlen := partsOf_len seed l lo hi a (n / 2) (leftOf seed l lo hi a n t)
    have htot := partsOf_tot seed l lo hi a (n / 2) (leftOf seed l lo hi a n t) (by omega)
    rw [partsOf_more _ _ _ _ _ _ _ hn]
    by_cases hx : x < b + leftOf seed l lo hi a n t
    · obtain ⟨k, k1, k2, k3, k4, k5⟩ := i1 b (by omega) h1 hx
      refine ⟨k, k1, by omega, ?_, ?_, ?_⟩
      · rw [downOf_left _ _ _ _ _ _ _ _ _ hn (by unfold findF; exact decide_eq_true hx), k3]
        rw [List.getD_eq_getElem?_getD, List.getD_eq_getElem?_getD, List.getElem?_append_left (by omega), List.take_append_of_le_length (by omega)]
      · rw [List.take_append_of_le_length (by omega)]; exact k4
      · rw [List.getD_eq_getElem?_getD, List.getElem?_append_left (by omega), List.take_append_of_le_length (by omega), ← List.getD_eq_getElem?_getD]; exact k5
    · obtain ⟨k, k1, k2, k3, k4, k5⟩ := i2 (b + leftOf seed l lo hi a n t) (by omega) (by omega) (by omega)
      obtain ⟨P1, hP1⟩ : ∃ P1, P1 = partsOf seed l lo hi a (n / 2) (leftOf seed l lo hi a n t) := ⟨_, rfl⟩
      obtain ⟨P2, hP2⟩ : ∃ P2, P2 = partsOf seed l lo hi (a + n / 2) (n - n / 2) (t - leftOf seed l lo hi a n t) := ⟨_, rfl⟩
      rw [← hP1] at hlen htot ⊢
      rw [← hP2] at k3 k4 k5 ⊢
      have e1 : (P1 ++ P2).take (k - a) = P1 ++ P2.take (k - (a + n / 2)) := by
        rw [List.take_append, hlen, show P1.take (k - a) = P1 from List.take_of_length_le (by omega), show k - a - n / 2 = k - (a + n / 2) by omega]
      have e2 : (P1 ++ P2).getD (k - a) 0 = P2.getD (k - (a + n / 2)) 0 := by
        rw [List.getD_eq_getElem?_getD, List.getD_eq_getElem?_getD, List.getElem?_append_right (by omega), hlen, show k - a - n / 2 = k - (a + n / 2) by omega]
      refine ⟨k, by omega, by omega, ?_, ?_, ?_⟩
      · rw [downOf_right _ _ _ _ _ _ _ _ _ hn (by unfold findF; exact decide_eq_false hx), k3, e1, e2, sumL_app, htot, Int.add_assoc]
      · rw [e1, sumL_app, htot, ← Int.add_assoc]; exact k4
      · rw [e1, e2, sumL_app, htot, ← Int.add_assoc]; exact k5
/-- where no part is negative a unit is in one part alone -/
theorem unit_part : ∀ (P : List Int) (x : Int) (k j : Nat), (∀ y ∈ P, 0 ≤ y) → sumL (P.take k) ≤ x → x < sumL (P.take k) + P.getD k 0 → sumL (P.take j) ≤ x → x < sumL (P.take j) + P.getD j 0 → k = j
  | [], x, k, j, _, h1, h2, _, _ => by simp [sumL] at h1 h2; omega
  | p :: P, x, k, j, hp, h1, h2, h3, h4 => by
    have hs : ∀ m, 0 ≤ sumL (P.take m) := fun m => by
      have : ∀ Q : List Int, (∀ y ∈ Q, 0 ≤ y) → 0 ≤ sumL Q := fun Q => by
        induction Q with
        | nil => intro _; exact Int.le_refl _
        | cons q Q ih => intro h; have := h q (by simp); have := ih fun y hy => h y (by simp [hy]); rw [sumL]; omega
      exact this _ fun y hy => hp y (List.mem_cons_of_mem _ (List.mem_of_mem_take hy))
    rcases k with _ | k <;> rcases j with _ | j
    · rfl
    · simp only [List.take_zero, List.take_succ_cons, sumL, List.getD_cons_zero] at *
      have := hs j; omega
    · simp only [List.take_zero, List.take_succ_cons, sumL, List.getD_cons_zero] at *
      have := hs k; omega
    · simp only [List.take_succ_cons, sumL, List.getD_cons_succ] at *
      rw [unit_part P (x - p) k j (fun y hy => hp y (List.mem_cons_of_mem _ hy)) (by omega) (by omega) (by omega) (by omega)]
end Go.Proofs.YtfkpeabkcdhcfaaDoor
