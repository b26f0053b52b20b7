/-
  Walk of the iterator of places.
-/
import Derived.Test.YtfkpeabkcdhcfaaDoorM5
import Derived.RangeFuncBox
import Derived.RangeFuncNested
import Derived.RangeFuncBound
import Derived.RangeFuncCalls
import Derived.RangeFuncLeaves
import Derived.Shelf.Abstract
import Derived.Shelf.RegionOpen
import Derived.WalkKit
import Derived.OwnWalkIn
import Derived.TacticsInMore
import Derived.LoopNIn
import Derived.LoopIn
import Derived.Maps.AppendAt
namespace Go.Proofs.YtfkpeabkcdhcfaaDoor
open Go.RowKit Go.Shelf
attribute [local go_sem] Oper.semAt_some
/-- the first k places -/
noncomputable def upto (seed : ByteArray) (l : List Int) (n k : Nat) : List Int := (List.range k).map fun i => ((placeN seed l n i : Nat) : Int)
theorem upto_succ (seed : ByteArray) (l : List Int) (n k : Nat) : upto seed l n (k + 1) = upto seed l n k ++ [((placeN seed l n k : Nat) : Int)] := by simp [upto, List.range_succ]
theorem upto_le (seed : ByteArray) (l : List Int) (n : Nat) : ∀ d k, upto seed l n k <+: upto seed l n (k + d)
  | 0, k => List.prefix_refl _
  | d + 1, k => by
    have h := upto_le seed l n d k
    rw [show k + (d + 1) = (k + d) + 1 by omega, upto_succ]
    exact h.trans (List.prefix_append _ _)
theorem upto_prefix (seed : ByteArray) (l : List Int) (n k : Nat) (h : k < n) : (upto seed l n k ++ [((place (mixN (rndN seed l (bOf n)) (bOf n)) n k : Nat) : Int)]) <+: upto seed l n n := by
  have := upto_le seed l n (n - (k + 1)) (k + 1)
  rw [show k + 1 + (n - (k + 1)) = n by omega, upto_succ] at this
  exact this
theorem upto_length (seed : ByteArray) (l : List Int) (n k : Nat) : (upto seed l n k).length = k := by simp [upto]
/-- what a round of a loop over the places keeps: all that lay below n₀, and the boxes from lo on, below hi -/
structure Kept (n₀ lo hi : Nat) (W W' : World) : Prop where
  below : Below n₀ W W'
  box : ∀ b o, lo ≤ b → b < hi → W.heap[b]? = some o → W'.heap[b]? = some o
theorem Kept.trans {n₀ lo hi : Nat} {A B C : World} (h : Kept n₀ lo hi A B) (k : Kept n₀ lo hi B C) : Kept n₀ lo hi A C :=
  ⟨h.below.trans k.below, fun b o h1 h2 h3 => k.box b o h1 h2 (h.box b o h1 h2 h3)⟩
theorem Net.below {seed : ByteArray} {v : Value} {l : List Int} {n₀ : Nat} {w w' : World} (h : Net seed v l w) (h0 : w.heap.size = n₀) (hb : Below n₀ w w') : Net seed v l w' := h.later (h0 ▸ hb)
theorem cell_of_box {W : World} {b : Nat} {v : Value} {t : TypeId} (h : W.heap[b]? = some (.cells #[v] t (0, 0))) : W.cell? ⟨b, 0, none⟩ = some v := cell_of_row _ _ _ _ _ _ h
set_option maxRecDepth 100000 in
set_option maxHeartbeats 1000000 in
theorem places1_in (seed : ByteArray) (ad : Option Addr) (sn sc : Nat) (l : List Int) (n m : Nat) (hm : 1 ≤ m) (hn : n ≤ 65536) (lp Bn Bw lo hi : Nat) (hBn1 : lo ≤ Bn) (hBn2 : Bn < hi) (hBw1 : lo ≤ Bw) (hBw2 : Bw < hi) (wS : World) (hN : Net seed (.slice ad sn sc) l wS)
    (J Jx : List Int → World → Prop)
    (hY : ∀ pre x W, J pre W → pre.length < n → YieldAt Fence.wide (m - 1) Tryd.prog lp #[.int .i64 x] W fun e W' =>
      (e = .returned (.bool true) ∧ J (pre ++ [x]) W' ∧ Kept wS.heap.size lo hi W W') ∨ (e = .returned (.bool false) ∧ Jx (pre ++ [x]) W'))
    (W : World) (hW : Below wS.heap.size wS W) (hBn : W.heap[Bn]? = some (.cells #[.int .i64 n] 3 (0, 0))) (hBw : NetAt W Bw seed (.slice ad sn sc) (bOf n)) (hJ : AbidesFrom W.heap.size J) (h0 : J [] W) :
    CallsIn Fence.wide m Tryd.prog 95 #[.func (.yield lp) #[] #[], .pointer (some ⟨Bn, 0, none⟩), .pointer (some ⟨Bw, 0, none⟩)] W fun e W' => (∃ v, e = .returned v) ∧
      ((∃ ys, ys = upto seed l n n ∧ J ys W') ∨ (∃ pre, pre <+: upto seed l n n ∧ Jx pre W')) := by
  have hBn' := cell_of_box hBn
  refine callsIn_of_wp Tryd.func95 rfl trivial ?_ rfl
  simp only [Tryd.ntmps95, List.size_toArray, List.length_cons, List.length_nil, Nat.reduceAdd, Nat.reduceSub, Array.replicate_succ, Array.replicate_zero, List.push_toArray, List.append_toArray, List.nil_append, List.cons_append]
  gi_wp2
  gi_loopw [6] (fun c wr => ∃ k : Nat, k ≤ n ∧ c = .int .i64 k ∧ (Below wS.heap.size wS wr ∧ wr.heap[Bn]? = some (.cells #[.int .i64 n] 3 (0, 0)) ∧ NetAt wr Bw seed (.slice ad sn sc) (bOf n)) ∧ J (upto seed l n k) wr) (fun c _ => n - (intOf c).toNat)
  case atStart => exact ⟨0, by omega, rfl, ⟨hW, hBn, hBw⟩, h0⟩
  case round =>
    obtain ⟨k, hk, rfl, hb, hJs⟩ := hrel
    have hcn := cell_of_box hb.2.1
    have hnet := hb.2.2
    have hw0 : wr.cell? ⟨Bw, 0, none⟩ = some (.string seed) := cell_of_row _ _ _ _ _ _ hnet
    have hw1 : wr.cell? ⟨Bw, 1, none⟩ = some (.slice ad sn sc) := cell_of_row _ _ _ _ _ _ hnet
    have hw2 : wr.cell? ⟨Bw, 2, none⟩ = some (.int .i64 (bOf n : Nat)) := cell_of_row _ _ _ _ _ _ hnet
    have HB := Lib.hid hb
    have HJ := Lib.hid hJs
    have HJ0 := Lib.hid hJ
    clear hb hnet hJs hBn' hBn hBw hW hJ
    by_cases hlt : k < n
    · have hwalk := walk_mix seed (.slice ad sn sc) l (bOf n) n k (good_net seed l n) (big_net n hn) hlt wr (hN.later HB.out.1)
      have HWk := Lib.hid hwalk
      clear hwalk
      gi_wp2_with (refine ⟨trivial, ?_⟩; gi_at_call 74; refine (callsIn_wide.2 HWk.out).mono ?_; rintro e w2 ⟨rfl, hb2⟩; have HB2 := Lib.hid hb2; have hJ2 := HJ0.out _ wr w2 none HJ.out ⟨hb2.os, hb2.tape, hb2.output, hb2.size, fun k hk _ => hb2.block k hk⟩ (fun r e => by cases e); clear hb2; obtain ⟨fn, tmps, assign, body, hy, hR⟩ := hY _ ((place (mixN (rndN seed l (bOf n)) (bOf n)) n k : Nat) : Int) w2 hJ2 (by rw [upto_length]; exact hlt); have HJ2 := Lib.hid hJ2; clear hJ2)
      refine hR.mono ?_
      rintro e W3 (⟨rfl, hJ3, hk3⟩ | ⟨rfl, hJx3⟩)
      · have HJ3 := Lib.hid hJ3
        have HK3 := Lib.hid hk3
        clear hJ3 hk3
        gi_wp2
        go_roundw
        case rel =>
          refine ⟨k + 1, by omega, by go_num, ⟨(HB.out.1.trans (HB2.out.mono HB.out.1.size)).trans HK3.out.below, ?_, ?_⟩, by rw [upto_succ]; exact HJ3.out⟩
          · exact HK3.out.box _ _ hBn1 hBn2 ((HB2.out.block _ (lt_of_block HB.out.2.1)).trans HB.out.2.1)
          · exact HK3.out.box _ _ hBw1 hBw2 ((HB2.out.block _ (lt_of_block HB.out.2.2)).trans HB.out.2.2)
        case measure => simp [intOf]; omega
      · gi_wp2
        refine bodyPost_ret (results_none rfl _ _ _) rfl ?_
        exact ⟨⟨_, rfl⟩, .inr ⟨upto seed l n k ++ [((place (mixN (rndN seed l (bOf n)) (bOf n)) n k : Nat) : Int)], upto_prefix seed l n k hlt, hJx3⟩⟩
    · obtain rfl : k = n := by omega
      gi_wp2
      go_end0
      exact ⟨⟨_, rfl⟩, .inl ⟨_, rfl, HJ.out⟩⟩
end Go.Proofs.YtfkpeabkcdhcfaaDoor
