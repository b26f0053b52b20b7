/-
  Walks of places and of All: the places of all numbers, in a new slice; nothing that was there changes.
-/
import Derived.Test.YtfkpeabkcdhcfaaDoorP1
namespace Go.Proofs.YtfkpeabkcdhcfaaDoor
open Go.RowKit Go.Shelf
attribute [local go_sem] Oper.semAt_some
theorem kept_b {n₀ lo : Nat} {w : World} (hn : n₀ ≤ w.heap.size) (W : World) (l : Nat) (o o' : Obj) (hl : w.heap.size ≤ l) (h : W.heap[l]? = some o) (h1 : o.isCells = false) (h2 : o.isWalk = false) : Kept n₀ lo w.heap.size W (W.putObj l o') :=
  ⟨belowK_b hn W l o o' hl h h1 h2, fun b _ _ hb hx => ((belowK_b (n₀ := w.heap.size) (Nat.le_refl _) W l o o' hl h h1 h2).block b hb).trans hx⟩
theorem places_stops (seed : ByteArray) (ad : Option Addr) (sn sc : Nat) (l : List Int) (n m : Nat) (hm : 1 ≤ m) (hn : n ≤ 65536) (Bn Bw lo : Nat) (hBn1 : lo ≤ Bn) (hBw1 : lo ≤ Bw) (wS w : World) (hN : Net seed (.slice ad sn sc) l wS)
    (hw : Below wS.heap.size wS w) (hBn : w.heap[Bn]? = some (.cells #[.int .i64 n] 3 (0, 0))) (hBw : NetAt w Bw seed (.slice ad sn sc) (bOf n)) :
    SeqStopsK Fence.wide m Tryd.prog 95 #[.pointer (some ⟨Bn, 0, none⟩), .pointer (some ⟨Bw, 0, none⟩)] (fun x : Int => #[Value.int .i64 x]) (Kept wS.heap.size lo w.heap.size) (fun ys => ys = upto seed l n n) (fun pre => pre <+: upto seed l n n) n w :=
  fun lp J Jx W hW hJ _ hY h0 =>
    places1_in seed ad sn sc l n m hm hn lp Bn Bw lo w.heap.size hBn1 (lt_of_block hBn) hBw1 (lt_of_block hBw) wS hN J Jx hY W (hw.trans (hW.mono hw.size)) ((hW.block _ (lt_of_block hBn)).trans hBn) ((hW.block _ (lt_of_block hBw)).trans hBw) hJ h0
set_option maxHeartbeats 1000000 in
theorem places_in (seed : ByteArray) (ad : Option Addr) (sn sc b n : Nat) (w : World) :
    Calls Tryd.prog 67 #[.agg #[.string seed, .slice ad sn sc, .int .i64 b], .int .i64 n] w fun e w' => e = .returned (.func (.func 95) #[] #[.pointer (some ⟨w.heap.size + 1, 0, none⟩), .pointer (some ⟨w.heap.size, 0, none⟩)]) ∧
      w' = (w.alloc (.cells #[.string seed, .slice ad sn sc, .int .i64 b] 86)).alloc (.cells #[.int .i64 n] 3) := by
  go_enter Tryd.func67, Tryd.ntmps67
  go_wp2
  go_ret
  exact ⟨rfl, rfl⟩
end Go.Proofs.YtfkpeabkcdhcfaaDoor
