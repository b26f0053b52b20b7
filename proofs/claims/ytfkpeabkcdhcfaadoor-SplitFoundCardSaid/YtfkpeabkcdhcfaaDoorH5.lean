/-
  Walk of hash.Begin: the empty stream.
-/
import Derived.Test.YtfkpeabkcdhcfaaDoorH4
namespace Go.Proofs.YtfkpeabkcdhcfaaDoor
open Go.RowKit
set_option maxRecDepth 100000
def iv : S8 := ⟨0x6a09e667, 0xbb67ae85, 0x3c6ef372, 0xa54ff53a, 0x510e527f, 0x9b05688c, 0x1f83d9ab, 0x5be0cd19⟩
def str0 : Str := ⟨iv, List.replicate 64 0, 0⟩
theorem begin_any (w : World) : Calls Tryd.prog 97 #[] w fun e w' => e = .returned (.agg (strm str0)) ∧ Below w.heap.size w w' := by
  go_enter Tryd.func97, Tryd.ntmps97
  go_wp2_with ((with_reducible show wpList _ _ _ ((⟨_, Op.store 122 (.tmp 0) _, _, _, _, _⟩ : Oper) :: _) _ _); go_loud (refine wpList_store_row rfl 122 (.tmp 0) (.tmp 2) rfl _ (strm str0) rfl rfl _ _ (heap_alloc_new _ _) (by rw [strm_size str0 rfl]; exact info122) (by rw [strm_size str0 rfl]; exact zero122) (strm_one str0) ?_))
  have hrow : ((w.alloc (.cells Tryd.zeroCells122 122)).setRow w.heap.size (strm str0)).heap[w.heap.size]? = some (.cells (strm str0) 122 (0, 0)) := setRow_heap _ _ _ _ _ _ (heap_alloc_new _ _)
  exact bodyPost_ret (v := .agg (strm str0)) (results_cell_row rfl _ _ w.heap.size _ _ _ _ rfl hrow Tryd.underlying122 rfl (by rw [strm_size str0 rfl]; exact info122)) rfl ⟨rfl, below_setRow ((Below.refl _ _).alloc (Nat.le_refl _) _) (Nat.le_refl _) _⟩
end Go.Proofs.YtfkpeabkcdhcfaaDoor
