/-
  What the cards over both tables share.
-/
import Derived.Test.YtfkpeabkcdhcfaaDoorK
import Derived.Test.YtfkpeabkcdhcfaaDoorZ3
import Derived.LaidSub
namespace Go.Proofs.YtfkpeabkcdhcfaaDoor
open Go.ChangeShapes Go.WideShapes Go.ChangeAt Go.RowKit
set_option maxRecDepth 100000
theorem gTab1 : Tryd.prog.globalNamed "diorama/dioramaref02.constants" = some 1 := by kernel_rfl
theorem gTabType1 : (Tryd.prog.globals[1]?).map (·.type) = some 138 := by kernel_rfl
theorem holdK2_of_tab {W : World} (h : Lib.TabIs Tryd.prog W "diorama/dioramaref02.constants" .u32 kz) : HoldK2 W ∧ 1 < W.heap.size := by
  have hc : ∀ i, i < kz.length → W.cell? ⟨1, i, none⟩ = some (.int .u32 (kz.getD i 0)) := fun i hi => h.cell gTab1 i hi
  refine ⟨fun j v hv => ?_, World.block_lt_of_cell? W _ (hc 0 (by decide))⟩
  rw [List.getElem?_map] at hv
  obtain ⟨x, hx, rfl⟩ := Option.map_eq_some_iff.1 hv
  have hj : j < ks.length := (List.getElem?_eq_some_iff.1 hx).1
  rw [Nat.zero_add, hc j (by simpa [kz] using hj)]
  simp [kz, hx, u32v]
theorem holdK_two {W : World} (h : laidMet Tryd.prog [("diorama/dioramaref02.constants", Lib.tabData .u32 kz), ("diorama/hash.constants", Lib.tabData .u32 kz)] W) : HoldK W ∧ 0 < W.heap.size ∧ HoldK2 W ∧ 1 < W.heap.size := by
  have h2 := holdK2_of_tab (Lib.tabIs_of_head (rest := [("diorama/hash.constants", Lib.tabData .u32 kz)]) gTab1 gTabType1 Tryd.underlying138 Tryd.underlying117 cells117 cells138 h)
  have hf := h.filter (fun x => x.1 == "diorama/hash.constants")
  have h1 := holdK_head (rest := []) (W := W) (by simpa using hf)
  exact ⟨h1.1, h1.2, h2.1, h2.2⟩
section
variable {H : Type} {enc : TypeId × Value → H}
theorem open_arg_cap {r : Reach} {b0 : Nat} {v : Value} {d : DataW H} {p : List MemPlace} {W : World} (hval : Value.okWide Tryd.prog W r b0 22 v) (h : DataW.Trod enc Tryd.prog W 0 (fun _ => true) true 22 v d p) : CapOk v := by
  obtain ⟨fuel, hf⟩ := h
  obtain ⟨a0, n0, c0, rfl⟩ := okWide_slice Tryd.underlying22 hval
  rcases open_ints Tryd.underlying22 Tryd.underlying3 cells3 hf with ⟨hcs, _⟩ | ⟨a, len, cap, zs, hcs, _, hl, hm, hz, _, hcell, hwz⟩
  · have hv : Value.slice a0 n0 c0 = .slice none 0 0 := by simpa [Value.cells] using hcs
    intro ad n c h
    rw [hv] at h
    simp only [Value.slice.injEq] at h
    omega
  · have hv : Value.slice a0 n0 c0 = .slice (some a) len cap := by simpa [Value.cells] using hcs
    intro ad n c h
    rw [hv] at h
    simp only [Value.slice.injEq] at h
    omega
end
end Go.Proofs.YtfkpeabkcdhcfaaDoor
