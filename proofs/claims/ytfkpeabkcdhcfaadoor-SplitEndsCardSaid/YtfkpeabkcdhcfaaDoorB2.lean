/-
  Walks of slices.Clone at integers and of wire.Bytes; nothing that was there changes.
-/
import Derived.Test.YtfkpeabkcdhcfaaDoorB1
namespace Go.Proofs.YtfkpeabkcdhcfaaDoor
open Go.RowKit
set_option maxRecDepth 100000
/-- a call that hands back a slice which owns the integers l -/
def RetI (l : List Int) (w : World) (e : Ending) (w' : World) : Prop := ∃ v, e = .returned v ∧ OwnI w.heap.size v l w' ∧ Below w.heap.size w w'
theorem CellsAt.alloc {w : World} {a : Addr} {l : List Value} (h : CellsAt w a l) (o : Obj) : CellsAt (w.alloc o) a l := fun j u hj => by
  have hc := h j u hj
  rw [World.cell?_alloc_lt _ _ _ (World.block_lt_of_cell? w _ hc)]; exact hc
theorem ownI_empty (base : Nat) (w : World) (hb : base ≤ w.heap.size) : OwnI base (.slice (some ⟨w.heap.size, 0, none⟩) 0 0) [] (w.alloc (.cells #[] 3)) :=
  ⟨rfl, .inr ⟨w.heap.size, 0, #[], rfl, hb, heap_alloc_new _ _, Nat.le_refl _, by unfold maxLen; omega, rfl, rfl⟩⟩
set_option maxHeartbeats 1000000 in
theorem clone_nil (w : World) : Calls Tryd.prog 73 #[.slice none 0 0] w (RetI [] w) := by
  have hq : ∀ (wx : World) (a : Option Addr) (n c : Nat), (binOp .eql 22 (.slice a n c) (.slice none 0 0)).run Tryd.prog wx = .ok (.bool a.isNone) wx := fun wx a n c => Lib.run_eql_slice_nil wx _ _ a n c 0 0 Tryd.underlying22
  go_enter Tryd.func73, Tryd.ntmps73
  go_wp2
  go_ret
  exact ⟨_, rfl, World.ownsRow_nil _ _ _ _, Below.refl _ _⟩
set_option maxHeartbeats 1000000 in
theorem clone_some (ad : Addr) (cap : Nat) (l : List Int) (hl : l.length ≤ 1000000) (w : World) (hc : CellsAt w ad (l.map (Value.int .i64))) : Calls Tryd.prog 73 #[.slice (some ad) l.length cap] w (RetI l w) := by
  have hq : ∀ (wx : World) (a : Option Addr) (n c : Nat), (binOp .eql 22 (.slice a n c) (.slice none 0 0)).run Tryd.prog wx = .ok (.bool a.isNone) wx := fun wx a n c => Lib.run_eql_slice_nil wx _ _ a n c 0 0 Tryd.underlying22
  have HC := Lib.hid hc
  clear hc
  go_enter Tryd.func73, Tryd.ntmps73
  go_wp2_with ((with_reducible show wpList _ _ _ ((⟨_, Op.call _, _, _, _, _⟩ : Oper) :: _) _ _); refine append_ints w.heap.size _ [] (ownI_empty w.heap.size w (Nat.le_refl _)) rfl (.tmp 5) (.tmp 6) rfl rfl l ad cap rfl (HC.out.alloc _) (by simp; omega) (by simp) w ((Below.refl _ _).alloc (Nat.le_refl _) _) ?_; intro v' w1 hown1 _ hb1; have HOwn1 := Lib.hid hown1; clear hown1)
  go_ret
  exact ⟨_, rfl, HOwn1.out, hb1⟩
/-- slices.Clone at integers -/
theorem clone_any (v : Value) (l : List Int) (hl : l.length ≤ 1000000) (w : World) (hr : ReadI v l w) : Calls Tryd.prog 73 #[v] w (RetI l w) := by
  rcases hr with ⟨rfl, rfl⟩ | ⟨ad, cap, rfl, hc⟩
  · exact clone_nil w
  · exact clone_some ad cap l hl w hc
theorem nd_le : ∀ (k m : Nat), m < 256 ^ k → nd m ≤ k := by
  intro k
  induction k with
  | zero => intro m h; have : m = 0 := by simpa using h
            subst this; unfold nd; simp
  | succ k ih =>
    intro m h
    unfold nd
    by_cases h0 : m = 0
    · rw [if_pos h0]; omega
    · rw [if_neg h0]
      have := ih (m / 256) (by rw [Nat.pow_succ] at h; omega)
      omega
theorem encInt_len (n : Int) (h : -9223372036854775808 ≤ n ∧ n < 9223372036854775808) : (encInt n).length ≤ 9 := by
  unfold encInt encOf
  have h8 : (256 : Nat) ^ 8 = 18446744073709551616 := by decide
  by_cases hn : 0 ≤ n
  · rw [if_pos hn]
    have := nd_le 8 n.toNat (by omega)
    simp [digs_length]; omega
  · rw [if_neg hn]
    have := nd_le 8 (-1 - n).toNat (by omega)
    simp [digs_length]; omega
set_option maxHeartbeats 1000000 in
theorem wbytes_any (s : ByteArray) (hs : s.size ≤ 1000000) (w : World) : Calls Tryd.prog 99 #[.string s] w (RetB (encInt s.size ++ s.data.toList) w) := by
  go_enter Tryd.func99, Tryd.ntmps99
  go_wp2_with fail
  refine (wint_any (s.size : Int) (by omega) (by omega) _).mono ?_
  rintro e w1 ⟨g, cap, rfl, hown, hb⟩
  have HOwn := Lib.hid hown
  clear hown
  have hlen : 0 < (encInt s.size).length := by
    unfold encInt encOf; split <;> simp
  have hle := encInt_len s.size (by omega)
  go_wp2_with ((with_reducible show wpList _ _ _ ((⟨_, Op.call _, _, _, _, _⟩ : Oper) :: _) _ _); refine append_str w.heap.size _ _ (encInt s.size).length rfl hlen HOwn.out rfl (.tmp 5) (.tmp 6) rfl rfl s rfl (by omega) hb.size w hb ?_; intro g' cap' w2 hown2 hb2; have HOwn2 := Lib.hid hown2; clear hown2)
  go_ret
  have el : (encInt (s.size : Int) ++ s.data.toList).length = (encInt (s.size : Int)).length + s.size := by rw [List.length_append, ← Lib.size_eq]
  refine ⟨g', cap', ?_, by rw [el]; exact HOwn2.out, hb2⟩
  rw [el]
  rfl
end Go.Proofs.YtfkpeabkcdhcfaaDoor
