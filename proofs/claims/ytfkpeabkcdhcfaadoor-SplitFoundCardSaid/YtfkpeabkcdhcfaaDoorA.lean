/-
  Laws for the walks: an append to a slice of bytes or of integers that the call owns, the world behind it told by 'Below' and by what is owned; an append of two sources, or more.
-/
import Derived.Test.YtfkpeabkcdhcfaaDoorH4
import Derived.Maps.AppendAt
import Derived.RangeFuncBox
import Derived.Laws.AppendOwnNone
import Derived.Lib.AppendStr
namespace Go.Proofs.YtfkpeabkcdhcfaaDoor
open Go.RowKit

/-- the slice value v owns the bytes l, in a row of the call's own blocks (from base on) -/
def OwnB (base : Nat) (v : Value) (l : List UInt8) (w : World) : Prop := w.ownsRow base 5 1 v l.length (l.map u8v)
def OwnI (base : Nat) (v : Value) (l : List Int) (w : World) : Prop := w.ownsRow base 3 1 v l.length (l.map (Value.int .i64))
theorem infoB : (Tryd.prog.info? 5).map (fun i => (i.zero, i.size, i.bytes)) = some (some (.int .u8 0), 1, 1) := by kernel_rfl
theorem infoI : (Tryd.prog.info? 3).map (fun i => (i.zero, i.size, i.bytes)) = some (some (.int .i64 0), 1, 8) := by kernel_rfl
theorem own_row_le {w : World} {base e size n : Nat} {v : Value} {xs : List Value} (h : w.ownsRow base e size v n xs) : ∀ k, v.ownBlock = some k → base ≤ k := by
  intro k hk
  rcases h.2 with ⟨rfl, _⟩ | ⟨g, cap, cur, rfl, hb, _⟩
  · cases hk
  · simp [Value.ownBlock] at hk; omega
/-- the cells from an address on -/
def CellsAt (w : World) (a : Addr) (l : List Value) : Prop := ∀ j u, l[j]? = some u → w.cell? (a.add j) = some u
theorem append_bytes {ops : Array Oper} {rest : List Oper} {o : Oper} {A : Act} {Q : Exit → Act → World → Prop} {w : World} (base : Nat) (v : Value) (l : List UInt8) (n : Nat) (hn : l.length = n) (hown : OwnB base v l w) (hgd : o.guard = none) (x y : Operand)
    (ho : o.op = .call { callee := .builtin .append, args := #[x, y], argTypes := #[92, 92] }) (hx : A.eval x = v) (news : List UInt8) (ad : Addr) (c : Nat) (hy : A.eval y = .slice (some ad) news.length c)
    (hcells : CellsAt w ad (news.map u8v)) (hne : 0 < news.length) (hbd : l.length + news.length ≤ 1099511627776) (hbase : base ≤ w.heap.size) (W0 : World) (hb : Below base W0 w)
    (h : ∀ g cap w1, OwnB base (.slice (some ⟨g, 0, none⟩) (n + news.length) cap) (l ++ news) w1 → Below base W0 w1 → wpList Tryd.prog ops Q rest (A.put o.dst (.slice (some ⟨g, 0, none⟩) (n + news.length) cap)) w1) :
    wpList Tryd.prog ops Q (o :: rest) A w := by
  subst hn
  obtain ⟨i0, hi, hz0, hz1, hz2⟩ := info_parts infoB
  refine wpList_append_own _ hgd x y 92 ho base 5 i0 (.int .u8 0) 1 1 Tryd.underlying92 hi hz0 hz1 hz2 rfl (by decide) v l.length (l.map u8v) hx hown ad news.length c (news.map u8v) hy (by simp) hcells ?_ (by unfold maxLen; omega) (by omega) hbase ?_
  · intro u hu
    simp only [List.mem_map] at hu
    obtain ⟨b, _, rfl⟩ := hu
    rfl
  · intro v' w1 hown' hgrow _
    obtain ⟨m, hm⟩ : ∃ m, l.length + news.length = m + 1 := ⟨l.length + news.length - 1, by omega⟩
    have hs := hown'
    rw [hm] at hs
    obtain ⟨g, cap, rfl⟩ := ownsRow_succ hs
    rw [← hm]
    refine h g cap w1 ?_ (hb.grown hgrow hbase (own_row_le hown))
    rw [← hm] at hown'
    show w1.ownsRow base 5 1 _ (l ++ news).length ((l ++ news).map u8v)
    rw [List.length_append, List.map_append]
    exact hown'
/-- 'append(v, c)': the byte lies in a new block of one cell -/
theorem append_byte {ops : Array Oper} {rest : List Oper} {o : Oper} {A : Act} {Q : Exit → Act → World → Prop} {w : World} (base : Nat) (v : Value) (l : List UInt8) (n : Nat) (hn : l.length = n) (hown : OwnB base v l w) (hgd : o.guard = none) (x y : Operand)
    (ho : o.op = .call { callee := .builtin .append, args := #[x, y], argTypes := #[92, 92] }) (hx : A.eval x = v) (c : UInt8) (ci : Int) (hci : ci = (c.toNat : Int)) (hy : A.eval y = .slice (some ⟨w.heap.size, 0, none⟩) 1 1)
    (hbd : l.length + 1 ≤ 1099511627776) (hbase : base ≤ w.heap.size) (W0 : World) (hb : Below base W0 w)
    (h : ∀ g cap w1, OwnB base (.slice (some ⟨g, 0, none⟩) (n + 1) cap) (l ++ [c]) w1 → Below base W0 w1 → wpList Tryd.prog ops Q rest (A.put o.dst (.slice (some ⟨g, 0, none⟩) (n + 1) cap)) w1) :
    wpList Tryd.prog ops Q (o :: rest) A (w.alloc (.cells #[.int .u8 ci] 5)) := by
  subst hci
  exact append_bytes base v l n hn (World.ownsRow.alloc hown _) hgd x y ho hx [c] ⟨w.heap.size, 0, none⟩ 1 hy (cell_one_new w _ 5) (by simp) hbd (by simp; omega) W0 (hb.alloc hbase _) h
theorem own_new (base : Nat) (w : World) (hb : base ≤ w.heap.size) (c : UInt8) : OwnB base (.slice (some ⟨w.heap.size, 0, none⟩) 1 1) [c] (w.alloc (.cells #[.int .u8 (c.toNat : Int)] 5)) :=
  ⟨rfl, .inr ⟨w.heap.size, 1, #[u8v c], rfl, hb, heap_alloc_new _ _, Nat.le_refl _, by unfold maxLen; omega, rfl, rfl⟩⟩
theorem own_new' (base : Nat) (w : World) (H : Nat) (hH : w.heap.size = H) (hb : base ≤ H) (c : UInt8) (ci : Int) (hci : ci = (c.toNat : Int)) : OwnB base (.slice (some ⟨H, 0, none⟩) 1 1) [c] (w.alloc (.cells #[.int .u8 ci] 5)) := by
  subst hH hci
  exact own_new base w hb c
theorem OwnB.cell {base g n cap : Nat} {l : List UInt8} {w : World} (h : OwnB base (.slice (some ⟨g, 0, none⟩) n cap) l w) (i : Nat) (hi : i < l.length) : w.cell? ⟨g, i, none⟩ = some (.int .u8 ((l.getD i 0).toNat : Int)) := by
  have hc := World.ownsRow.cells h (g := g) rfl i (.int .u8 ((l.getD i 0).toNat : Int)) (by simp [List.getElem?_eq_getElem hi, u8v])
  rw [Addr.add_mid, Nat.zero_add] at hc
  exact hc
theorem OwnB.len {base g n cap : Nat} {l : List UInt8} {w : World} (h : OwnB base (.slice (some ⟨g, 0, none⟩) n cap) l w) : n = l.length := by
  rcases h.2 with ⟨h, _⟩ | ⟨g', cap', cur, h, _⟩
  · cases h
  · simp only [Value.slice.injEq] at h; exact h.2.1
/-- 'string(v)' -/
theorem OwnB.string {base g n cap : Nat} {l : List UInt8} {w : World} (h : OwnB base (.slice (some ⟨g, 0, none⟩) n cap) l w) : (convert 92 9 (.slice (some ⟨g, 0, none⟩) n cap)).run Tryd.prog w = .ok (.string ⟨l.toArray⟩) w := by
  have hn := h.len
  have hr := run_convert_bytes_arg (P := Tryd.prog) w 92 5 Tryd.underlying92 Tryd.underlying5 g 0 n cap (l.map fun c => (c.toNat : Int)) (by simp [hn]) (fun i hi => by
    rw [Nat.zero_add, h.cell i (by omega)]
    simp [List.getElem?_eq_getElem (show i < l.length by omega)]) 9 Tryd.underlying9
  rw [hr]
  have e : strOfNums (l.map fun c => (c.toNat : Int)) = ⟨l.toArray⟩ := by
    unfold strOfNums
    rw [List.map_map]
    have : l.map ((fun n : Int => UInt8.ofNat n.toNat) ∘ fun c : UInt8 => (c.toNat : Int)) = l := by
      conv => rhs; rw [← List.map_id l]
      apply List.map_congr_left
      intro c _
      simp
    rw [this]
  rw [e]
/-- 'append(v, s...)', s a string -/
theorem append_str {ops : Array Oper} {rest : List Oper} {o : Oper} {A : Act} {Q : Exit → Act → World → Prop} {w : World} (base : Nat) (v : Value) (l : List UInt8) (n : Nat) (hn : l.length = n) (h0 : 0 < n) (hown : OwnB base v l w) (hgd : o.guard = none) (x y : Operand)
    (ho : o.op = .call { callee := .builtin .append, args := #[x, y], argTypes := #[92, 9] }) (hx : A.eval x = v) (s : ByteArray) (hy : A.eval y = .string s)
    (hbd : n + s.size ≤ 1099511627776) (hbase : base ≤ w.heap.size) (W0 : World) (hb : Below base W0 w)
    (h : ∀ g cap w1, OwnB base (.slice (some ⟨g, 0, none⟩) (n + s.size) cap) (l ++ s.data.toList) w1 → Below base W0 w1 → wpList Tryd.prog ops Q rest (A.put o.dst (.slice (some ⟨g, 0, none⟩) (n + s.size) cap)) w1) :
    wpList Tryd.prog ops Q (o :: rest) A w := by
  subst hn
  obtain ⟨i0, hi, hz0, hz1, hz2⟩ := info_parts infoB
  refine Lib.wpList_append_own_string w hgd x y 92 9 ho base 5 i0 Tryd.underlying92 Tryd.underlying9 hi hz0 hz1 hz2 v l.length (l.map u8v) hx hown s hy (by unfold maxLen; omega) (by omega) hbase ?_
  intro v' w' hown' hgrow _
  obtain ⟨m, hm⟩ : ∃ m, l.length + s.size = m + 1 := ⟨l.length + s.size - 1, by omega⟩
  have hs := hown'
  rw [hm] at hs
  obtain ⟨g, cap, rfl⟩ := ownsRow_succ hs
  rw [← hm]
  refine h g cap w' ?_ (hb.grown hgrow hbase (own_row_le hown))
  rw [← hm] at hown'
  show w'.ownsRow base 5 1 _ (l ++ s.data.toList).length ((l ++ s.data.toList).map u8v)
  rw [List.length_append, List.map_append, ← Lib.size_eq]
  exact hown'
/-- 'append(v, xs...)' at integers -/
theorem append_ints {ops : Array Oper} {rest : List Oper} {o : Oper} {A : Act} {Q : Exit → Act → World → Prop} {w : World} (base : Nat) (v : Value) (l : List Int) (hown : OwnI base v l w) (hgd : o.guard = none) (x y : Operand)
    (ho : o.op = .call { callee := .builtin .append, args := #[x, y], argTypes := #[22, 22] }) (hx : A.eval x = v) (news : List Int) (ad : Addr) (c : Nat) (hy : A.eval y = .slice (some ad) news.length c)
    (hcells : CellsAt w ad (news.map (Value.int .i64))) (hbd : l.length + news.length ≤ 1099511627776) (hbase : base ≤ w.heap.size) (W0 : World) (hb : Below base W0 w)
    (h : ∀ v' w1, OwnI base v' (l ++ news) w1 → (v' = .slice none 0 0 ↔ v = .slice none 0 0 ∧ news.length = 0) → Below base W0 w1 → wpList Tryd.prog ops Q rest (A.put o.dst v') w1) :
    wpList Tryd.prog ops Q (o :: rest) A w := by
  obtain ⟨i0, hi, hz0, hz1, hz2⟩ := info_parts infoI
  refine wpList_append_own _ hgd x y 22 ho base 3 i0 (.int .i64 0) 1 8 Tryd.underlying22 hi hz0 hz1 hz2 rfl (by decide) v l.length (l.map (Value.int .i64)) hx hown ad news.length c (news.map (Value.int .i64)) hy (by simp) hcells ?_ (by unfold maxLen; omega) (by omega) hbase ?_
  · intro u hu
    simp only [List.mem_map] at hu
    obtain ⟨b, _, rfl⟩ := hu
    rfl
  · intro v' w1 hown' hgrow hnil
    refine h v' w1 ?_ hnil (hb.grown hgrow hbase (own_row_le hown))
    show w1.ownsRow base 3 1 _ (l ++ news).length ((l ++ news).map (Value.int .i64))
    rw [List.length_append, List.map_append]
    exact hown'
theorem OwnI.shape {base : Nat} {v : Value} {l : List Int} {w : World} (h : OwnI base v l w) (hl : 0 < l.length) : ∃ g cap, v = .slice (some ⟨g, 0, none⟩) l.length cap := by
  obtain ⟨m, hm⟩ : ∃ m, l.length = m + 1 := ⟨l.length - 1, by omega⟩
  have hs : w.ownsRow base 3 1 v l.length (l.map (Value.int .i64)) := h
  rw [hm] at hs ⊢
  exact ownsRow_succ hs
theorem OwnI.len {base g n cap : Nat} {l : List Int} {w : World} (h : OwnI base (.slice (some ⟨g, 0, none⟩) n cap) l w) : n = l.length := by
  rcases h.2 with ⟨h, _⟩ | ⟨g', cap', cur, h, _⟩
  · cases h
  · simp only [Value.slice.injEq] at h; exact h.2.1
theorem OwnI.cell {base g n cap : Nat} {l : List Int} {w : World} (h : OwnI base (.slice (some ⟨g, 0, none⟩) n cap) l w) (i : Nat) (hi : i < l.length) : w.cell? ⟨g, i, none⟩ = some (.int .i64 (l.getD i 0)) := by
  have hc := World.ownsRow.cells h (g := g) rfl i (.int .i64 (l.getD i 0)) (by simp [List.getElem?_eq_getElem hi])
  rw [Addr.add_mid, Nat.zero_add] at hc
  exact hc
/-- a slice value that reads as a list of integers, nil where it is none -/
def ReadI (v : Value) (l : List Int) (w : World) : Prop := (v = .slice none 0 0 ∧ l = []) ∨ ∃ ad cap, v = .slice (some ad) l.length cap ∧ CellsAt w ad (l.map (Value.int .i64))
end Go.Proofs.YtfkpeabkcdhcfaaDoor
