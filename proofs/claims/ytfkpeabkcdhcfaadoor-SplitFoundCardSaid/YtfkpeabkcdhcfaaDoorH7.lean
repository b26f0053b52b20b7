/-
  Walk of hash.Of at the tag 8 and two texts: the first 16 bytes of the hash value; nothing that was there changes.
-/
import Derived.Test.YtfkpeabkcdhcfaaDoorB3
import Derived.Test.YtfkpeabkcdhcfaaDoorH6
import Derived.Deep.DeepCutAuto
import Derived.Deep.RegionWith
import Derived.Deep.DrawnRows
namespace Go.Proofs.YtfkpeabkcdhcfaaDoor
open Go.RowKit
set_option maxRecDepth 100000
/-- a new variable of the stream's type -/
def Z122 (w : World) (B : Nat) : Prop := w.heap[B]? = some (.cells Tryd.zeroCells122 122 (0, 0))
theorem Z122.new {W : World} {B : Nat} (h : W.heap.size = B) : Z122 (W.alloc (.cells Tryd.zeroCells122 122 (0, 0))) B := by
  subst h; exact heap_alloc_new _ _
theorem Z122.alloc {W : World} {B : Nat} {o : Obj} (h : Z122 W B) : Z122 (W.alloc o) B := (Below.heap_alloc _ _ _ (lt_of_block h)).trans h
theorem Z122.drew {W : World} {B : Nat} (h : Z122 W B) : Z122 W.drew B := h
theorem Z122.below {W W' : World} {B : Nat} (h : Z122 W B) (hb : Below W.heap.size W W') : Z122 W' B := (hb.block _ (lt_of_block h)).trans h
/-- the result's variable, ahead of all that the call does -/
def ResAt (w : World) (R : Array Value) (W : World) : Prop := Below w.heap.size w W ∧ W.heap[w.heap.size]? = some (.cells R 90 (0, 0))
theorem ResAt.new (w : World) (R : Array Value) : ResAt w R (w.alloc (.cells R 90 (0, 0))) := ⟨(Below.refl _ _).alloc (Nat.le_refl _) _, heap_alloc_new _ _⟩
theorem ResAt.alloc {w W : World} {R : Array Value} {o : Obj} (h : ResAt w R W) : ResAt w R (W.alloc o) := ⟨h.1.alloc (Nat.le_of_lt (lt_of_block h.2)) o, (Below.heap_alloc _ _ _ (lt_of_block h.2)).trans h.2⟩
theorem ResAt.drew {w W : World} {R : Array Value} (h : ResAt w R W) : ResAt w R W.drew := ⟨h.1.drew, h.2⟩
theorem ResAt.below {w W W' : World} {R : Array Value} (h : ResAt w R W) (hb : Below W.heap.size W W') : ResAt w R W' := ⟨h.1.trans (hb.mono (Nat.le_of_lt (lt_of_block h.2))), (hb.block _ (lt_of_block h.2)).trans h.2⟩
theorem ResAt.setRow {w W : World} {R : Array Value} (h : ResAt w R W) {B : Nat} (hB : w.heap.size < B) (cs : Array Value) : ResAt w R (W.setRow B cs) := ⟨below_setRow h.1 (Nat.le_of_lt hB) _, (setRow_other _ _ _ _ (by omega)).trans h.2⟩
theorem sz1 (w : World) (a : Obj) : (w.alloc a).heap.size = w.heap.size + 1 := by simp
theorem sz2 (w : World) (a b : Obj) : ((w.alloc a).alloc b).heap.size = w.heap.size + 1 + 1 := by simp
theorem store122 (w : World) (B : Nat) (S : Str) (hl : S.blk.length = 64) (h : Z122 w B) : (Instr.storeAt 122 (.pointer (some ⟨B, 0, none⟩)) (.agg (strm S))).run Tryd.prog w = .ok () (w.setRow B (strm S)) := by
  simp only [Instr.storeAt, Instr.sureAddr, Sem.run_bind, Sem.run_pure, Result.andThen_ok, run_storeVar_row w B 122 122 _ (strm S) h (by rw [strm_size S hl]; exact info122) (by rw [strm_size S hl]; rfl) (strm_one S)]
def tag8 : ByteArray := ⟨#[8]⟩
theorem feed0_len (l : List UInt8) : (feed str0 l).blk.length = 64 := by rw [feed_len]; rfl
/-- the first cell of a block of one byte -/
def C8 (w : World) (g : Nat) : Prop := w.cell? ⟨g, 0, none⟩ = some (.int .u8 (IntKind.u8.wrap 8))
theorem C8.new {W : World} {B : Nat} (h : W.heap.size = B) : C8 (W.alloc (.cells #[.int .u8 (IntKind.u8.wrap 8)] 5)) B := by
  subst h; exact cell_of_one (heap_alloc_new _ _)
theorem C8.alloc {W : World} {B : Nat} {o : Obj} (h : C8 W B) : C8 (W.alloc o) B := (World.cell?_alloc_lt _ _ _ (World.block_lt_of_cell? W _ h)).trans h
theorem C8.drew {W : World} {B : Nat} (h : C8 W B) : C8 W.drew B := h
theorem C8.below {W W' : World} {B : Nat} (h : C8 W B) (hb : Below W.heap.size W W') : C8 W' B := (hb.cell (p := ⟨B, 0, none⟩) (World.block_lt_of_cell? W _ h)).trans h
theorem C8.just (w : World) : C8 (w.alloc (.cells #[.int .u8 (IntKind.u8.wrap 8)] 5)) w.heap.size := C8.new rfl
theorem conv8 (w : World) (g : Nat) (h : C8 w g) : (convert 92 9 (.slice (some ⟨g, 0, none⟩) 1 1)).run Tryd.prog w = .ok (.string tag8) w :=
  run_convert_bytes_arg (P := Tryd.prog) w 92 5 Tryd.underlying92 Tryd.underlying5 g 0 1 1 [8] rfl (fun i hi => by
    obtain rfl : i = 0 := by omega
    exact h) 9 Tryd.underlying9
theorem store122f (w : World) (B : Nat) (l : List UInt8) (h : Z122 w B) : (storeCells ⟨B, 0, none⟩ (strm (feed str0 l)).toList).run Tryd.prog w = .ok () (w.setRow B (strm (feed str0 l))) := by
  have hs := strm_size (feed str0 l) (feed0_len l)
  have := run_storeCells_from (P := Tryd.prog) B 122 (strm (feed str0 l)).toList 0 Tryd.zeroCells122 w h (by simp [hs]) (fun v hv => (Array.all_eq_true_iff_forall_mem.1 (strm_one (feed str0 l))) v (by simpa using hv))
  rw [this]
  congr 2
/-- the encoding of a text -/
def encS (s : ByteArray) : List UInt8 := encInt s.size ++ s.data.toList
def preS (s1 s2 : ByteArray) : Nat → List UInt8
  | 0 => [8]
  | 1 => 8 :: encS s1
  | _ => 8 :: (encS s1 ++ encS s2)
theorem encS_len (s : ByteArray) (h : s.size ≤ 100000) : (encS s).length ≤ 100009 := by
  have := encInt_len (s.size : Int) (by omega)
  rw [encS, List.length_append, ← Lib.size_eq]; omega
theorem strmL_len (S : Str) (h : S.blk.length = 64) : (strmL S).length = 73 := strm_size S h
theorem strmL_one (S : Str) : ∀ v ∈ strmL S, v.oneCell' = true := fun v hv => (Array.all_eq_true_iff_forall_mem.1 (strm_one S)) v (by rw [strm]; simpa using hv)
theorem range_of_row {W : World} {B : Nat} {S : Str} (h : W.heap[B]? = some (.cells (strm S) 122 (0, 0))) : W.rangeAt B 0 (strmL S) := fun j v hv => by
  rw [Nat.zero_add, cell_of_row _ _ _ _ _ _ h, strm, List.getElem?_toArray]; exact hv
theorem there_of_row {W : World} {B : Nat} {S : Str} (h : W.heap[B]? = some (.cells (strm S) 122 (0, 0))) (hl : S.blk.length = 64) : W.there B 0 73 := fun j hj => by
  refine ⟨?_, frozen_of_row _ _ _ _ _ h⟩
  have hs := strm_size S hl
  rw [cell_of_row _ _ _ _ _ _ h, Array.getElem?_eq_getElem (show 0 + j < (strm S).size by omega)]; rfl
theorem range_below {W W' : World} {B : Nat} {cs : List Value} (h : W.rangeAt B 0 cs) (hb : Below W.heap.size W W') : W'.rangeAt B 0 cs := fun j v hv => by
  have := h j v hv
  exact (hb.cell (p := ⟨B, 0 + j, none⟩) (World.block_lt_of_cell? W _ this)).trans this
theorem there_below {W W' : World} {B n : Nat} (h : W.there B 0 n) (hb : Below W.heap.size W W') : W'.there B 0 n := fun j hj => by
  obtain ⟨h1, h2⟩ := h j hj
  obtain ⟨u, hu⟩ := Option.isSome_iff_exists.1 h1
  have hlt := World.block_lt_of_cell? W _ hu
  exact ⟨by rw [hb.cell (p := ⟨B, 0 + j, none⟩) hlt]; exact h1, by rw [hb.frozen (p := ⟨B, 0 + j, none⟩) hlt]; exact h2⟩
/-- the cells of a block -/
def rowOf (W : World) (B : Nat) : Array Value := match W.heap[B]? with | some (.cells cs _ _) => cs | _ => #[]
def Row73 (W : World) (B : Nat) : Prop := ∃ cs, W.heap[B]? = some (.cells cs 122 (0, 0)) ∧ cs.size = 73
theorem row_of {W : World} {B : Nat} {S : Str} (h : W.heap[B]? = some (.cells (strm S) 122 (0, 0))) : rowOf W B = strm S := by simp [rowOf, h]
theorem row73 {W : World} {B : Nat} {S : Str} (h : W.heap[B]? = some (.cells (strm S) 122 (0, 0))) (hl : S.blk.length = 64) : Row73 W B := ⟨_, h, strm_size S hl⟩
theorem load122r (W : World) (B : Nat) (h : Row73 W B) : (Instr.loadAt 122 (.pointer (some ⟨B, 0, none⟩))).run Tryd.prog W = .ok (.agg (rowOf W B)) W := by
  obtain ⟨cs, h1, h2⟩ := h
  have e : rowOf W B = cs := by simp [rowOf, h1]
  rw [e]
  simp only [Instr.loadAt, Instr.sureAddr, Sem.run_bind, Sem.run_pure, Result.andThen_ok, run_loadVar_row W B 122 122 cs (0, 0) _ h1 Tryd.underlying122 rfl (by rw [h2]; exact info122)]
theorem store122r (W : World) (B : Nat) (l : List UInt8) (h : Row73 W B) : (storeCells ⟨B, 0, none⟩ (strm (feed str0 l)).toList).run Tryd.prog W = .ok () (W.setRow B (strm (feed str0 l))) := by
  obtain ⟨cs, h1, h2⟩ := h
  have hs := strm_size (feed str0 l) (feed0_len l)
  have := run_storeCells_from (P := Tryd.prog) B 122 (strm (feed str0 l)).toList 0 cs W h1 (by simp [hs, h2]) (fun v hv => (Array.all_eq_true_iff_forall_mem.1 (strm_one (feed str0 l))) v (by simpa using hv))
  rw [this]
  congr 2
theorem Below.drew_l {B : Nat} {w w' : World} (h : Below B w.drew w') : Below B w w' := ⟨h.os, h.tape, h.output, h.size, h.block⟩
theorem ResAt.k {w W : World} {R : Array Value} (h : ResAt w R W) (h0 : 0 < w.heap.size) (hK : HoldK w) : HoldK W := fun j v hv => (h.1.cell (p := ⟨0, 0 + j, none⟩) h0).trans (hK j v hv)
theorem add_tag {w W : World} {R : Array Value} (h : ResAt w R W) (h0 : 0 < w.heap.size) (hK : HoldK w) : Calls Tryd.prog 98 #[.agg (strm str0), .string tag8] W fun e w' => e = .returned (.agg (strm (feed str0 [8]))) ∧ Below W.heap.size W w' :=
  add_any str0 rfl tag8 (by decide) W (by have := lt_of_block h.2; omega) (h.k h0 hK)
theorem tag_end {w W : World} {R : Array Value} (B : Nat) (hR : R.size = 16) (h : ResAt w R W) (hB : w.heap.size < B) (hz : Z122 W B) :
    w.heap.size < B ∧ (∃ R, R.size = 16 ∧ ResAt w R (W.setRow B (strm (feed str0 [8])))) ∧ (W.setRow B (strm (feed str0 [8]))).heap[B]? = some (.cells (strm (feed str0 [8])) 122 (0, 0)) :=
  ⟨hB, ⟨R, hR, h.setRow hB _⟩, setRow_heap _ _ _ _ _ _ hz⟩
theorem Z122.just (w : World) : Z122 (w.alloc (.cells Tryd.zeroCells122 122 (0, 0))) w.heap.size := heap_alloc_new _ _
theorem Z122.just2 (w : World) (a : Obj) : Z122 ((w.alloc a).alloc (.cells Tryd.zeroCells122 122 (0, 0))) (w.heap.size + 1) := Z122.new (by simp)
theorem Z122.just3 (w : World) (a b : Obj) : Z122 (((w.alloc a).alloc b).alloc (.cells Tryd.zeroCells122 122 (0, 0))) (w.heap.size + 1 + 1) := Z122.new (by simp)
theorem C8.just2 (w : World) (a : Obj) : C8 ((w.alloc a).alloc (.cells #[.int .u8 (IntKind.u8.wrap 8)] 5)) (w.heap.size + 1) := C8.new (by simp)
theorem C8.just3 (w : World) (a b : Obj) : C8 (((w.alloc a).alloc b).alloc (.cells #[.int .u8 (IntKind.u8.wrap 8)] 5)) (w.heap.size + 1 + 1) := C8.new (by simp)
theorem C8.just2d (w : World) (a : Obj) : C8 ((w.alloc a).alloc (.cells #[.int .u8 (IntKind.u8.wrap 8)] 5)).drew (w.heap.size + 1) := C8.just2 w a
theorem C8.just3d (w : World) (a b : Obj) : C8 (((w.alloc a).alloc b).alloc (.cells #[.int .u8 (IntKind.u8.wrap 8)] 5)).drew (w.heap.size + 1 + 1) := C8.just3 w a b
theorem C8.just4d (w : World) (a b : Obj) : C8 (((w.alloc a).alloc (.cells #[.int .u8 (IntKind.u8.wrap 8)] 5)).alloc b).drew (w.heap.size + 1) := C8.alloc (C8.just2 w a)
attribute [local go_sem] Z122.just Z122.just2 Z122.just3 C8.just C8.just2 C8.just3 C8.just2d C8.just3d C8.just4d
attribute [local go_sem low] Z122.alloc C8.alloc
attribute [local go_sem] conv8 store122f
theorem wbytes_enc (s : ByteArray) (h : s.size ≤ 100000) (w : World) : Calls Tryd.prog 99 #[.string s] w (RetB (encS s) w) := wbytes_any s (by omega) w
theorem row_set (W : World) (B : Nat) (S : Str) (h : Row73 W B) : (W.setRow B (strm S)).heap[B]? = some (.cells (strm S) 122 (0, 0)) := by
  obtain ⟨cs, h1, _⟩ := h
  exact setRow_heap _ _ _ _ _ _ h1
theorem Row73.later {W W' : World} {B : Nat} (h : Row73 W B) (hb : Below W.heap.size W W') : Row73 W' B := by
  obtain ⟨cs, h1, h2⟩ := h
  exact ⟨cs, (hb.block _ (lt_of_block h1)).trans h1, h2⟩
theorem add_row {w W : World} {R : Array Value} (h : ResAt w R W) (h0 : 0 < w.heap.size) (hK : HoldK w) (l m : List UInt8) (hlm : l.length + m.length ≤ 1000000) :
    Calls Tryd.prog 98 #[.agg (strm (feed str0 l)), .string ⟨m.toArray⟩] W fun e w' => e = .returned (.agg (strm (feed str0 (l ++ m)))) ∧ Below W.heap.size W w' := by
  have hn : (feed str0 l).n = l.length := by rw [feed_n]; simp [str0]
  have hs : (⟨m.toArray⟩ : ByteArray).size = m.length := rfl
  rw [feed_append]
  exact add_any (feed str0 l) (feed0_len l) ⟨m.toArray⟩ (by rw [hn, hs]; omega) W (by have := lt_of_block h.2; omega) (h.k h0 hK)
theorem preS_len (s1 s2 : ByteArray) (h1 : s1.size ≤ 100000) (h2 : s2.size ≤ 100000) (i : Nat) : (preS s1 s2 i).length ≤ 300000 := by
  have e1 := encS_len s1 h1
  have e2 := encS_len s2 h2
  match i with
  | 0 => simp [preS]
  | 1 => simp [preS]; omega
  | n + 2 => simp [preS]; omega
/-- a pointer to the head of a block of a stream -/
def RowV (W : World) : Value → Prop
  | .pointer (some ⟨B, 0, none⟩) => Row73 W B
  | _ => False
def rowOfV (W : World) : Value → Array Value
  | .pointer (some ⟨B, _, _⟩) => rowOf W B
  | _ => #[]
theorem RowV_ptr (W : World) (B : Nat) : RowV W (.pointer (some ⟨B, 0, none⟩)) = Row73 W B := rfl
theorem rowOfV_ptr (W : World) (B : Nat) : rowOfV W (.pointer (some ⟨B, 0, none⟩)) = rowOf W B := rfl
theorem wp_load122 (d : Option Tmp) (x : Operand) (t : TypeId) (p : String) (e : Array Edge) (g : Option (Nat × Bool)) (a : Act) (W : World) (K : Act → World → Prop) (Q : Exit → Act → World → Prop) (h : RowV W (a.eval x)) :
    Oper.wp Tryd.prog { dst := d, op := Op.load 122 x, type := t, pos := p, after := e, guard := g } a W K Q = K (a.put d (.agg (rowOfV W (a.eval x)))) W := by
  obtain ⟨v, hv⟩ : ∃ v, a.eval x = v := ⟨_, rfl⟩
  rw [hv] at h ⊢
  unfold Oper.wp execOp
  match v, h, hv with
  | .pointer (some ⟨B, 0, none⟩), h, hv =>
    have hr := load122r W B h
    simp only [Sem.run_bind, hv, hr, Result.andThen_ok, Sem.run_pure]
    rfl
theorem info90 : (Tryd.prog.info? 90).map (·.size) = some 16 := by kernel_rfl
/-- the first 16 bytes of a hash value -/
def digArr (s : S8) : Array Value := ((outL s 16).map u8v).toArray
theorem dig_size (s : S8) : (digArr s).size = 16 := by simp [digArr, outL_length]
theorem dig_one (s : S8) : (digArr s).all (fun x => x.oneCell') = true := by
  simp only [digArr, List.all_toArray, List.all_eq_true, List.mem_map]
  rintro x ⟨y, _, rfl⟩
  rfl
theorem out_range (W : World) (s : S8) {Z : Array Value} : ((W.alloc (.cells Z 126 (0, 0))).setRow W.heap.size (outArr s 32)).rangeAt W.heap.size 0 ((outL s 16).map u8v) := fun j v hv => by
  have hrow : ((W.alloc (.cells Z 126)).setRow W.heap.size (outArr s 32)).heap[W.heap.size]? = some (.cells (outArr s 32) 126 (0, 0)) := setRow_heap _ _ _ _ _ _ (heap_alloc_new _ _)
  have hj : j < 16 := by have := (List.getElem?_eq_some_iff.1 hv).1; simpa [outL_length] using this
  rw [Nat.zero_add, cell_of_row _ _ _ _ _ _ hrow, outArr, List.getElem?_toArray, List.getElem?_append_left (by simp [outL_length]; omega), ← hv]
  simp only [outL, List.map_map, List.getElem?_map, List.getElem?_range hj, List.getElem?_range (show j < 32 by omega)]
/-- the hash value of the tag 8 and two texts -/
def of8 (s1 s2 : ByteArray) : S8 := (feed (feed str0 (preS s1 s2 2)) (padL (feed str0 (preS s1 s2 2)).n)).s
attribute [local go_sem ↓] Go.wp_at_zero Go.wp_at_succ
attribute [local go_sem ↓] wp_load122
attribute [local go_sem] RowV_ptr rowOfV_ptr
theorem strm_size0 (l : List UInt8) : (strm (feed str0 l)).size = 73 := strm_size _ (feed0_len l)
attribute [local go_sem] store122r strm_size0
set_option maxHeartbeats 8000000 in
theorem of_any (gp : Nat) (s1 s2 : ByteArray) (h1 : s1.size ≤ 100000) (h2 : s2.size ≤ 100000) (w : World) (h0 : 0 < w.heap.size) (hK : HoldK w) (hg : gp < w.heap.size)
    (hc1 : w.cell? ⟨gp, 0, none⟩ = some (.string s1)) (hc2 : w.cell? ⟨gp, 1, none⟩ = some (.string s2)) :
    Calls Tryd.prog 71 #[.int .i64 8, .slice (some ⟨gp, 0, none⟩) 2 2] w fun e w' => e = .returned (.agg (digArr (of8 s1 s2))) ∧ Below w.heap.size w w' := by
  have HK := Lib.hid hK
  clear hK
  go_enter Tryd.func71, Tryd.ntmps71
  go_upto_region 1 with fail
  go_cut [5] (fun p wx => ∃ B5, p = .pointer (some ⟨B5, 0, none⟩) ∧ w.heap.size < B5 ∧ (∃ R, R.size = 16 ∧ ResAt w R wx) ∧ wx.heap[B5]? = some (.cells (strm (feed str0 [8])) 122 (0, 0)))
  case first =>
    go_region_with (first
      | (go_at_call 97; refine (begin_any _).mono ?_; rintro e wb ⟨rfl, hb⟩; (first | with_reducible have hrb := ResAt.below (ResAt.drew (ResAt.new w _)) hb | with_reducible have hrb := ResAt.below (ResAt.drew (ResAt.alloc (ResAt.new w _))) hb | with_reducible have hrb := ResAt.below (ResAt.drew (ResAt.alloc (ResAt.alloc (ResAt.new w _)))) hb); (try (with_reducible have hz1 : Z122 wb (w.heap.size + 1) := Z122.below (Z122.drew (Z122.new (sz1 _ _))) hb)); (try (with_reducible have hz1 : Z122 wb (w.heap.size + 1) := Z122.below (Z122.drew (Z122.alloc (Z122.new (sz1 _ _)))) hb)); (try (with_reducible have hz2 : Z122 wb (w.heap.size + 1 + 1) := Z122.below (Z122.drew (Z122.new (sz2 _ _ _))) hb)); (try (with_reducible have hy1 : C8 wb (w.heap.size + 1) := C8.below (C8.drew (C8.new (sz1 _ _))) hb)); (try (with_reducible have hy1 : C8 wb (w.heap.size + 1) := C8.below (C8.drew (C8.alloc (C8.new (sz1 _ _)))) hb)); (try (with_reducible have hy2 : C8 wb (w.heap.size + 1 + 1) := C8.below (C8.drew (C8.new (sz2 _ _ _))) hb)); have HB := Lib.hid hb; clear hb; have HRB := Lib.hid hrb; clear hrb)
      | (go_at_call 98; (first | (with_reducible refine (add_tag HRB.out h0 HK.out).mono ?_; rintro e w4 ⟨rfl, hb⟩; with_reducible have hr4 := ResAt.below HRB.out hb) | (with_reducible refine (add_tag (ResAt.alloc HRB.out) h0 HK.out).mono ?_; rintro e w4 ⟨rfl, hb⟩; with_reducible have hr4 := ResAt.below (ResAt.alloc HRB.out) hb) | (with_reducible refine (add_tag (ResAt.alloc (ResAt.alloc HRB.out)) h0 HK.out).mono ?_; rintro e w4 ⟨rfl, hb⟩; with_reducible have hr4 := ResAt.below (ResAt.alloc (ResAt.alloc HRB.out)) hb)); (try (with_reducible have hq1 : Z122 w4 (w.heap.size + 1) := Z122.below (hz1) hb)); (try (with_reducible have hq1 : Z122 w4 (w.heap.size + 1) := Z122.below (Z122.alloc hz1) hb)); (try (with_reducible have hq2 : Z122 w4 (w.heap.size + 1 + 1) := Z122.below (hz2) hb)); (try (with_reducible have hq2 : Z122 w4 (w.heap.size + 1 + 1) := Z122.below (Z122.alloc hz2) hb)); (try (with_reducible have hq3 : Z122 w4 (wb.heap.size) := Z122.below (Z122.new rfl) hb)); (try (with_reducible have hq3 : Z122 w4 (wb.heap.size) := Z122.below (Z122.alloc (Z122.new rfl)) hb)); (try (with_reducible have hq4 : Z122 w4 (wb.heap.size + 1) := Z122.below (Z122.new (sz1 _ _)) hb)); have HB4 := Lib.hid hb; have HR4 := Lib.hid hr4; clear hb hr4))
    all_goals (go_wp2_with fail; go_meet)
    all_goals
      have hw : w.heap.size < wb.heap.size := lt_of_block HRB.out.2
      have hw4 : w.heap.size < w4.heap.size := lt_of_block HR4.out.2
    all_goals first
      | exact ⟨_, rfl, tag_end w4.heap.size rfl (ResAt.alloc HR4.out) hw4 (Z122.new rfl)⟩
      | exact ⟨_, rfl, tag_end (w.heap.size + 1) rfl HR4.out (Nat.lt_succ_self _) hq1⟩
      | exact ⟨_, rfl, tag_end (w.heap.size + 1 + 1) rfl HR4.out (Nat.lt_succ_of_lt (Nat.lt_succ_self _)) hq2⟩
      | exact ⟨_, rfl, tag_end wb.heap.size rfl HR4.out hw hq3⟩
      | exact ⟨_, rfl, tag_end (wb.heap.size + 1) rfl HR4.out (Nat.lt_succ_of_lt hw) hq4⟩
  case rest =>
    obtain ⟨B5, rfl, hB5, ⟨R, hR, hres⟩, hbox⟩ := hcut
    go_wp2_with fail
    go_loopw [17] (fun c wr => ∃ i : Nat, i ≤ 2 ∧ c = .int .i64 i ∧ ResAt w R wr ∧ wr.heap[B5]? = some (.cells (strm (feed str0 (preS s1 s2 i))) 122 (0, 0))) (fun c _ => 2 - (intOf c).toNat)
    case atStart => exact ⟨0, by omega, rfl, hres, hbox⟩
    case round =>
      obtain ⟨i, hi, rfl, hr, hbx⟩ := hrel
      clear hres hbox
      have hd1 : wr.cell? ⟨gp, 0, none⟩ = some (.string s1) := (hr.1.cell (p := ⟨gp, 0, none⟩) hg).trans hc1
      have hd2 : wr.cell? ⟨gp, 1, none⟩ = some (.string s2) := (hr.1.cell (p := ⟨gp, 1, none⟩) hg).trans hc2
      have HR := Lib.hid hr
      have HBX := Lib.hid hbx
      clear hr hbx
      by_cases hlt : i < 2
      · obtain ⟨sx, hsx⟩ : ∃ sx, sx = if i = 0 then s1 else s2 := ⟨_, rfl⟩
        have hdx : wr.cell? ⟨gp, i, none⟩ = some (.string sx) := by
          rcases (show i = 0 ∨ i = 1 by omega) with rfl | rfl
          · rw [hsx]; exact hd1
          · rw [hsx]; exact hd2
        have hpre : preS s1 s2 (i + 1) = preS s1 s2 i ++ encS sx := by
          rcases (show i = 0 ∨ i = 1 by omega) with rfl | rfl <;> simp [preS, hsx]
        have hxs : sx.size ≤ 100000 := by rw [hsx]; split <;> assumption
        have HPre := Lib.hid hpre
        have hpl := preS_len s1 s2 h1 h2 i
        have hel := encS_len sx hxs
        clear hsx hd1 hd2 hpre
        obtain ⟨pl, hpl'⟩ : ∃ pl, pl = preS s1 s2 i := ⟨_, rfl⟩
        rw [← hpl'] at HBX hpl HPre
        clear hpl'
        have hrow0 : Row73 wr.drew B5 := row73 (W := wr.drew) HBX.out (feed0_len _)
        have hrow1 : rowOf wr.drew B5 = strm (feed str0 pl) := row_of (W := wr.drew) HBX.out
        go_wp2_with fail
        go_region_with (first
          | (go_at_call 99; refine (wbytes_enc sx hxs _).mono ?_; rintro e w5 ⟨g5, c5, rfl, hown5, hb5⟩; have hstr5 := hown5.string; have hbx5 := ((show Below wr.heap.size wr w5 from Below.drew_l hb5).block _ (lt_of_block HBX.out)).trans HBX.out; have hrow5 : Row73 w5 B5 := row73 hbx5 (feed0_len _); have hrow6 : rowOf w5 B5 = strm (feed str0 pl) := row_of hbx5; have HR5 := Lib.hid (HR.out.drew.below hb5); have HBX5 := Lib.hid hbx5; clear hown5 hb5 hbx5)
          | (go_at_call 98; with_reducible refine (add_row HR5.out h0 HK.out pl (encS sx) (by omega)).mono ?_; rintro e w6 ⟨rfl, hb6⟩; have hrow7 : Row73 w6 B5 := hrow5.later hb6; have HR6 := Lib.hid (HR5.out.below hb6); clear hb6))
        all_goals go_wp2
        all_goals
          go_roundw
          case rel =>
            refine ⟨i + 1, by omega, by go_num, HR6.out.setRow hB5 _, ?_⟩
            rw [HPre.out]
            exact row_set _ _ _ hrow7
          case measure => simp [intOf]; omega
      · obtain rfl : i = 2 := by omega
        have hrow0 : Row73 wr B5 := row73 HBX.out (feed0_len _)
        have hrow1 : rowOf wr B5 = strm (feed str0 (preS s1 s2 2)) := row_of HBX.out
        obtain ⟨S, hS⟩ : ∃ S, S = feed str0 (preS s1 s2 2) := ⟨_, rfl⟩
        have hSl : S.blk.length = 64 := by rw [hS]; exact feed0_len _
        have hSn : S.n ≤ 300000 := by
          rw [hS, feed_n]
          have := preS_len s1 s2 h1 h2 2
          show 0 + _ ≤ _
          omega
        rw [← hS] at hrow1
        have HS := Lib.hid hS
        clear hS hd1 hd2
        go_wp2_with fail
        refine (sum_any S hSl (by omega) _ (by have := lt_of_block HR.out.2; omega) (HR.out.k h0 HK.out)).mono ?_
        rintro e w7 ⟨rfl, hb7⟩
        have HR7 := Lib.hid (HR.out.below hb7)
        clear hb7
        obtain ⟨s, hs⟩ : ∃ s, s = (feed S (padL S.n)).s := ⟨_, rfl⟩
        rw [← hs]
        have HSS := Lib.hid hs
        clear hs
        have hA : ∀ (wx : World) (a : Option Addr) (cap : Nat), (Instr.arrayAt 90 (.slice a 16 cap)).run Tryd.prog wx = .ok (.pointer a) wx := fun wx a cap => run_arrayAt (P := Tryd.prog) (w := wx) 90 5 16 a 16 cap Tryd.underlying90 (by omega)
        have hre : ∀ Z : Array Value, ((w7.alloc (.cells Z 126)).setRow w7.heap.size (outArr s 32)).heap[w.heap.size]? = some (.cells R 90 (0, 0)) := fun Z => by
          have hlt := lt_of_block HR7.out.2
          rw [setRow_other _ _ _ _ (by omega), Below.heap_alloc _ _ _ hlt]; exact HR7.out.2
        have HRE := Lib.hid hre
        clear hre
        go_wp2_with (first
          | ((with_reducible show wpList _ _ _ ((⟨_, Op.store 126 (.tmp 8) _, _, _, _, _⟩ : Oper) :: _) _ _); refine wpList_store_row rfl 126 (.tmp 8) (.tmp 28) rfl _ _ rfl rfl _ _ (heap_alloc_new _ _) (by rw [outArr_size _ _ (Nat.le_refl _)]; exact info126) (by rw [outArr_size _ _ (Nat.le_refl _)]; rfl) (outArr_one _ _) ?_)
          | ((with_reducible show wpList _ _ _ ((⟨_, Op.load 90 _, _, _, _, _⟩ : Oper) :: _) _ _); refine wpList_load_mid rfl 90 (.tmp 30) rfl w7.heap.size 0 rfl ((outL s 16).map u8v) _ (out_range _ s) Tryd.underlying90 rfl (by rw [List.length_map, outL_length]; exact info90) ?_)
          | ((with_reducible show wpList _ _ _ ((⟨_, Op.store 90 (.tmp 4) _, _, _, _, _⟩ : Oper) :: _) _ _); refine wpList_store_row rfl 90 (.tmp 4) (.tmp 31) rfl _ (digArr s) rfl rfl _ _ (HRE.out _) (by rw [dig_size]; exact info90) (by rw [dig_size]; exact hR) (dig_one s) ?_))
        have hrow : (((w7.alloc (.cells z32 126)).setRow w7.heap.size (outArr s 32)).setRow w.heap.size (digArr s)).heap[w.heap.size]? = some (.cells (digArr s) 90 (0, 0)) := setRow_heap _ _ _ _ _ _ (HRE.out _)
        have hlt := lt_of_block HR7.out.2
        refine bodyPost_ret (v := .agg (digArr (of8 s1 s2))) (results_cell_row rfl _ _ w.heap.size _ _ _ _ rfl (by rw [of8, ← HS.out, ← HSS.out]; exact hrow) Tryd.underlying90 rfl (by rw [dig_size]; exact info90)) rfl ⟨rfl, ?_⟩
        exact below_setRow (below_setRow (HR7.out.1.alloc (Nat.le_of_lt hlt) _) (Nat.le_of_lt hlt) _) (Nat.le_refl _) _
end Go.Proofs.YtfkpeabkcdhcfaaDoor
