/-
  Walk of hash.compress: the hash value behind a block, for every hash value and every 64 bytes that a slice shows; nothing that was there changes. It reads the round constants.
-/
import Derived.Test.YtfkpeabkcdhcfaaDoorH2
import Derived.Deep.MidRow
import Derived.Deep.RegionHeld3
import Derived.Deep.DeepCutAuto
namespace Go.Proofs.YtfkpeabkcdhcfaaDoor
open Go.RowKit
set_option maxRecDepth 100000
def st8 (s0 s1 s2 s3 s4 s5 s6 s7 : UInt32) : Array Value := #[u32v s0, u32v s1, u32v s2, u32v s3, u32v s4, u32v s5, u32v s6, u32v s7]
def st4 (s0 s1 s2 s3 : UInt32) : Array Value := #[u32v s0, u32v s1, u32v s2, u32v s3]
/-- the eight words between two rounds -/
structure S8 where
  a : UInt32
  b : UInt32
  c : UInt32
  d : UInt32
  e : UInt32
  f : UInt32
  g : UInt32
  h : UInt32
def rndX (k wt : UInt32) (s : S8) : UInt32 := s.h + mix3 6 11 25 s.e + ((s.e &&& s.f) ^^^ (~~~s.e &&& s.g)) + k + wt
def rndY (s : S8) : UInt32 := mix3 2 13 22 s.a + ((s.a &&& s.b) ^^^ (s.a &&& s.c) ^^^ (s.b &&& s.c))
def rnd (k wt : UInt32) (s : S8) : S8 := ⟨rndX k wt s + rndY s, s.a, s.b, s.c, s.d + rndX k wt s, s.e, s.f, s.g⟩
/-- the round constants -/
def ks : List UInt32 := [0x428a2f98, 0x71374491, 0xb5c0fbcf, 0xe9b5dba5, 0x3956c25b, 0x59f111f1, 0x923f82a4, 0xab1c5ed5,
    0xd807aa98, 0x12835b01, 0x243185be, 0x550c7dc3, 0x72be5d74, 0x80deb1fe, 0x9bdc06a7, 0xc19bf174,
    0xe49b69c1, 0xefbe4786, 0x0fc19dc6, 0x240ca1cc, 0x2de92c6f, 0x4a7484aa, 0x5cb0a9dc, 0x76f988da,
    0x983e5152, 0xa831c66d, 0xb00327c8, 0xbf597fc7, 0xc6e00bf3, 0xd5a79147, 0x06ca6351, 0x14292967,
    0x27b70a85, 0x2e1b2138, 0x4d2c6dfc, 0x53380d13, 0x650a7354, 0x766a0abb, 0x81c2c92e, 0x92722c85,
    0xa2bfe8a1, 0xa81a664b, 0xc24b8b70, 0xc76c51a3, 0xd192e819, 0xd6990624, 0xf40e3585, 0x106aa070,
    0x19a4c116, 0x1e376c08, 0x2748774c, 0x34b0bcb5, 0x391c0cb3, 0x4ed8aa4a, 0x5b9cca4f, 0x682e6ff3,
    0x748f82ee, 0x78a5636f, 0x84c87814, 0x8cc70208, 0x90befffa, 0xa4506ceb, 0xbef9a3f7, 0xc67178f2]
def rounds (ws : List UInt32) (s : S8) : Nat → S8
  | 0 => s
  | t + 1 => rnd (ks.getD t 0) (ws.getD t 0) (rounds ws s t)
def S8.v (s : S8) : Array Value := st4 s.a s.b s.c s.d
def S8.w (s : S8) : Array Value := st4 s.e s.f s.g s.h
def S8.all (s : S8) : Array Value := st8 s.a s.b s.c s.d s.e s.f s.g s.h
def HoldK (w : World) : Prop := w.rangeAt 0 0 (ks.map u32v)
structure HoldC (w : World) (bs : Nat → UInt8) (sv : Array Value) (Bw Bv Be : Nat) (v e : Array Value) (wx : World) : Prop where
  box : wx.heap[w.heap.size]? = some (.cells sv 118 (0, 0))
  res : wx.heap[w.heap.size + 1]? = some (.cells (st8 0 0 0 0 0 0 0 0) 118 (0, 0))
  ww : wx.heap[Bw]? = some (.cells (schedArr bs 64) 138 (0, 0))
  vv : wx.heap[Bv]? = some (.cells v 140 (0, 0))
  ee : wx.heap[Be]? = some (.cells e 140 (0, 0))
  hw : w.heap.size + 1 < Bw
  hv : w.heap.size + 1 < Bv
  he : w.heap.size + 1 < Be
  hwv : Bw ≠ Bv
  hwe : Bw ≠ Be
  hve : Bv ≠ Be
  below : Below w.heap.size w wx
theorem HoldC.e_set {w : World} {bs : Nat → UInt8} {sv : Array Value} {Bw Bv Be : Nat} {v e : Array Value} {wx : World} (h : HoldC w bs sv Bw Bv Be v e wx) (n : Nat) (e' : Array Value) :
    HoldC w bs sv Bw Bv Be v e' ((wx.drewN n).setRow Be e') := by
  obtain ⟨h1, h2, h3, h4, h5, h6, h7, h8, h9, h10, h11, h12⟩ := h
  exact ⟨(setRow_other _ _ _ _ (by omega)).trans h1, (setRow_other _ _ _ _ (by omega)).trans h2, (setRow_other _ _ _ _ (by omega)).trans h3, (setRow_other _ _ _ _ (by omega)).trans h4, setRow_heap _ _ _ _ _ _ h5, h6, h7, h8, h9, h10, h11, below_setRow (below_drewN h12 n) (by omega) _⟩
theorem HoldC.v_set {w : World} {bs : Nat → UInt8} {sv : Array Value} {Bw Bv Be : Nat} {v e : Array Value} {wx : World} (h : HoldC w bs sv Bw Bv Be v e wx) (v' : Array Value) :
    HoldC w bs sv Bw Bv Be v' e (wx.setRow Bv v') := by
  obtain ⟨h1, h2, h3, h4, h5, h6, h7, h8, h9, h10, h11, h12⟩ := h
  exact ⟨(setRow_other _ _ _ _ (by omega)).trans h1, (setRow_other _ _ _ _ (by omega)).trans h2, (setRow_other _ _ _ _ (by omega)).trans h3, setRow_heap _ _ _ _ _ _ h4, (setRow_other _ _ _ _ (by omega)).trans h5, h6, h7, h8, h9, h10, h11, below_setRow h12 (by omega) _⟩
theorem HoldC.at_v {w : World} {bs : Nat → UInt8} {sv : Array Value} {Bw Bv Be : Nat} {v e : Array Value} {wx : World} (h : HoldC w bs sv Bw Bv Be v e wx) (i : Nat) : wx.cell? ⟨Bv, i, none⟩ = v[i]? := cell_of_row _ _ _ _ _ _ h.vv
theorem info140 : (Tryd.prog.info? 140).map (·.size) = some 4 := by kernel_rfl
theorem store_e {ops : Array Oper} {rest : List Oper} {o : Oper} {a : Act} {Q : Exit → Act → World → Prop} {w : World} {bs : Nat → UInt8} {sv : Array Value} {Bw Bv Be : Nat} {v e : Array Value} {wx : World} (hgd : o.guard = none) (x y : Operand) (ho : o.op = .store 140 x y)
    (hx : a.eval x = .pointer (some ⟨Be, 0, none⟩)) (cells : Array Value) (hy : a.eval y = .agg cells) (h4 : cells.size = 4) (h1 : cells.all (fun x => x.oneCell') = true) (n : Nat) (HO : HoldC w bs sv Bw Bv Be v e wx)
    (h : ∀ W3, HoldC w bs sv Bw Bv Be v cells W3 → wpList Tryd.prog ops Q rest (a.put o.dst undef) W3) (he : e.size = 4 := by rfl) : wpList Tryd.prog ops Q (o :: rest) a (wx.drewN n) :=
  wpList_store_row hgd 140 x y ho _ _ hx hy _ _ (w := wx.drewN n) HO.ee (by rw [h4]; exact info140) (by rw [he, h4]) h1 (h _ (HO.e_set n cells))
theorem store_v {ops : Array Oper} {rest : List Oper} {o : Oper} {a : Act} {Q : Exit → Act → World → Prop} {w : World} {bs : Nat → UInt8} {sv : Array Value} {Bw Bv Be : Nat} {v e : Array Value} {wx : World} (hgd : o.guard = none) (x y : Operand) (ho : o.op = .store 140 x y)
    (hx : a.eval x = .pointer (some ⟨Bv, 0, none⟩)) (cells : Array Value) (hy : a.eval y = .agg cells) (h4 : cells.size = 4) (h1 : cells.all (fun x => x.oneCell') = true) (HO : HoldC w bs sv Bw Bv Be v e wx)
    (h : ∀ W3, HoldC w bs sv Bw Bv Be cells e W3 → wpList Tryd.prog ops Q rest (a.put o.dst undef) W3) (he : v.size = 4 := by rfl) : wpList Tryd.prog ops Q (o :: rest) a wx :=
  wpList_store_row hgd 140 x y ho _ _ hx hy _ _ HO.vv (by rw [h4]; exact info140) (by rw [he, h4]) h1 (h _ (HO.v_set cells))
theorem u32_max : IntKind.u32.max = ((4294967295 : UInt32).toNat : Int) := rfl
theorem u32_sum5 (a b c d e : UInt32) : ((a.toNat : Int) + (b.toNat : Int) + (c.toNat : Int) + (d.toNat : Int) + (e.toNat : Int)) % 4294967296 = ((a + b + c + d + e).toNat : Int) := by
  simp only [UInt32.toNat_add]; omega
theorem not_xor (e : UInt32) : (4294967295 : UInt32) ^^^ e = ~~~e := by
  apply UInt32.eq_of_toBitVec_eq
  have h := BitVec.allOnes_xor (x := e.toBitVec)
  rw [UInt32.toBitVec_xor, UInt32.toBitVec_not, ← h]
  rfl
theorem u32_not (e : UInt32) : bits BinOp.xor IntKind.u32 IntKind.u32.max (e.toNat : Int) = ((~~~e).toNat : Int) := by
  rw [u32_max, u32_xor, not_xor]
theorem rndX_eq (kt wt a b c d e f g h : UInt32) : (((h.toNat : Int) + ((mix3 6 11 25 e).toNat : Int) + bits .xor .u32 (bits .and .u32 (e.toNat : Int) (f.toNat : Int)) (bits .and .u32 (bits .xor .u32 (if IntKind.u32.signed = true then -1 else IntKind.u32.max) (e.toNat : Int)) (g.toNat : Int)) + (kt.toNat : Int)) % 4294967296 + (wt.toNat : Int)) % 4294967296 =
    ((rndX kt wt ⟨a, b, c, d, e, f, g, h⟩).toNat : Int) := by
  rw [if_neg (by decide), u32_not, u32_and, u32_and, u32_xor, u32_sum4, u32_add]; rfl
theorem rndY_eq (a b c d e f g h : UInt32) : (((mix3 2 13 22 a).toNat : Int) + bits .xor .u32 (bits .xor .u32 (bits .and .u32 (a.toNat : Int) (b.toNat : Int)) (bits .and .u32 (a.toNat : Int) (c.toNat : Int))) (bits .and .u32 (b.toNat : Int) (c.toNat : Int))) % 4294967296 =
    ((rndY ⟨a, b, c, d, e, f, g, h⟩).toNat : Int) := by
  rw [u32_and, u32_and, u32_and, u32_xor, u32_xor, u32_add]; rfl
theorem info118 : (Tryd.prog.info? 118).map (·.size) = some 8 := by kernel_rfl
/-- the hash value behind a block -/
def compress (bs : Nat → UInt8) (s : S8) : S8 :=
  let r := rounds (sched bs 64) s 64
  ⟨s.a + r.a, s.b + r.b, s.c + r.c, s.d + r.d, s.e + r.e, s.f + r.f, s.g + r.g, s.h + r.h⟩
def fin8 (s S : S8) (i : Nat) : Array Value := st8 (if 0 < i then s.a + S.a else s.a) (if 1 < i then s.b + S.b else s.b) (if 2 < i then s.c + S.c else s.c) (if 3 < i then s.d + S.d else s.d)
  (if 0 < i then s.e + S.e else s.e) (if 1 < i then s.f + S.f else s.f) (if 2 < i then s.g + S.g else s.g) (if 3 < i then s.h + S.h else s.h)
theorem HoldC.at_e {w : World} {bs : Nat → UInt8} {sv : Array Value} {Bw Bv Be : Nat} {v e : Array Value} {wx : World} (h : HoldC w bs sv Bw Bv Be v e wx) (i : Nat) : wx.cell? ⟨Be, i, none⟩ = e[i]? := cell_of_row _ _ _ _ _ _ h.ee
theorem HoldC.at_b {w : World} {bs : Nat → UInt8} {sv : Array Value} {Bw Bv Be : Nat} {v e : Array Value} {wx : World} (h : HoldC w bs sv Bw Bv Be v e wx) (i : Nat) : wx.cell? ⟨w.heap.size, i, none⟩ = sv[i]? := cell_of_row _ _ _ _ _ _ h.box
theorem HoldC.b_set {w : World} {bs : Nat → UInt8} {sv : Array Value} {Bw Bv Be : Nat} {v e : Array Value} {wx : World} (h : HoldC w bs sv Bw Bv Be v e wx) (i : Nat) (x : Value) :
    HoldC w bs (sv.setIfInBounds i x) Bw Bv Be v e (wx.setCell ⟨w.heap.size, i, none⟩ x) := by
  obtain ⟨h1, h2, h3, h4, h5, h6, h7, h8, h9, h10, h11, h12⟩ := h
  exact ⟨heap_setCell_same _ _ _ _ _ _ h1, (heap_setCell_other _ _ _ _ (by show _ ≠ w.heap.size; omega)).trans h2, (heap_setCell_other _ _ _ _ (by show _ ≠ w.heap.size; omega)).trans h3, (heap_setCell_other _ _ _ _ (by show _ ≠ w.heap.size; omega)).trans h4, (heap_setCell_other _ _ _ _ (by show _ ≠ w.heap.size; omega)).trans h5, h6, h7, h8, h9, h10, h11, h12.setCell (Nat.le_refl _) _⟩
theorem HoldC.drewN {w : World} {bs : Nat → UInt8} {sv : Array Value} {Bw Bv Be : Nat} {v e : Array Value} {wx : World} (h : HoldC w bs sv Bw Bv Be v e wx) (n : Nat) : HoldC w bs sv Bw Bv Be v e (wx.drewN n) := by
  obtain ⟨h1, h2, h3, h4, h5, h6, h7, h8, h9, h10, h11, h12⟩ := h
  exact ⟨h1, h2, h3, h4, h5, h6, h7, h8, h9, h10, h11, below_drewN h12 n⟩
theorem HoldC.b_step {w : World} {bs : Nat → UInt8} {sv : Array Value} {Bw Bv Be : Nat} {v e : Array Value} {wx : World} (h : HoldC w bs sv Bw Bv Be v e wx) (i j : Nat) (x y : Value) :
    HoldC w bs ((sv.setIfInBounds i x).setIfInBounds j y) Bw Bv Be v e (((wx.setCell ⟨w.heap.size, i, none⟩ x).setCell ⟨w.heap.size, j, none⟩ y).drew.drew) := ((h.b_set i x).b_set j y).drewN 2
theorem fin8_0 (s S : S8) : ((fin8 s S 0).setIfInBounds 0 (u32v (s.a + S.a))).setIfInBounds 4 (u32v (s.e + S.e)) = fin8 s S 1 := rfl
theorem fin8_1 (s S : S8) : ((fin8 s S 1).setIfInBounds 1 (u32v (s.b + S.b))).setIfInBounds 5 (u32v (s.f + S.f)) = fin8 s S 2 := rfl
theorem fin8_2 (s S : S8) : ((fin8 s S 2).setIfInBounds 2 (u32v (s.c + S.c))).setIfInBounds 6 (u32v (s.g + S.g)) = fin8 s S 3 := rfl
theorem fin8_3 (s S : S8) : ((fin8 s S 3).setIfInBounds 3 (u32v (s.d + S.d))).setIfInBounds 7 (u32v (s.h + S.h)) = fin8 s S 4 := rfl
theorem holdC_mk {w W2 : World} {bs : Nat → UInt8} {sv : Array Value} {Bw : Nat} (hz : w.heap.size + 2 ≤ Bw) (HWW : W2.heap[Bw]? = some (.cells (schedArr bs 64) 138 (0, 0)))
    (HRS : W2.heap[w.heap.size + 1]? = some (.cells (st8 0 0 0 0 0 0 0 0) 118 (0, 0))) (HBX : W2.heap[w.heap.size]? = some (.cells sv 118 (0, 0)))
    (HB2 : Below w.heap.size w W2) (HZ2 : W2.heap.size = Bw + 1) (x y : Array Value) :
    HoldC w bs sv Bw W2.heap.size (W2.heap.size + 1) x y ((W2.alloc (.cells x 140 (0, 0))).alloc (.cells y 140 (0, 0))).drew ∧
    HoldC w bs sv Bw (W2.heap.size + 1) W2.heap.size y x ((W2.alloc (.cells x 140 (0, 0))).alloc (.cells y 140 (0, 0))).drew := by
  have old : ∀ i, i < W2.heap.size → ((W2.alloc (.cells x 140 (0, 0))).alloc (.cells y 140 (0, 0))).drew.heap[i]? = W2.heap[i]? := fun i hi => by
    rw [heap_drew, Below.heap_alloc _ _ _ (by simp; omega), Below.heap_alloc _ _ _ hi]
  have n0 : ((W2.alloc (.cells x 140 (0, 0))).alloc (.cells y 140 (0, 0))).drew.heap[W2.heap.size]? = some (.cells x 140 (0, 0)) := heap_alloc2_old _ _ _
  have n1 : ((W2.alloc (.cells x 140 (0, 0))).alloc (.cells y 140 (0, 0))).drew.heap[W2.heap.size + 1]? = some (.cells y 140 (0, 0)) := heap_alloc2_new _ _ _
  have hb : Below w.heap.size w ((W2.alloc (.cells x 140 (0, 0))).alloc (.cells y 140 (0, 0))).drew := ((HB2.alloc (by omega) _).alloc (by simp; omega) _).drew
  exact ⟨⟨(old _ (by omega)).trans HBX, (old _ (by omega)).trans HRS, (old _ (by omega)).trans HWW, n0, n1, by omega, by omega, by omega, by omega, by omega, by omega, hb⟩,
    ⟨(old _ (by omega)).trans HBX, (old _ (by omega)).trans HRS, (old _ (by omega)).trans HWW, n1, n0, by omega, by omega, by omega, by omega, by omega, by omega, hb⟩⟩
/-- a call that leaves the world alone, in a region behind other draws -/
theorem calm_behind {P : Program} {f : FuncId} {args : Array Value} {w : World} {a n : Nat} {v : Value} (h : ∀ W : World, Calls P f args W fun e w' => e = .returned v ∧ w' = W) :
    Calls P f args (w.drewN (a + n)) fun e w'' => e = .returned v ∧ ∃ m, w'' = w.drewN (a + m) := (h _).mono fun _ _ hh => ⟨hh.1, n, hh.2⟩
theorem index_u32 (cs : Array Value) (t : Nat) (h : t < 64) (v : Value) (hv : cs[t]? = some v) (wx : World) : (Instr.index 138 (.agg cs) (.int .i64 t)).run Tryd.prog wx = .ok v wx := by
  have h0 : (0 : Int) ≤ (t : Int) := by omega
  simp [Instr.index, run_underlying Tryd.underlying138, asIntOf, h0, go_sem, part, hv]
  intro hh
  omega
theorem ks_at (t : Nat) (h : t < 64) : ((ks.map u32v).toArray)[t]? = some (.int .u32 ((ks.getD t 0).toNat : Int)) := by
  have hl : t < ks.length := h
  simp only [List.getElem?_toArray, List.getElem?_map, List.getD_eq_getElem?_getD, List.getElem?_eq_getElem hl]
  rfl
theorem mix_e (x : UInt32) (w : World) : Calls Tryd.prog 121 #[.int .u32 x.toNat, .int .i64 6, .int .i64 11, .int .i64 25] w fun e w' => e = .returned (.int .u32 (mix3 6 11 25 x).toNat) ∧ w' = w :=
  (mix_any x 6 11 25 (by omega) (by omega) (by omega) (by omega) (by omega) (by omega) w).mono fun _ _ h => ⟨h.1, h.2.symm⟩
theorem mix_v (x : UInt32) (w : World) : Calls Tryd.prog 121 #[.int .u32 x.toNat, .int .i64 2, .int .i64 13, .int .i64 22] w fun e w' => e = .returned (.int .u32 (mix3 2 13 22 x).toNat) ∧ w' = w :=
  (mix_any x 2 13 22 (by omega) (by omega) (by omega) (by omega) (by omega) (by omega) w).mono fun _ _ h => ⟨h.1, h.2.symm⟩
set_option maxHeartbeats 1600000 in
theorem comp_any (bs : Nat → UInt8) (s0 s1 s2 s3 s4 s5 s6 s7 : UInt32) (B off cap : Nat) (w : World) (hcap : 64 ≤ cap) (hB : B < w.heap.size) (hK : HoldK w) (hc : ∀ i, i < 64 → w.cell? ⟨B, off + i, none⟩ = some (.int .u8 ((bs i).toNat : Int))) :
    Calls Tryd.prog 115 #[.agg #[u32v s0, u32v s1, u32v s2, u32v s3, u32v s4, u32v s5, u32v s6, u32v s7], .slice (some ⟨B, off, none⟩) 64 cap] w fun e w' => e = .returned (.agg (compress bs ⟨s0, s1, s2, s3, s4, s5, s6, s7⟩).all) ∧ Below w.heap.size w w' := by
  have hc' := Lib.hid hc
  have hK' := Lib.hid hK
  clear hc hK
  go_enter Tryd.func115, Tryd.ntmps115
  go_wp2_with fail
  have hb0 : Below w.heap.size w ((w.alloc (Obj.cells #[u32v s0, u32v s1, u32v s2, u32v s3, u32v s4, u32v s5, u32v s6, u32v s7] 118)).alloc (Obj.cells #[Value.int IntKind.u32 0, Value.int IntKind.u32 0, Value.int IntKind.u32 0, Value.int IntKind.u32 0, Value.int IntKind.u32 0, Value.int IntKind.u32 0, Value.int IntKind.u32 0, Value.int IntKind.u32 0] 118)) := ((Below.refl _ _).alloc (Nat.le_refl _) _).alloc (by simp) _
  have hx0 := heap_alloc2_new w (Obj.cells #[u32v s0, u32v s1, u32v s2, u32v s3, u32v s4, u32v s5, u32v s6, u32v s7] 118) (Obj.cells #[Value.int IntKind.u32 0, Value.int IntKind.u32 0, Value.int IntKind.u32 0, Value.int IntKind.u32 0, Value.int IntKind.u32 0, Value.int IntKind.u32 0, Value.int IntKind.u32 0, Value.int IntKind.u32 0] 118)
  have hx1 := heap_alloc2_old w (Obj.cells #[u32v s0, u32v s1, u32v s2, u32v s3, u32v s4, u32v s5, u32v s6, u32v s7] 118) (Obj.cells #[Value.int IntKind.u32 0, Value.int IntKind.u32 0, Value.int IntKind.u32 0, Value.int IntKind.u32 0, Value.int IntKind.u32 0, Value.int IntKind.u32 0, Value.int IntKind.u32 0, Value.int IntKind.u32 0] 118)
  have hsz0 : ((w.alloc (Obj.cells #[u32v s0, u32v s1, u32v s2, u32v s3, u32v s4, u32v s5, u32v s6, u32v s7] 118)).alloc (Obj.cells #[Value.int IntKind.u32 0, Value.int IntKind.u32 0, Value.int IntKind.u32 0, Value.int IntKind.u32 0, Value.int IntKind.u32 0, Value.int IntKind.u32 0, Value.int IntKind.u32 0, Value.int IntKind.u32 0] 118)).heap.size = w.heap.size + 2 := by simp
  generalize ((w.alloc (Obj.cells #[u32v s0, u32v s1, u32v s2, u32v s3, u32v s4, u32v s5, u32v s6, u32v s7] 118)).alloc (Obj.cells #[Value.int IntKind.u32 0, Value.int IntKind.u32 0, Value.int IntKind.u32 0, Value.int IntKind.u32 0, Value.int IntKind.u32 0, Value.int IntKind.u32 0, Value.int IntKind.u32 0, Value.int IntKind.u32 0] 118)) = W1 at hb0 hx0 hx1 hsz0 ⊢
  with_reducible refine (sched_any bs B off cap _ hcap ?_ ?_).mono ?_
  · omega
  · intro i hi
    exact (hb0.cell (p := ⟨B, off + i, none⟩) hB).trans (hc'.out i hi)
  rintro e w1 ⟨rfl, hb1⟩
  have hz : w.heap.size + 2 ≤ w1.heap.size := by have := hb1.size; omega
  have HX0 := Lib.hid ((hb1.block (w.heap.size + 1) (by omega)).trans hx0)
  have HX1 := Lib.hid ((hb1.block w.heap.size (by omega)).trans hx1)
  have HB := Lib.hid (hb0.trans (hb1.mono (by omega)))
  clear hx0 hx1 hb1 hb0 hsz0
  go_wp2_with ((with_reducible show wpList _ _ _ ((⟨_, Op.store 138 (.tmp 5) _, _, _, _, _⟩ : Oper) :: _) _ _); refine wpList_store_row rfl 138 (.tmp 5) (.tmp 14) rfl _ _ rfl rfl _ _ (heap_alloc_new _ _) (by rw [schedArr_size bs 64 (by omega)]; exact info138) (by rw [schedArr_size bs 64 (by omega)]; rfl) (schedArr_one bs 64) ?_)
  generalize hW2 : (w1.alloc _).setRow w1.heap.size (schedArr bs 64) = W2
  have HWW : Hid (W2.heap[w1.heap.size]? = some (.cells (schedArr bs 64) 138 (0, 0))) := by
    rw [← hW2]; exact setRow_heap _ _ _ _ _ _ (heap_alloc_new _ _)
  have HRS : Hid (W2.heap[w.heap.size + 1]? = some (.cells (st8 0 0 0 0 0 0 0 0) 118 (0, 0))) := by
    rw [← hW2, setRow_other _ _ _ _ (by omega), Below.heap_alloc _ _ _ (by omega)]; exact HX0.out
  have HBX : Hid (W2.heap[w.heap.size]? = some (.cells (st8 s0 s1 s2 s3 s4 s5 s6 s7) 118 (0, 0))) := by
    rw [← hW2, setRow_other _ _ _ _ (by omega), Below.heap_alloc _ _ _ (by omega)]; exact HX1.out
  have HB2 : Hid (Below w.heap.size w W2) := by
    rw [← hW2]; exact below_setRow (HB.out.alloc (by omega) _) (by omega) _
  have HZ2 : Hid (W2.heap.size = w1.heap.size + 1) := Lib.hid (by rw [← hW2, setRow_size]; simp)
  clear hW2 HB HX0 HX1
  simp only [Act.put]
  -- cut
  go_cut [6, 7] (fun p6 p7 wx => ∃ Bv Be, p6 = .pointer (some ⟨Bv, 0, none⟩) ∧ p7 = .pointer (some ⟨Be, 0, none⟩) ∧ HoldC w bs (st8 s0 s1 s2 s3 s4 s5 s6 s7) w1.heap.size Bv Be (st4 s0 s1 s2 s3) (st4 s4 s5 s6 s7) wx)
  case first =>
    have hne : w.heap.size ≠ w1.heap.size := by omega
    have k0 : ∀ i, W2.cell? ⟨w.heap.size, i, none⟩ = (st8 s0 s1 s2 s3 s4 s5 s6 s7)[i]? := fun i => by rw [cell_of_row _ _ _ _ _ _ HBX.out]
    have c0 := k0 0
    have c1 := k0 1
    have c2 := k0 2
    have c3 := k0 3
    have c4 := k0 4
    have c5 := k0 5
    have c6 := k0 6
    have c7 := k0 7
    clear k0
    have hq : w.heap.size < W2.heap.size := by have := HZ2.out; omega
    simp only [st8, u32v, List.getElem?_toArray, List.getElem?_cons_succ, List.getElem?_cons_zero] at c0 c1 c2 c3 c4 c5 c6 c7
    have hA4 : ∀ (wx : World) (a : Option Addr) (cap : Nat), (Instr.arrayAt 140 (.slice a 4 cap)).run Tryd.prog wx = .ok (.pointer a) wx := fun wx a cap => run_arrayAt (P := Tryd.prog) (w := wx) 140 117 4 a 4 cap Tryd.underlying140 (by omega)
    go_region
    all_goals (go_wp2_with fail; go_meet)
    · exact ⟨_, _, rfl, rfl, (holdC_mk hz HWW.out HRS.out HBX.out HB2.out HZ2.out _ _).1⟩
    · exact ⟨_, _, rfl, rfl, (holdC_mk hz HWW.out HRS.out HBX.out HB2.out HZ2.out _ _).2⟩
  case rest =>
    obtain ⟨Bv, Be, rfl, rfl, hold⟩ := hcut
    obtain ⟨Bw, hBw⟩ : ∃ Bw, Bw = w1.heap.size := ⟨_, rfl⟩
    rw [← hBw] at hold ⊢
    clear hBw HWW HRS HBX HB2 HZ2 hz
    have h0w : 0 < w.heap.size := by omega
    have hKc : Hid (wc.rangeAt 0 0 (ks.map u32v)) := fun j v hv => (hold.below.cell (p := ⟨0, 0 + j, none⟩) h0w).trans (hK'.out j v hv)
    have HO := Lib.hid hold
    clear hold
    go_wp2_with ((with_reducible show wpList _ _ _ ((⟨_, Op.load 138 (.global 0), _, _, _, _⟩ : Oper) :: _) _ _); refine wpList_load_mid rfl 138 (.global 0) rfl 0 0 rfl _ _ hKc.out Tryd.underlying138 rfl info138 ?_)
    go_loopw [22] (fun c wr => ∃ t : Nat, t ≤ 64 ∧ c = .int .i64 t ∧ HoldC w bs (st8 s0 s1 s2 s3 s4 s5 s6 s7) Bw Bv Be (rounds (sched bs 64) ⟨s0, s1, s2, s3, s4, s5, s6, s7⟩ t).v (rounds (sched bs 64) ⟨s0, s1, s2, s3, s4, s5, s6, s7⟩ t).w wr) (fun c _ => 64 - (intOf c).toNat)
    case atStart => exact ⟨0, by omega, rfl, HO.out⟩
    case round =>
      obtain ⟨t, ht, rfl, hold⟩ := hrel
      clear hKc HO
      have HO := Lib.hid hold
      clear hold
      by_cases hlt : t < 64
      · have hidx : ∀ wx, (Instr.index 138 (.agg (ks.map u32v).toArray) (.int .i64 t)).run Tryd.prog wx = .ok (.int .u32 ((ks.getD t 0).toNat : Int)) wx := fun wx => index_u32 _ t hlt _ (ks_at t hlt) wx
        obtain ⟨S, hS⟩ : ∃ S, S = rounds (sched bs 64) ⟨s0, s1, s2, s3, s4, s5, s6, s7⟩ t := ⟨_, rfl⟩
        rw [← hS] at HO
        have HS := Lib.hid hS
        clear hS
        obtain ⟨a, b, c, d, e, f, g, hh⟩ := S
        obtain ⟨kt, hkt⟩ : ∃ kt, kt = ks.getD t 0 := ⟨_, rfl⟩
        rw [← hkt] at hidx
        have HKT := Lib.hid hkt
        clear hkt
        obtain ⟨wt, hwt⟩ : ∃ wt, wt = (sched bs 64).getD t 0 := ⟨_, rfl⟩
        have cw : wr.cell? ⟨Bw, t, none⟩ = some (.int .u32 (wt.toNat : Int)) := by rw [cell_of_row _ _ _ _ _ _ HO.out.ww, schedArr_get _ _ _ hlt, hwt]
        have HWT := Lib.hid hwt
        clear hwt
        have ce0 : wr.cell? ⟨Be, 0, none⟩ = some (.int .u32 (e.toNat : Int)) := by rw [cell_of_row _ _ _ _ _ _ HO.out.ee]; rfl
        have ce1 : wr.cell? ⟨Be, 1, none⟩ = some (.int .u32 (f.toNat : Int)) := by rw [cell_of_row _ _ _ _ _ _ HO.out.ee]; rfl
        have ce2 : wr.cell? ⟨Be, 2, none⟩ = some (.int .u32 (g.toNat : Int)) := by rw [cell_of_row _ _ _ _ _ _ HO.out.ee]; rfl
        have ce3 : wr.cell? ⟨Be, 3, none⟩ = some (.int .u32 (hh.toNat : Int)) := by rw [cell_of_row _ _ _ _ _ _ HO.out.ee]; rfl
        have cv0 : wr.cell? ⟨Bv, 0, none⟩ = some (.int .u32 (a.toNat : Int)) := by rw [cell_of_row _ _ _ _ _ _ HO.out.vv]; rfl
        have cv1 : wr.cell? ⟨Bv, 1, none⟩ = some (.int .u32 (b.toNat : Int)) := by rw [cell_of_row _ _ _ _ _ _ HO.out.vv]; rfl
        have cv2 : wr.cell? ⟨Bv, 2, none⟩ = some (.int .u32 (c.toNat : Int)) := by rw [cell_of_row _ _ _ _ _ _ HO.out.vv]; rfl
        have cv3 : wr.cell? ⟨Bv, 3, none⟩ = some (.int .u32 (d.toNat : Int)) := by rw [cell_of_row _ _ _ _ _ _ HO.out.vv]; rfl
        go_wp2_with fail
        go_quiet ((go_at_call 121; exact Calls.quiet_of_same (mix_e _ _)))
        obtain ⟨X, hX⟩ : ∃ X, X = rndX kt wt ⟨a, b, c, d, e, f, g, hh⟩ := ⟨_, rfl⟩
        rw [rndX_eq kt wt a b c d e f g hh, ← hX]
        have HX := Lib.hid hX
        clear hX
        go_wp2_with fail
        go_quiet ((go_at_call 121; exact calm_behind (mix_v _)))
        obtain ⟨Y, hY⟩ : ∃ Y, Y = rndY ⟨a, b, c, d, e, f, g, hh⟩ := ⟨_, rfl⟩
        rw [rndY_eq a b c d e f g hh, ← hY]
        have HY := Lib.hid hY
        clear hY
        go_wp2_with (first
          | ((with_reducible show wpList _ _ _ ((⟨_, Op.store 140 (.tmp 7) _, _, _, _, _⟩ : Oper) :: _) _ _); refine store_e rfl (.tmp 7) (.tmp 82) rfl rfl _ rfl rfl (by simp [Value.oneCell']) _ HO.out ?_; intro W3 HO2; clear HO cv0 cv1 cv2 ce0 ce1 ce2 ce3 cw; have cv0 := HO2.at_v 0; have cv1 := HO2.at_v 1; have cv2 := HO2.at_v 2; (simp only [S8.v, st4, u32v, List.getElem?_toArray, List.getElem?_cons_succ, List.getElem?_cons_zero] at cv0 cv1 cv2); have HO3 := Lib.hid HO2; clear HO2)
          | ((with_reducible show wpList _ _ _ ((⟨_, Op.store 140 (.tmp 6) _, _, _, _, _⟩ : Oper) :: _) _ _); refine store_v rfl (.tmp 6) (.tmp 92) rfl rfl _ rfl rfl (by simp [Value.oneCell']) HO3.out ?_; intro W4 HO2; clear HO3 cv0 cv1 cv2; have HO4 := Lib.hid HO2; clear HO2))
        go_roundw
        case rel =>
          refine ⟨t + 1, by omega, by go_num, ?_⟩
          have hf := HO4.out
          rw [u32_add, u32_add] at hf
          have es : rounds (sched bs 64) ⟨s0, s1, s2, s3, s4, s5, s6, s7⟩ (t + 1) = ⟨X + Y, a, b, c, d + X, e, f, g⟩ := by
            rw [rounds, ← HS.out, ← HKT.out, ← HWT.out, HX.out, HY.out]; rfl
          rw [es]
          exact hf
        case measure => simp [intOf]; omega
      · obtain rfl : t = 64 := by omega
        obtain ⟨S, hS⟩ : ∃ S, S = rounds (sched bs 64) ⟨s0, s1, s2, s3, s4, s5, s6, s7⟩ 64 := ⟨_, rfl⟩
        rw [← hS] at HO
        have HS := Lib.hid hS
        clear hS
        go_wp2_with fail
        go_loopw [94] (fun c wr => ∃ i : Nat, i ≤ 4 ∧ c = .int .i64 i ∧ HoldC w bs (fin8 ⟨s0, s1, s2, s3, s4, s5, s6, s7⟩ S i) Bw Bv Be S.v S.w wr) (fun c _ => 4 - (intOf c).toNat)
        case atStart => exact ⟨0, by omega, rfl, HO.out⟩
        case round =>
          obtain ⟨i, hi, rfl, hold⟩ := hrel
          clear HO
          obtain ⟨a, b, c, d, e, f, g, hh⟩ := S
          by_cases hlt : i < 4
          · have HO := Lib.hid hold
            have cb : wr.cell? ⟨w.heap.size, i, none⟩ = _ := hold.at_b i
            have cb4 : wr.cell? ⟨w.heap.size, i + 4, none⟩ = _ := hold.at_b (i + 4)
            have cv : wr.cell? ⟨Bv, i, none⟩ = _ := hold.at_v i
            have ce : wr.cell? ⟨Be, i, none⟩ = _ := hold.at_e i
            have cf := frozen_of_row _ _ i _ _ hold.box
            have cf4 := frozen_of_row _ _ (i + 4) _ _ hold.box
            have hne : w.heap.size ≠ Bv := by have := hold.hv; omega
            have hne' : w.heap.size ≠ Be := by have := hold.he; omega
            clear hold
            rcases (show i = 0 ∨ i = 1 ∨ i = 2 ∨ i = 3 by omega) with rfl | rfl | rfl | rfl
            all_goals
              simp only [fin8, st8, st4, u32v, S8.v, S8.w, List.getElem?_toArray, List.getElem?_cons_succ, List.getElem?_cons_zero, Nat.zero_add, Nat.reduceAdd, Nat.lt_irrefl, if_false, Nat.reduceLT] at cb cb4 cv ce
              go_wp2
              go_region
              go_wp2
              go_region
              go_wp2
              go_roundw
              case rel =>
                rw [u32_add, u32_add]
                first
                  | exact ⟨1, by omega, rfl, (fin8_0 ⟨s0, s1, s2, s3, s4, s5, s6, s7⟩ ⟨a, b, c, d, e, f, g, hh⟩) ▸ HO.out.b_step 0 4 (u32v (s0 + a)) (u32v (s4 + e))⟩
                  | exact ⟨2, by omega, rfl, (fin8_1 ⟨s0, s1, s2, s3, s4, s5, s6, s7⟩ ⟨a, b, c, d, e, f, g, hh⟩) ▸ HO.out.b_step 1 5 (u32v (s1 + b)) (u32v (s5 + f))⟩
                  | exact ⟨3, by omega, rfl, (fin8_2 ⟨s0, s1, s2, s3, s4, s5, s6, s7⟩ ⟨a, b, c, d, e, f, g, hh⟩) ▸ HO.out.b_step 2 6 (u32v (s2 + c)) (u32v (s6 + g))⟩
                  | exact ⟨4, by omega, rfl, (fin8_3 ⟨s0, s1, s2, s3, s4, s5, s6, s7⟩ ⟨a, b, c, d, e, f, g, hh⟩) ▸ HO.out.b_step 3 7 (u32v (s3 + d)) (u32v (s7 + hh))⟩
              case measure => simp [intOf]
          · obtain rfl : i = 4 := by omega
            have HO := Lib.hid hold
            clear hold
            go_wp2_with (first
              | ((with_reducible show wpList _ _ _ ((⟨_, Op.load 118 (.tmp 2), _, _, _, _⟩ : Oper) :: _) _ _); refine wpList_load_row rfl 118 (.tmp 2) rfl _ rfl _ _ _ _ HO.out.box Tryd.underlying118 rfl info118 ?_)
              | ((with_reducible show wpList _ _ _ ((⟨_, Op.store 118 (.tmp 4) _, _, _, _, _⟩ : Oper) :: _) _ _); refine wpList_store_row rfl 118 (.tmp 4) (.tmp 115) rfl _ _ rfl rfl _ _ HO.out.res info118 rfl (by simp [fin8, st8, u32v, Value.oneCell']) ?_))
            have hrow : (wr.setRow (w.heap.size + 1) (fin8 ⟨s0, s1, s2, s3, s4, s5, s6, s7⟩ ⟨a, b, c, d, e, f, g, hh⟩ 4)).heap[w.heap.size + 1]? = some (.cells _ 118 (0, 0)) := setRow_heap _ _ _ _ _ _ HO.out.res
            have ec : (compress bs ⟨s0, s1, s2, s3, s4, s5, s6, s7⟩).all = fin8 ⟨s0, s1, s2, s3, s4, s5, s6, s7⟩ ⟨a, b, c, d, e, f, g, hh⟩ 4 := by
              rw [compress, ← HS.out]; rfl
            rw [← ec] at hrow
            exact bodyPost_ret (v := .agg (compress bs ⟨s0, s1, s2, s3, s4, s5, s6, s7⟩).all) (results_cell_row rfl _ _ (w.heap.size + 1) 118 _ (0, 0) _ rfl (by rw [← ec]; exact hrow) Tryd.underlying118 rfl info118) rfl ⟨rfl, below_setRow HO.out.below (by omega) _⟩
end Go.Proofs.YtfkpeabkcdhcfaaDoor
