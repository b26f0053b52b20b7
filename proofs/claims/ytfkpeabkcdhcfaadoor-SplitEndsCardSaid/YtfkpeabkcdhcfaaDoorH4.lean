/-
  Walk of (hash.Stream).Add: the stream fed with the bytes of the text, for every stream and every text (their lengths together below 2^62); nothing that was there changes.
-/
import Derived.Test.YtfkpeabkcdhcfaaDoorS
namespace Go.Proofs.YtfkpeabkcdhcfaaDoor
open Go.RowKit
set_option maxRecDepth 100000
theorem u8v_cells (l : List UInt8) : l.map u8v = Lib.byteCells l := rfl
theorem run_copy_str {P : Program} (w : World) (dT sT ty elem : TypeId) (g o dLen dCap : Nat) (s : ByteArray) (cur : Array Value) (t : TypeId) (n : Nat) (hn : n = min s.size dLen)
    (hu : P.underlying dT = some (.slice elem)) (hs : (P.info? elem).map (·.size) = some 1) (hg : w.heap[g]? = some (.cells cur t (0, 0))) (hfit : o + n ≤ cur.size) :
    (Builtin.copy_ #[dT, sT] ty #[.slice (some ⟨g, o, none⟩) dLen dCap, .string s]).run P w =
      .ok (.int .i64 (n : Int)) (w.setRow g (cur.toList.take o ++ (s.data.toList.take n).map u8v ++ cur.toList.drop (o + (s.data.toList.take n).length)).toArray) := by
  have hlen : (Lib.byteCells (s.data.toList.take n)).length = n := by
    rw [Lib.byteCells_length, List.length_take, ← Lib.size_eq]; omega
  have hlen' : (s.data.toList.take n).length = n := by rw [List.length_take, ← Lib.size_eq]; omega
  have hst := run_storeCells_at P g o t (Lib.byteCells (s.data.toList.take n)) 0 cur w hg (by rw [hlen]; simpa using hfit) (Lib.byteCells_one _)
  have hmin : Nat.min s.size dLen = n := hn.symm
  rw [hlen] at hst
  rw [hlen']
  simp only [Nat.add_zero] at hst
  cases hq : P.info? elem with
  | none => simp [hq] at hs
  | some i =>
    simp [Builtin.copy_, run_underlying hu, Builtin.lenOf, Builtin.firstCells, sizeOf, typeInfo, hq, hmin]
    have hmap : List.take n (List.map (fun b : UInt8 => Value.int IntKind.u8 (b.toNat : Int)) s.data.toList) = Lib.byteCells (s.data.toList.take n) := by
      rw [Lib.byteCells, List.map_take]
    rw [hmap, hst]
    simp only [Result.andThen_ok]
    have e1 : List.take n (List.map u8v s.data.toList) = Lib.byteCells (s.data.toList.take n) := by rw [← List.map_take]; rfl
    rw [e1, List.append_assoc]
    rfl
theorem info119 : (Tryd.prog.info? 5).map (·.size) = some 1 := by kernel_rfl
theorem info122 : (Tryd.prog.info? 122).map (·.size) = some 73 := by kernel_rfl
def zeroStr : Str := ⟨⟨0, 0, 0, 0, 0, 0, 0, 0⟩, List.replicate 64 0, 0⟩
structure HoldS (w : World) (st : Str) (wx : World) : Prop where
  len : st.blk.length = 64
  box : wx.heap[w.heap.size]? = some (.cells (strm st) 122 (0, 0))
  res : wx.heap[w.heap.size + 1]? = some (.cells Tryd.zeroCells122 122 (0, 0))
  below : Below w.heap.size w wx
theorem len119 : Tryd.prog.arrayLen 119 = 64 := by kernel_rfl
theorem elem119 : Tryd.prog.elem 119 = 5 := by kernel_rfl
theorem size5 (w : World) : (sizeOf 5).run Tryd.prog w = .ok 1 w := by kernel_rfl
theorem slice119 (B a : Nat) (h : a < 64) (wx : World) : (Instr.sliceAt 119 (.pointer (some ⟨B, 8, none⟩)) (some (.int .i64 a)) none none).run Tryd.prog wx = .ok (.slice (some ⟨B, 8 + a, none⟩) (64 - a) (64 - a)) wx := by
  have hu : Tryd.prog.underlying 119 = some (.array (Tryd.prog.arrayLen 119) (Tryd.prog.elem 119)) := by rw [len119, elem119]; exact Tryd.underlying119
  rw [run_sliceAt_array_l (P := Tryd.prog) wx 119 ⟨B, 8, none⟩ hu .i64 (a : Int) (by omega) (by rw [len119]; omega), elem119, size5, len119]
  simp only [Result.andThen_ok, slicedAt, Int.toNat_natCast, Nat.mul_one, if_neg (show ¬ 64 = a by omega), Addr.add_mid]
theorem slice119_all (B : Nat) (wx : World) : (Instr.sliceAt 119 (.pointer (some ⟨B, 8, none⟩)) none none none).run Tryd.prog wx = .ok (.slice (some ⟨B, 8, none⟩) 64 64) wx := by
  have hu : Tryd.prog.underlying 119 = some (.array (Tryd.prog.arrayLen 119) (Tryd.prog.elem 119)) := by rw [len119, elem119]; exact Tryd.underlying119
  rw [run_sliceAt_array_all (P := Tryd.prog) wx 119 ⟨B, 8, none⟩ hu, elem119, size5, len119]
  rfl
theorem HoldS.copy {w wx : World} {sx : Str} (h : HoldS w sx wx) (a : Nat) (l : List UInt8) (hl : a + l.length ≤ 64) :
    HoldS w ⟨sx.s, put sx.blk a l, sx.n⟩ (wx.setRow w.heap.size ((strm sx).toList.take (8 + a) ++ l.map u8v ++ (strm sx).toList.drop (8 + a + l.length)).toArray) := by
  obtain ⟨h1, h2, h3, h4⟩ := h
  rw [strm_set_blk sx h1 a l hl]
  refine ⟨?_, setRow_heap _ _ _ _ _ _ h2, (setRow_other _ _ _ _ (by omega)).trans h3, below_setRow h4 (Nat.le_refl _) _⟩
  simp [put, h1]; omega
theorem copy_s {ops : Array Oper} {rest : List Oper} {o : Oper} {A : Act} {Q : Exit → Act → World → Prop} {w wx : World} {sx : Str} (HO : HoldS w sx wx) (hgd : o.guard = none) (d s : Operand)
    (ho : o.op = .call { callee := .builtin .copy, args := #[d, s], argTypes := #[92, 9] }) (a k : Nat) (tx : ByteArray) (ha : a < 64) (hk : k = min tx.size (64 - a))
    (hd : A.eval d = .slice (some ⟨w.heap.size, 8 + a, none⟩) (64 - a) (64 - a)) (hs : A.eval s = .string tx)
    (h : ∀ W3, HoldS w ⟨sx.s, put sx.blk a (tx.data.toList.take k), sx.n⟩ W3 → wpList Tryd.prog ops Q rest (A.put o.dst (.int .i64 (k : Int))) W3) : wpList Tryd.prog ops Q (o :: rest) A wx := by
  have hkl : (tx.data.toList.take k).length = k := by rw [List.length_take, ← Lib.size_eq]; omega
  exact Lib.wpList_copy_run wx hgd d s 92 9 ho _ _ hd hs (run_copy_str (P := Tryd.prog) wx 92 9 o.type 5 w.heap.size (8 + a) (64 - a) (64 - a) tx (strm sx) 122 k hk Tryd.underlying92 info119 HO.box (by rw [strm_size _ HO.len]; omega)) (h _ (HO.copy a _ (by omega)))
theorem HoldS.at_n {w wx : World} {sx : Str} (h : HoldS w sx wx) : wx.cell? ⟨w.heap.size, 72, none⟩ = some (.int .u64 (sx.n : Int)) := by rw [cell_of_row _ _ _ _ _ _ h.box, strm_n _ h.len]
theorem HoldS.free {w wx : World} {sx : Str} (h : HoldS w sx wx) (i : Nat) : wx.frozen? ⟨w.heap.size, i, none⟩ = false := frozen_of_row _ _ _ _ _ h.box
theorem HoldS.set_n {w wx : World} {sx : Str} (h : HoldS w sx wx) (m : Nat) : HoldS w ⟨sx.s, sx.blk, m⟩ (wx.setCell ⟨w.heap.size, 72, none⟩ (.int .u64 (m : Int))) := by
  obtain ⟨h1, h2, h3, h4⟩ := h
  refine ⟨h1, ?_, (heap_setCell_other _ _ _ _ (by show _ ≠ w.heap.size; omega)).trans h3, h4.setCell (Nat.le_refl _) _⟩
  rw [heap_setCell_same _ _ _ _ _ _ h2, strm_set_n sx h1]
theorem comp_ex (bs : Nat → UInt8) (s0 s1 s2 s3 s4 s5 s6 s7 r0 r1 r2 r3 r4 r5 r6 r7 : UInt32) (hr : (⟨r0, r1, r2, r3, r4, r5, r6, r7⟩ : S8) = compress bs ⟨s0, s1, s2, s3, s4, s5, s6, s7⟩) (B off cap : Nat) (w : World) (hcap : 64 ≤ cap) (hB : B < w.heap.size) (hK : HoldK w) (hc : ∀ i, i < 64 → w.cell? ⟨B, off + i, none⟩ = some (.int .u8 ((bs i).toNat : Int))) :
    Calls Tryd.prog 115 #[.agg #[.int .u32 (s0.toNat : Int), .int .u32 (s1.toNat : Int), .int .u32 (s2.toNat : Int), .int .u32 (s3.toNat : Int), .int .u32 (s4.toNat : Int), .int .u32 (s5.toNat : Int), .int .u32 (s6.toNat : Int), .int .u32 (s7.toNat : Int)], .slice (some ⟨B, off, none⟩) 64 cap] w
      fun e w' => e = .returned (.agg #[.int .u32 (r0.toNat : Int), .int .u32 (r1.toNat : Int), .int .u32 (r2.toNat : Int), .int .u32 (r3.toNat : Int), .int .u32 (r4.toNat : Int), .int .u32 (r5.toNat : Int), .int .u32 (r6.toNat : Int), .int .u32 (r7.toNat : Int)]) ∧ Below w.heap.size w w' :=
  (comp_any bs s0 s1 s2 s3 s4 s5 s6 s7 B off cap w hcap hB hK hc).mono fun _ _ h => by rw [← hr] at h; exact h
theorem HoldS.lt {w wx : World} {sx : Str} (h : HoldS w sx wx) : w.heap.size + 1 < wx.heap.size := lt_of_block h.res
theorem HoldS.after {w wx wy : World} {sx : Str} (h : HoldS w sx wx) (hb : Below wx.heap.size wx.drew wy) : HoldS w sx wy := by
  have hlt := h.lt
  obtain ⟨h1, h2, h3, h4⟩ := h
  exact ⟨h1, (hb.block _ (by omega)).trans h2, (hb.block _ (by omega)).trans h3, h4.drew.trans (hb.mono (by omega))⟩
theorem HoldS.at_s {w wx : World} {sx : Str} (h : HoldS w sx wx) (i : Nat) (v : Value) (hv : sx.s.all.toList[i]? = some v) : wx.cell? ⟨w.heap.size, i, none⟩ = some v := by
  rw [cell_of_row _ _ _ _ _ _ h.box]; exact strm_s _ _ _ hv
theorem HoldS.at_b {w wx : World} {sx : Str} (h : HoldS w sx wx) (i : Nat) (hi : i < 64) : wx.cell? ⟨w.heap.size, 8 + i, none⟩ = some (.int .u8 ((bytesAt sx.blk i).toNat : Int)) := by
  rw [cell_of_row _ _ _ _ _ _ h.box]; exact strm_blk _ h.len _ hi
theorem HoldS.k {w wx : World} {sx : Str} (h : HoldS w sx wx) (h0 : 0 < w.heap.size) (hK : HoldK w) : HoldK wx := fun j v hv => (h.below.cell (p := ⟨0, 0 + j, none⟩) h0).trans (hK j v hv)
theorem HoldS.set_s {w wx : World} {sx : Str} (h : HoldS w sx wx) (r0 r1 r2 r3 r4 r5 r6 r7 : UInt32) : HoldS w ⟨⟨r0, r1, r2, r3, r4, r5, r6, r7⟩, sx.blk, sx.n⟩
    ((((((((wx.setCell ⟨w.heap.size, 0, none⟩ (u32v r0)).setCell ⟨w.heap.size, 1, none⟩ (u32v r1)).setCell ⟨w.heap.size, 2, none⟩ (u32v r2)).setCell ⟨w.heap.size, 3, none⟩ (u32v r3)).setCell ⟨w.heap.size, 4, none⟩ (u32v r4)).setCell ⟨w.heap.size, 5, none⟩ (u32v r5)).setCell ⟨w.heap.size, 6, none⟩ (u32v r6)).setCell ⟨w.heap.size, 7, none⟩ (u32v r7)) := by
  obtain ⟨h1, h2, h3, h4⟩ := h
  have g0 := heap_setCell_same _ _ 0 _ _ (u32v r0) h2
  have g1 := heap_setCell_same _ _ 1 _ _ (u32v r1) g0
  have g2 := heap_setCell_same _ _ 2 _ _ (u32v r2) g1
  have g3 := heap_setCell_same _ _ 3 _ _ (u32v r3) g2
  have g4 := heap_setCell_same _ _ 4 _ _ (u32v r4) g3
  have g5 := heap_setCell_same _ _ 5 _ _ (u32v r5) g4
  have g6 := heap_setCell_same _ _ 6 _ _ (u32v r6) g5
  have g7 := heap_setCell_same _ _ 7 _ _ (u32v r7) g6
  refine ⟨h1, g7.trans ?_, ?_, ?_⟩
  · apply congrArg (fun c => some (Obj.cells c 122 (0, 0)))
    apply Array.ext'
    simp [strm, strmL, S8.all, st8]
  · iterate 8 rw [heap_setCell_other _ _ _ _ (by show _ ≠ w.heap.size; omega)]
    exact h3
  · have hB : ∀ {W : World} (i : Nat) (u : Value), Below w.heap.size w W → Below w.heap.size w (W.setCell ⟨w.heap.size, i, none⟩ u) := fun i u h => h.setCell (p := ⟨w.heap.size, i, none⟩) (Nat.le_refl _) u
    exact hB 7 _ (hB 6 _ (hB 5 _ (hB 4 _ (hB 3 _ (hB 2 _ (hB 1 _ (hB 0 _ h4)))))))
theorem feed_step (sx : Str) (hb : sx.blk.length = 64) (tx : ByteArray) (a k : Nat) (ha : a = sx.n % 64) (hk : k = min tx.size (64 - a)) (h0 : 0 < tx.size) :
    feed ⟨if a + k = 64 then compress (bytesAt (put sx.blk a (tx.data.toList.take k))) sx.s else sx.s, put sx.blk a (tx.data.toList.take k), sx.n + k⟩ (tx.extract k tx.size).data.toList = feed sx tx.data.toList := by
  have hl : (tx.data.toList.take k).length = k := by rw [List.length_take, ← Lib.size_eq]; omega
  have hc := feed_chunk (tx.data.toList.take k) sx hb (by omega) (by omega)
  rw [hl, ← ha] at hc
  rw [← hc, Lib.extract_data, ← feed_append, List.take_of_length_le (l := tx.data.toList.drop k) (by rw [List.length_drop, ← Lib.size_eq]; exact Nat.le_refl _), List.take_append_drop]
theorem zero122 : Tryd.zeroCells122.size = 73 := by rfl
theorem strm_one (st : Str) : (strm st).all (fun x => x.oneCell') = true := by
  simp only [strm, strmL, List.all_toArray, List.all_eq_true, List.mem_append, List.mem_map, List.mem_singleton]
  rintro x ((h | ⟨y, _, rfl⟩) | rfl)
  · simp only [S8.all, st8, List.mem_cons, List.not_mem_nil, or_false] at h
    rcases h with rfl | rfl | rfl | rfl | rfl | rfl | rfl | rfl <;> rfl
  · rfl
  · rfl
def sizeOfStr : Value → Nat
  | .string s => s.size
  | _ => 0
set_option maxHeartbeats 1000000 in
theorem add_any (st : Str) (hlen : st.blk.length = 64) (text : ByteArray) (hn : st.n + text.size < 4611686018427387904) (w : World) (h0 : 0 < w.heap.size) (hK : HoldK w) :
    Calls Tryd.prog 98 #[.agg (strm st), .string text] w fun e w' => e = .returned (.agg (strm (feed st text.data.toList))) ∧ Below w.heap.size w w' := by
  have hK' := Lib.hid hK
  clear hK
  have hl' := Lib.hid hlen
  clear hlen
  go_enter Tryd.func98, Tryd.ntmps98
  go_wp2
  go_loopw [1] (fun v wr => ∃ (tx : ByteArray) (sx : Str), v = .string tx ∧ HoldS w sx wr ∧ feed sx tx.data.toList = feed st text.data.toList ∧ sx.n + tx.size = st.n + text.size) (fun v _ => sizeOfStr v)
  case atStart => exact ⟨text, st, rfl, ⟨hl'.out, heap_alloc2_old _ _ _, heap_alloc2_new _ _ _, ((Below.refl _ _).alloc (Nat.le_refl _) _).alloc (by simp) _⟩, rfl, rfl⟩
  case round =>
    obtain ⟨tx, sx, rfl, hold, hfeed, hnx⟩ := hrel
    have HF := Lib.hid hfeed
    have HN := Lib.hid hnx
    clear hfeed hnx
    have hsn : sx.n + tx.size < 4611686018427387904 := by rw [HN.out]; exact hn
    have cn : wr.cell? ⟨w.heap.size, 72, none⟩ = some (.int .u64 (sx.n : Int)) := by rw [cell_of_row _ _ _ _ _ _ hold.box, strm_n _ hold.len]
    have cf : wr.frozen? ⟨w.heap.size, 72, none⟩ = false := frozen_of_row _ _ _ _ _ hold.box
    have HO := Lib.hid hold
    clear hold
    obtain ⟨a, ha⟩ : ∃ a, a = sx.n % 64 := ⟨_, rfl⟩
    have hmod : ((sx.n : Int) % 64) = (a : Int) := by omega
    have ha64 : a < 64 := by omega
    have hai : (a : Int) < 64 := by omega
    have HA := Lib.hid ha
    clear ha
    by_cases hne : tx.toList.isEmpty = true
    · have hsz : strm sx = strm (feed st text.data.toList) := by
        rw [← HF.out]
        have : tx.data.toList = [] := by rw [← Lib.toList_data]; simpa using hne
        rw [this]; rfl
      have hone : (strm sx).all (fun x => x.oneCell') = true := strm_one sx
      have HSZ := Lib.hid hsz
      clear hsz
      go_wp2_with (first
        | ((with_reducible show wpList _ _ _ ((⟨_, Op.load 122 (.tmp 2), _, _, _, _⟩ : Oper) :: _) _ _); refine wpList_load_row rfl 122 (.tmp 2) rfl _ rfl _ _ _ _ HO.out.box Tryd.underlying122 rfl (by rw [strm_size _ HO.out.len]; exact info122) ?_)
        | ((with_reducible show wpList _ _ _ ((⟨_, Op.store 122 (.tmp 4) _, _, _, _, _⟩ : Oper) :: _) _ _); refine wpList_store_row rfl 122 (.tmp 4) (.tmp 37) rfl _ _ rfl rfl _ _ HO.out.res (by rw [strm_size _ HO.out.len]; exact info122) (by rw [strm_size _ HO.out.len]; exact zero122) hone ?_))
      have hrow : (wr.setRow (w.heap.size + 1) (strm sx)).heap[w.heap.size + 1]? = some (.cells (strm sx) 122 (0, 0)) := setRow_heap _ _ _ _ _ _ HO.out.res
      rw [HSZ.out] at hrow ⊢
      exact bodyPost_ret (v := .agg (strm (feed st text.data.toList))) (results_cell_row rfl _ _ (w.heap.size + 1) _ _ _ _ rfl hrow Tryd.underlying122 rfl (by rw [strm_size _ (by rw [feed_len]; exact hl'.out)]; exact info122)) rfl ⟨rfl, below_setRow HO.out.below (by omega) _⟩
    · have hne' : tx.toList.isEmpty = false := by simpa using hne
      have hsl := slice119 w.heap.size a ha64
      obtain ⟨k, hk⟩ : ∃ k, k = min tx.size (64 - a) := ⟨_, rfl⟩
      have hsz : 0 < tx.size := by
        rw [Lib.size_eq, ← Lib.toList_data]
        cases h : tx.toList with
        | nil => rw [h] at hne'; simp at hne'
        | cons => simp
      have hk1 : 0 < k := by omega
      have hk2 : k ≤ tx.size := by omega
      have hk3 : a + k ≤ 64 := by omega
      have HK3 := Lib.hid hk
      clear hk
      have hnk : (sx.n : Int) + (k : Int) < 4611686018427387904 := by omega
      by_cases hfull : a + k = 64
      · have hq : ((a : Int) + (k : Int) == 64) = true := by simp; omega
        have HFull := Lib.hid hfull
        clear hfull
        go_wp2_with ((with_reducible show wpList _ _ _ ((⟨_, Op.call _, _, _, _, _⟩ : Oper) :: _) _ _); refine copy_s HO.out rfl (.tmp 15) (.tmp 16) rfl a k tx ha64 HK3.out rfl rfl ?_; intro W3 h3; clear cn cf; have cn3 := h3.at_n; have cf3 := h3.free 72; have H3 := Lib.hid h3; clear h3; simp only at cn3)
        have H4 : Hid (HoldS w ⟨sx.s, put sx.blk a (tx.data.toList.take k), sx.n + k⟩ (W3.setCell ⟨w.heap.size, 72, none⟩ (.int .u64 ((sx.n : Int) + (k : Int))))) := by
          have h4 := H3.out.set_n (sx.n + k)
          rw [show (((sx.n + k : Nat)) : Int) = (sx.n : Int) + (k : Int) by omega] at h4
          exact Lib.hid h4
        generalize W3.setCell ⟨w.heap.size, 72, none⟩ (.int .u64 ((sx.n : Int) + (k : Int))) = W4 at H4 ⊢
        clear H3 cn3 cf3
        have hall := slice119_all w.heap.size
        obtain ⟨⟨a0, a1, a2, a3, a4, a5, a6, a7⟩, hsx⟩ : ∃ S, S = sx.s := ⟨_, rfl⟩
        rw [← hsx] at H4
        obtain ⟨⟨r0, r1, r2, r3, r4, r5, r6, r7⟩, hr⟩ : ∃ R, R = compress (bytesAt (put sx.blk a (tx.data.toList.take k))) ⟨a0, a1, a2, a3, a4, a5, a6, a7⟩ := ⟨_, rfl⟩
        have c0 := H4.out.at_s 0 _ rfl
        have c1 := H4.out.at_s 1 _ rfl
        have c2 := H4.out.at_s 2 _ rfl
        have c3 := H4.out.at_s 3 _ rfl
        have c4 := H4.out.at_s 4 _ rfl
        have c5 := H4.out.at_s 5 _ rfl
        have c6 := H4.out.at_s 6 _ rfl
        have c7 := H4.out.at_s 7 _ rfl
        simp only [u32v] at c0 c1 c2 c3 c4 c5 c6 c7
        have HSX := Lib.hid hsx
        have HR := Lib.hid hr
        clear hsx hr
        have hcall : ∀ wx, wx = W4.drew → Calls Tryd.prog 115 #[.agg #[.int .u32 (a0.toNat : Int), .int .u32 (a1.toNat : Int), .int .u32 (a2.toNat : Int), .int .u32 (a3.toNat : Int), .int .u32 (a4.toNat : Int), .int .u32 (a5.toNat : Int), .int .u32 (a6.toNat : Int), .int .u32 (a7.toNat : Int)], .slice (some ⟨w.heap.size, 8, none⟩) 64 64] wx
            fun e w' => e = .returned (.agg #[.int .u32 (r0.toNat : Int), .int .u32 (r1.toNat : Int), .int .u32 (r2.toNat : Int), .int .u32 (r3.toNat : Int), .int .u32 (r4.toNat : Int), .int .u32 (r5.toNat : Int), .int .u32 (r6.toNat : Int), .int .u32 (r7.toNat : Int)]) ∧ Below W4.heap.size W4.drew w' := by
          rintro _ rfl
          exact comp_ex (bytesAt (put sx.blk a (tx.data.toList.take k))) a0 a1 a2 a3 a4 a5 a6 a7 r0 r1 r2 r3 r4 r5 r6 r7 HR.out w.heap.size 8 64 W4.drew (by omega) (by have := H4.out.lt; show _ < W4.heap.size; omega) (H4.out.k h0 hK'.out) (fun i hi => H4.out.at_b i hi)
        have HCall := Lib.hid hcall
        clear hcall
        go_region_with ((go_at_call 115; with_reducible refine (HCall.out _ rfl).mono ?_; rintro e w5 ⟨rfl, hb5⟩; have h5 := H4.out.after hb5; clear c0 c1 c2 c3 c4 c5 c6 c7; have c0 := h5.at_s 0 _ rfl; have c1 := h5.at_s 1 _ rfl; have c2 := h5.at_s 2 _ rfl; have c3 := h5.at_s 3 _ rfl; have c4 := h5.at_s 4 _ rfl; have c5 := h5.at_s 5 _ rfl; have c6 := h5.at_s 6 _ rfl; have c7 := h5.at_s 7 _ rfl; have f0 := h5.free 0; have f1 := h5.free 1; have f2 := h5.free 2; have f3 := h5.free 3; have f4 := h5.free 4; have f5 := h5.free 5; have f6 := h5.free 6; have f7 := h5.free 7; have H5 := Lib.hid h5; clear h5 hb5; (simp only [u32v] at c0 c1 c2 c3 c4 c5 c6 c7)))
        all_goals go_wp2
        go_roundw
        case rel =>
          refine ⟨tx.extract k tx.size, ⟨⟨r0, r1, r2, r3, r4, r5, r6, r7⟩, put sx.blk a (tx.data.toList.take k), sx.n + k⟩, rfl, H5.out.set_s r0 r1 r2 r3 r4 r5 r6 r7, ?_, ?_⟩
          · rw [← HF.out, ← feed_step sx HO.out.len tx a k HA.out HK3.out hsz, if_pos HFull.out, ← HSX.out, ← HR.out]
          · rw [← HN.out, ByteArray.size_extract]
            show sx.n + k + (min tx.size tx.size - k) = _
            omega
        case measure =>
          show (tx.extract k tx.size).size < tx.size
          rw [ByteArray.size_extract]; omega
      · have hq : ((a : Int) + (k : Int) == 64) = false := by simp; omega
        have HFull := Lib.hid hfull
        clear hfull
        go_wp2_with ((with_reducible show wpList _ _ _ ((⟨_, Op.call _, _, _, _, _⟩ : Oper) :: _) _ _); refine copy_s HO.out rfl (.tmp 15) (.tmp 16) rfl a k tx ha64 HK3.out rfl rfl ?_; intro W3 h3; clear cn cf; have cn3 := h3.at_n; have cf3 := h3.free 72; have H3 := Lib.hid h3; clear h3; simp only at cn3)
        go_roundw
        case rel =>
          refine ⟨tx.extract k tx.size, ⟨sx.s, put sx.blk a (tx.data.toList.take k), sx.n + k⟩, rfl, ?_, ?_, ?_⟩
          · have h4 := H3.out.set_n (sx.n + k)
            rw [show (((sx.n + k : Nat)) : Int) = (sx.n : Int) + (k : Int) by omega] at h4
            exact h4
          · rw [← HF.out, ← feed_step sx HO.out.len tx a k HA.out HK3.out hsz, if_neg HFull.out]
          · rw [← HN.out, ByteArray.size_extract]
            show sx.n + k + (min tx.size tx.size - k) = _
            omega
        case measure =>
          show (tx.extract k tx.size).size < tx.size
          rw [ByteArray.size_extract]; omega
end Go.Proofs.YtfkpeabkcdhcfaaDoor
