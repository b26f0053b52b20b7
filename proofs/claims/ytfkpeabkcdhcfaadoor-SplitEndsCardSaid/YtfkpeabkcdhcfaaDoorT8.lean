/-
  Walk of the iterator of leaves.
  Walk of the iterator of leaves.
  A range over a function whose iterator writes rows of nodes of its own.
  Walk of split.All.
-/
import Derived.Test.YtfkpeabkcdhcfaaDoorT4
import Derived.Maps.OwnIn
import Derived.Deep.AppendLies
namespace Go.Proofs.YtfkpeabkcdhcfaaDoor
open Go.RowKit Go.Shelf
attribute [local go_sem] Oper.semAt_some
set_option maxRecDepth 100000
/-- a node: its first part, its number of parts, its sum -/
abbrev Nd := Nat × Nat × Int
def ndL (x : Nd) : List Value := [.int .i64 x.1, .int .i64 x.2.1, .int .i64 x.2.2]
/-- a stack's cells, its top first -/
def stC : List Nd → List Value
  | [] => []
  | x :: st => stC st ++ ndL x
theorem stC_len : ∀ st : List Nd, (stC st).length = st.length * 3
  | [] => rfl
  | x :: st => by simp [stC, ndL, stC_len st]; omega
def wN (n : Nat) : Nat := if n = 0 then 1 else 2 * n - 1
/-- a stack's weight, out of its cells -/
def wC : List Value → Nat
  | _ :: n :: _ :: r => wN (intOf n).toNat + wC r
  | _ => 0
theorem wC_app : ∀ (st : List Nd) (l : List Value), wC (stC st ++ l) = wC (stC st) + wC l
  | [], l => by simp [stC, wC]
  | x :: st, l => by
    have h1 := wC_app st (ndL x ++ l)
    have h2 := wC_app st (ndL x)
    simp only [stC, List.append_assoc]
    rw [h1, h2]
    simp [ndL, wC]; omega
theorem wC_cons (x : Nd) (st : List Nd) : wC (stC (x :: st)) = wC (stC st) + wN x.2.1 := by
  rw [stC, wC_app]; simp [ndL, wC, intOf]
theorem wC_len : ∀ st : List Nd, st.length ≤ wC (stC st)
  | [] => Nat.zero_le _
  | x :: st => by
    have := wC_len st
    rw [wC_cons]
    have h : 1 ≤ wN x.2.1 := by unfold wN; split <;> omega
    simp; omega
/-- the weight of the stack that a slice's value shows -/
def wV (v : Value) (w : World) : Nat := match v with
  | .slice (some a) n _ => match w.heap[a.block]? with
    | some (.cells cs _ _) => wC (cs.toList.take (n * 3))
    | _ => 0
  | _ => 0
theorem wV_own {w : World} {base : Nat} {v : Value} {st : List Nd} (h : w.ownsRow base 98 3 v st.length (stC st)) : wV v w = wC (stC st) := by
  rcases h.2 with ⟨h1, h2⟩ | ⟨g, cap, cur, h1, _, h3, _, _, _, h4⟩
  · have : st = [] := List.length_eq_zero_iff.1 h2
    subst this; subst h1; rfl
  · subst h1
    simp only [wV, h3, h4]
/-- the parts of a stack, its top first -/
def LVs (LV : Nd → List Int → Prop) : List Nd → List Int → Prop
  | [], ys => ys = []
  | x :: st, ys => ∃ y1 y2, LV x y1 ∧ LVs LV st y2 ∧ ys = y1 ++ y2
/-- the rule of a split: how a node's parts come out of its halves -/
structure Rule (seed : ByteArray) (v : Value) (l : List Int) (total N lo hi : Int) (LV : Nd → List Int → Prop) : Prop where
  two : ∀ x ys, LV x ys → 2 ≤ x.2.1 → ∃ p q y1 y2, LV p y1 ∧ LV q y2 ∧ ys = y1 ++ y2 ∧ 1 ≤ p.2.1 ∧ 1 ≤ q.2.1 ∧ p.2.1 + q.2.1 = x.2.1 ∧ ∀ w, Net seed v l w →
    Calls Tryd.prog 112 #[.agg (spV seed v total N lo hi), .agg (ndV x.1 x.2.1 x.2.2)] w fun e w' => e = .returned (.tuple #[.agg (ndV p.1 p.2.1 p.2.2), .agg (ndV q.1 q.2.1 q.2.2)]) ∧ Below w.heap.size w w'
  one : ∀ x ys, LV x ys → x.2.1 = 1 → ys = [x.2.2]
  none : ∀ x ys, LV x ys → x.2.1 = 0 → ys = []
/-- what a round of a loop over the parts keeps: what lay below n₀, and each node and split -/
structure KeptT (n₀ : Nat) (W W' : World) : Prop where
  below : Below n₀ W W'
  nd : ∀ (b : Nat) (cs : Array Value) (fr : Nat × Nat), W.heap[b]? = some (Obj.cells cs 98 fr) → W'.heap[b]? = some (Obj.cells cs 98 fr)
  sp : ∀ (b : Nat) (cs : Array Value) (fr : Nat × Nat), W.heap[b]? = some (Obj.cells cs 43 fr) → W'.heap[b]? = some (Obj.cells cs 43 fr)
theorem KeptT.trans {n₀ : Nat} {A B C : World} (h : KeptT n₀ A B) (k : KeptT n₀ B C) : KeptT n₀ A C :=
  ⟨h.below.trans k.below, fun b cs fr h1 => k.nd b cs fr (h.nd b cs fr h1), fun b cs fr h1 => k.sp b cs fr (h.sp b cs fr h1)⟩
theorem KeptT.own {n₀ base : Nat} {W W' : World} {v : Value} {n : Nat} {xs : List Value} (h : KeptT n₀ W W') (ho : W.ownsRow base 98 3 v n xs) : W'.ownsRow base 98 3 v n xs := by
  refine ⟨ho.1, ?_⟩
  rcases ho.2 with h1 | ⟨g, cap, cur, h1, h2, h3, h4⟩
  · exact .inl h1
  · exact .inr ⟨g, cap, cur, h1, h2, h.nd _ _ _ h3, h4⟩
/-- a popped stack -/
theorem own_pop {base g cap : Nat} {w : World} {x : Nd} {st : List Nd} (h : w.ownsRow base 98 3 (.slice (some ⟨g, 0, none⟩) (st.length + 1) cap) (st.length + 1) (stC (x :: st))) :
    w.ownsRow base 98 3 (.slice (some ⟨g, 0, none⟩) st.length cap) st.length (stC st) := by
  refine ⟨stC_len st, .inr ?_⟩
  rcases h.2 with ⟨h1, _⟩ | ⟨g', cap', cur, h1, h2, h3, h4, h5, h6, h7⟩
  · cases h1
  · simp only [Value.slice.injEq, Option.some.injEq, Addr.mk.injEq] at h1
    obtain ⟨⟨rfl, _⟩, _, rfl⟩ := h1
    refine ⟨g, cap, cur, rfl, h2, h3, by omega, h5, h6, ?_⟩
    have h8 : (cur.toList.take ((st.length + 1) * 3)).take (st.length * 3) = (stC (x :: st)).take (st.length * 3) := by rw [h7]
    rw [List.take_take, Nat.min_eq_left (by omega)] at h8
    rw [h8, stC, List.take_left' (stC_len st)]
end Go.Proofs.YtfkpeabkcdhcfaaDoor
namespace Go.Proofs.YtfkpeabkcdhcfaaDoor
open Go.RowKit Go.Shelf
attribute [local go_sem] Oper.semAt_some
theorem info98z : (Tryd.prog.info? 98).map (fun i => (i.zero, i.size, i.bytes)) = some (some (.agg #[.int .i64 0, .int .i64 0, .int .i64 0]), 3, 24) := by kernel_rfl
theorem own_later {base : Nat} {v : Value} {e : TypeId} {size n : Nat} {xs : List Value} {w w' : World} (h : w.ownsRow base e size v n xs) (hb : Below w.heap.size w w') : w'.ownsRow base e size v n xs := by
  refine ⟨h.1, ?_⟩
  rcases h.2 with h1 | ⟨g, cap, cur, h1, h2, h3, h4⟩
  · exact .inl h1
  · exact .inr ⟨g, cap, cur, h1, h2, (hb.block _ (lt_of_block h3)).trans h3, h4⟩
/-- J stands where new blocks are made, and where a walk's object or a row of nodes beyond B is written -/
def AbidesT {β : Type} (B : Nat) (J : β → World → Prop) : Prop :=
  ∀ s W W' row, J s W → W.grownBy W' row → (∀ r, row = some r → B ≤ r ∧ ∃ o : Obj, W.heap[r]? = some o ∧ (o.isWalk = true ∨ ∃ cs fr, o = .cells cs 98 fr)) → J s W'
theorem three_new {w : World} (w2 : World) (o1 o2 o3 : Obj) (h : Below w.heap.size w w2) : Below w.heap.size w (((w2.alloc o1).alloc o2).alloc o3) :=
  ((h.alloc h.size _).alloc (Nat.le_trans h.size (by simp)) _).alloc (Nat.le_trans h.size (by simp; omega)) _
theorem three_cell (w2 : World) (o1 o2 o3 : Obj) : (((w2.alloc o1).alloc o2).alloc o3).heap[w2.heap.size + 1 + 1]? = some o3 := by
  have := heap_alloc_new ((w2.alloc o1).alloc o2) o3
  rw [show ((w2.alloc o1).alloc o2).heap.size = w2.heap.size + 1 + 1 by simp] at this
  exact this
/-- two nodes are pushed -/
theorem push2 {F : Fence} {nF : Nat} {ops : Array Oper} {rest : List Oper} {o : Oper} {a : Act} {Q : Exit → Act → World → Prop} {w : World} (base : Nat) (hgd : o.guard = none) (s x : Operand)
    (ho : o.op = .call { callee := .builtin .append, args := #[s, x], argTypes := #[131, 131] }) (v : Value) (k : Nat) (st : List Nd) (hs : a.eval s = v) (hown : w.ownsRow base 98 3 v k (stC st)) (B c : Nat) (p q : Nd) (hx : a.eval x = .slice (some ⟨B, 0, none⟩) 2 c)
    (hB : w.heap[B]? = some (.cells #[.int .i64 q.1, .int .i64 q.2.1, .int .i64 q.2.2, .int .i64 p.1, .int .i64 p.2.1, .int .i64 p.2.2] 98 (0, 0))) (hk : k ≤ 2000) (hbase : base ≤ w.heap.size)
    (h : ∀ v' w', w'.ownsRow base 98 3 v' (k + 2) (stC (p :: q :: st)) → w.grownBy w' v.ownBlock → wpListIn F nF Tryd.prog ops Q rest (a.put o.dst v') w') : wpListIn F nF Tryd.prog ops Q (o :: rest) a w := by
  obtain ⟨i0, hi0, hz0, hz1, hz2⟩ := info_parts info98z
  refine wpListIn_append_own_at w hgd s x 131 ho base 98 i0 _ 3 24 Tryd.underlying131 hi0 hz0 hz1 hz2 rfl (by decide) v k (stC st) hs hown ⟨B, 0, none⟩ 2 c [.int .i64 q.1, .int .i64 q.2.1, .int .i64 q.2.2, .int .i64 p.1, .int .i64 p.2.1, .int .i64 p.2.2] hx rfl
    (World.news_of_block (cs := #[.int .i64 q.1, .int .i64 q.2.1, .int .i64 q.2.2, .int .i64 p.1, .int .i64 p.2.1, .int .i64 p.2.2]) hB) (by simp [Value.oneCell']) (by unfold maxLen; omega) (by omega) hbase ?_
  intro v' w' h1 h2 _ _
  refine h v' w' ?_ h2
  rw [stC, stC, List.append_assoc]
  exact h1
set_option maxRecDepth 100000 in
set_option maxHeartbeats 1000000 in
theorem leaves1_in (seed : ByteArray) (ad : Option Addr) (sn sc : Nat) (l : List Int) (total N lo hi : Int) (LV : Nd → List Int → Prop) (hR : Rule seed (.slice ad sn sc) l total N lo hi LV) (x0 : Nd) (ys : List Int) (h0 : LV x0 ys) (hx0 : x0.2.1 ≤ 1000) (m : Nat) (hm : 1 ≤ m) (lp Bn Bw : Nat) (wS : World) (hN : Net seed (.slice ad sn sc) l wS)
    (J Jx : List Int → World → Prop)
    (hY : ∀ pre x W, J pre W → pre.length < ys.length → YieldAt Fence.wide (m - 1) Tryd.prog lp #[.int .i64 x] W fun e W' =>
      (e = .returned (.bool true) ∧ J (pre ++ [x]) W' ∧ KeptT wS.heap.size W W') ∨ (e = .returned (.bool false) ∧ Jx (pre ++ [x]) W'))
    (W : World) (hW : Below wS.heap.size wS W) (hBn : W.heap[Bn]? = some (.cells (ndV x0.1 x0.2.1 x0.2.2) 98 (0, 0))) (hBw : W.heap[Bw]? = some (.cells (spV seed (.slice ad sn sc) total N lo hi) 43 (0, 0))) (hJ : AbidesT W.heap.size J) (hJ0 : J [] W) :
    CallsIn Fence.wide m Tryd.prog 111 #[.func (.yield lp) #[] #[], .pointer (some ⟨Bn, 0, none⟩), .pointer (some ⟨Bw, 0, none⟩)] W fun e W' => (∃ v, e = .returned v) ∧
      ((∃ zs, zs = ys ∧ J zs W') ∨ (∃ pre, pre <+: ys ∧ Jx pre W')) := by
  have HR := Lib.hid hR
  have HN := Lib.hid hN
  have HJ0 := Lib.hid hJ
  have HBW := Lib.hid hBw
  have HWS := Lib.hid hW.size
  have hc0 : W.cell? ⟨Bn, 0, none⟩ = some (.int .i64 x0.1) := cell_of_row _ _ _ _ _ _ hBn
  have hc1 : W.cell? ⟨Bn, 1, none⟩ = some (.int .i64 x0.2.1) := cell_of_row _ _ _ _ _ _ hBn
  have hc2 : W.cell? ⟨Bn, 2, none⟩ = some (.int .i64 x0.2.2) := cell_of_row _ _ _ _ _ _ hBn
  clear hR hN hJ hBw hBn
  refine callsIn_of_wp Tryd.func111 rfl trivial ?_ rfl
  simp only [Tryd.ntmps111, List.size_toArray, List.length_cons, List.length_nil, Nat.reduceAdd, Nat.reduceSub, Array.replicate_succ, Array.replicate_zero, List.push_toArray, List.append_toArray, List.nil_append, List.cons_append]
  gi_wp2
  gi_loopw [4] (fun c wr => ∃ (st : List Nd) (pre rest : List Int), wr.ownsRow W.heap.size 98 3 c st.length (stC st) ∧ wC (stC st) ≤ 2000 ∧ LVs LV st rest ∧ pre ++ rest = ys ∧ (Below wS.heap.size wS wr ∧ W.heap.size ≤ wr.heap.size ∧ wr.heap[Bw]? = some (.cells (spV seed (.slice ad sn sc) total N lo hi) 43 (0, 0))) ∧ J pre wr) (fun c wr => wV c wr)
  case atStart =>
    refine ⟨[x0], [], ys, ⟨rfl, .inr ⟨W.heap.size, 1, _, rfl, Nat.le_refl _, heap_alloc_new _ _, Nat.le_refl _, by unfold maxLen; omega, rfl, rfl⟩⟩, ?_, ⟨ys, [], h0, rfl, by simp⟩, rfl, ⟨hW.alloc hW.size _, by simp, ?_⟩, ?_⟩
    · rw [wC_cons]; simp only [stC, wC, wN]; split <;> omega
    · rw [Below.heap_alloc _ _ _ (lt_of_block HBW.out)]; exact HBW.out
    · exact HJ0.out _ W _ none hJ0 ⟨rfl, rfl, rfl, by simp, fun k hk _ => Below.heap_alloc _ _ _ hk⟩ (fun r e => by cases e)
  case round =>
    obtain ⟨st, pre, rest, hown, hwt, hlv, hys, hb, hJs⟩ := hrel
    have HB := Lib.hid hb
    have HJ := Lib.hid hJs
    clear hb hJs hc0 hc1 hc2 hJ0 hW h0
    cases st with
    | nil =>
      rcases hown.2 with ⟨rfl, _⟩ | ⟨g, cap, cur, rfl, _⟩
      · gi_wp2
        go_end0
        refine ⟨⟨_, rfl⟩, .inl ⟨pre, ?_, HJ.out⟩⟩
        rw [← hys, show rest = [] from hlv, List.append_nil]
      · gi_wp2
        go_end0
        refine ⟨⟨_, rfl⟩, .inl ⟨pre, ?_, HJ.out⟩⟩
        rw [← hys, show rest = [] from hlv, List.append_nil]
    | cons x st =>
      obtain ⟨xa, xn, xt⟩ := x
      obtain ⟨g, cap, rfl, hg1, hg2⟩ := hown.form (by simp)
      obtain ⟨k, hk⟩ : ∃ k, k = st.length := ⟨_, rfl⟩
      have hpop := own_pop hown
      have hlen : ((xa, xn, xt) :: st).length = k + 1 := by rw [hk]; rfl
      have e0 : wr.cell? ⟨g, k * 3, none⟩ = some (.int .i64 xa) := by rw [hown.cellAt _ (by rw [hlen]; omega), stC, hk, ← stC_len, List.getElem?_append_right (Nat.le_refl _), Nat.sub_self]; rfl
      have e1 : wr.cell? ⟨g, k * 3 + 1, none⟩ = some (.int .i64 xn) := by rw [hown.cellAt _ (by rw [hlen]; omega), stC, hk, ← stC_len, List.getElem?_append_right (by omega), Nat.add_sub_cancel_left]; rfl
      have e2 : wr.cell? ⟨g, k * 3 + 2, none⟩ = some (.int .i64 xt) := by rw [hown.cellAt _ (by rw [hlen]; omega), stC, hk, ← stC_len, List.getElem?_append_right (by omega), Nat.add_sub_cancel_left]; rfl
      rw [hlen]
      have HO := Lib.hid hown
      have HP := Lib.hid hpop
      have HWT := Lib.hid hwt
      have HLV := Lib.hid hlv
      have HG1 := Lib.hid hg1
      have HG2 := Lib.hid hg2
      have HK := Lib.hid hk
      clear hown hpop hwt hlv hg1 hg2 hk hlen
      have hk2 : k ≤ 2000 := by have := wC_len ((xa, xn, xt) :: st); have := HWT.out; have := HK.out; simp at *; omega
      have hwk : wrap64 (k : Int) = (k : Int) := by unfold wrap64; omega
      have hcap : k + 1 ≤ cap := by
        rcases HO.out.2 with ⟨h, _⟩ | ⟨g', cap', cur, h, _, _, h4, _⟩
        · cases h
        · simp only [Value.slice.injEq] at h
          rw [h.2.2, HK.out]; exact h4
      have hk0 : (0 : Int) ≤ (k : Int) := by omega
      have hkc : (k : Int) ≤ (cap : Int) := by omega
      have hk1 : (k : Int) < (k : Int) + 1 := by omega
      by_cases hn : 1 < xn
      · have hn' : 1 < (xn : Int) := by omega
        obtain ⟨y1, y2, hy1, hy2, hy3⟩ := HLV.out
        obtain ⟨⟨pa, pn, pt⟩, ⟨qa, qn, qt⟩, z1, z2, hp, hq, hz, hp1, hq1, hpq, hcall⟩ := HR.out.two _ _ hy1 hn
        have hbw := lt_of_block HB.out.2.2
        have b0 : wr.cell? ⟨Bw, 0, none⟩ = some (.string seed) := cell_of_row _ _ _ _ _ _ HB.out.2.2
        have b1 : wr.cell? ⟨Bw, 1, none⟩ = some (.slice ad sn sc) := cell_of_row _ _ _ _ _ _ HB.out.2.2
        have b2 : wr.cell? ⟨Bw, 2, none⟩ = some (.int .i64 total) := cell_of_row _ _ _ _ _ _ HB.out.2.2
        have b3 : wr.cell? ⟨Bw, 3, none⟩ = some (.int .i64 N) := cell_of_row _ _ _ _ _ _ HB.out.2.2
        have b4 : wr.cell? ⟨Bw, 4, none⟩ = some (.int .i64 lo) := cell_of_row _ _ _ _ _ _ HB.out.2.2
        have b5 : wr.cell? ⟨Bw, 5, none⟩ = some (.int .i64 hi) := cell_of_row _ _ _ _ _ _ HB.out.2.2
        have hal : Below wr.heap.size wr (wr.alloc (.cells #[.int .i64 xa, .int .i64 xn, .int .i64 xt] 98)) := (Below.refl _ _).alloc (Nat.le_refl _) _
        have hc := hcall _ (HN.out.later (HB.out.1.trans (hal.mono HB.out.1.size)))
        unfold spV ndV at hc
        have HC := Lib.hid hc
        have HAL := Lib.hid hal
        have HY3 := Lib.hid hy3
        have HY2 := Lib.hid hy2
        have HZ := Lib.hid hz
        have HPQ := Lib.hid (And.intro hp hq)
        dsimp only at hp1 hq1 hpq
        clear hc hcall hal hy3 hy2 hy1 hz hp hq hY
        gi_wp2_with (first
          | (refine ⟨trivial, ?_⟩; gi_at_call 112; refine (callsIn_wide.2 HC.out).mono ?_; rintro e w2 ⟨rfl, hb2⟩; have HB2 := Lib.hid (HAL.out.trans (hb2.mono HAL.out.size)); clear hb2)
          | (gi_at_builtin
             (with_reducible show wpListIn _ _ _ _ _ ((⟨_, Op.call {callee := .builtin .append, args := _, argTypes := _}, _, _, _, _⟩ : Oper) :: _) _ _)
             refine push2 W.heap.size rfl _ _ rfl (.slice (some ⟨g, 0, none⟩) k cap) k st rfl (own_later (by rw [HK.out]; exact HP.out) (three_new w2 _ _ _ HB2.out)) (w2.heap.size + 1 + 1) 2 (pa, pn, pt) (qa, qn, qt) rfl (three_cell w2 _ _ _) hk2 (Nat.le_trans HB.out.2.1 (three_new w2 _ _ _ HB2.out).size) ?_
             intro v5 w5 hown5 hgrow5
             have HO5 := Lib.hid hown5
             have HG5 := Lib.hid hgrow5
             clear hown5 hgrow5))
        have hwt2 : wC (stC ((pa, pn, pt) :: (qa, qn, qt) :: st)) < wC (stC (((xa, xn, xt) : Nd) :: st)) := by
          simp only [wC_cons, wN]
          rw [if_neg (by omega), if_neg (by omega), if_neg (by omega)]
          omega
        have ho5 : w5.ownsRow W.heap.size 98 3 v5 ((pa, pn, pt) :: (qa, qn, qt) :: st).length (stC ((pa, pn, pt) :: (qa, qn, qt) :: st)) := by
          have := HO5.out
          rw [HK.out] at this
          exact this
        have hb6 := three_new w2 (.cells #[.int .i64 pa, .int .i64 pn, .int .i64 pt] 98) (.cells #[.int .i64 qa, .int .i64 qn, .int .i64 qt] 98) (.cells #[.int .i64 qa, .int .i64 qn, .int .i64 qt, .int .i64 pa, .int .i64 pn, .int .i64 pt] 98) HB2.out
        have hJ6 := HJ0.out _ wr _ none HJ.out ⟨hb6.os, hb6.tape, hb6.output, hb6.size, fun k hk _ => hb6.block k hk⟩ (fun r e => by cases e)
        have hgo : ∃ o, (((w2.alloc (.cells #[.int .i64 pa, .int .i64 pn, .int .i64 pt] 98)).alloc (.cells #[.int .i64 qa, .int .i64 qn, .int .i64 qt] 98)).alloc (.cells #[.int .i64 qa, .int .i64 qn, .int .i64 qt, .int .i64 pa, .int .i64 pn, .int .i64 pt] 98)).heap[g]? = some o ∧ (o.isWalk = true ∨ ∃ cs fr, o = .cells cs 98 fr) := by
          have hx := own_later HP.out hb6
          rcases hx.2 with ⟨h1, _⟩ | ⟨g', cap', cur, h1, _, h3, _⟩
          · cases h1
          · simp only [Value.slice.injEq, Option.some.injEq, Addr.mk.injEq] at h1
            obtain ⟨⟨rfl, _⟩, _⟩ := h1
            exact ⟨_, h3, .inr ⟨_, _, rfl⟩⟩
        have hJ5 := HJ0.out _ _ _ _ hJ6 HG5.out (fun r e => by cases e; exact ⟨HG1.out, hgo⟩)
        have hbs : Below wS.heap.size wS w5 := (HB.out.1.trans (hb6.mono HB.out.1.size)).grown HG5.out (Nat.le_trans HB.out.1.size hb6.size) (fun j ej => by cases ej; exact Nat.le_trans HWS.out HG1.out)
        have hsz : W.heap.size ≤ w5.heap.size := Nat.le_trans (Nat.le_trans HB.out.2.1 hb6.size) HG5.out.size
        have hbl := lt_of_block HBW.out
        have hsp : w5.heap[Bw]? = some (.cells (spV seed (.slice ad sn sc) total N lo hi) 43 (0, 0)) := by
          have hg := HG1.out
          rw [HG5.out.block Bw (Nat.lt_of_lt_of_le hbw hb6.size) (by intro h; simp [Value.ownBlock] at h; omega), hb6.block _ hbw]
          exact HB.out.2.2
        have H5 := Lib.hid hJ5
        have H6 := Lib.hid hsp
        have H7 := Lib.hid hbs
        have H8 := Lib.hid hsz
        have H9 := Lib.hid ho5
        have HW2 := Lib.hid hwt2
        clear hJ5 hJ6 hsp hbs hsz ho5 hwt2 hb6
        go_roundw
        case rel =>
          refine ⟨(pa, pn, pt) :: (qa, qn, qt) :: st, pre, rest, H9.out, Nat.le_trans (Nat.le_of_lt HW2.out) HWT.out, ⟨z1, z2 ++ y2, HPQ.out.1, ⟨z2, y2, HPQ.out.2, HY2.out, rfl⟩, ?_⟩, hys, ⟨H7.out, H8.out, H6.out⟩, H5.out⟩
          rw [HY3.out, HZ.out, List.append_assoc]
        case measure =>
          have e1 := wV_own HO.out
          rw [show (((xa, xn, xt) : Nd) :: st).length = k + 1 by rw [HK.out]; rfl] at e1
          rw [wV_own H9.out, e1]
          exact HW2.out
      · rcases (show xn = 1 ∨ xn = 0 by omega) with rfl | rfl
        · obtain ⟨y1, y2, hy1, hy2, hy3⟩ := HLV.out
          have hy1' := HR.out.one _ _ hy1 rfl
          subst hy1'
          have hJ2 : J pre (wr.alloc (.cells #[.int .i64 xa, .int .i64 1, .int .i64 xt] 98)) := HJ0.out _ wr _ none HJ.out ⟨rfl, rfl, rfl, by simp, fun k hk _ => Below.heap_alloc _ _ _ hk⟩ (fun r e => by cases e)
          obtain ⟨fn, tmps, assign, body, hy, hYR⟩ := hY pre xt _ hJ2 (by rw [← hys, hy3]; simp)
          have HJ2 := Lib.hid hJ2
          have HY3 := Lib.hid hy3
          have HY2 := Lib.hid hy2
          clear hJ2 hy3 hy2 hy1
          gi_wp2_with fail
          refine hYR.mono ?_
          rintro e W3 (⟨rfl, hJ3, hk3⟩ | ⟨rfl, hJx3⟩)
          · have HJ3 := Lib.hid hJ3
            have HK3 := Lib.hid hk3
            clear hJ3 hk3 hYR hy
            have hal : Below wr.heap.size wr (wr.alloc (.cells #[.int .i64 xa, .int .i64 1, .int .i64 xt] 98)) := (Below.refl _ _).alloc (Nat.le_refl _) _
            have hown3 := HK3.out.own (HP.out.alloc (.cells #[.int .i64 xa, .int .i64 1, .int .i64 xt] 98))
            rw [← HK.out] at hown3
            have HAL := Lib.hid hal
            have HO3 := Lib.hid hown3
            clear hal hown3
            gi_wp2
            go_roundw
            case rel =>
              refine ⟨st, pre ++ [xt], y2, by rw [← HK.out]; exact HO3.out, ?_, HY2.out, ?_, ⟨(HB.out.1.trans (HAL.out.mono HB.out.1.size)).trans HK3.out.below, ?_, ?_⟩, HJ3.out⟩
              · have := HWT.out; rw [wC_cons] at this; omega
              · rw [← hys, HY3.out]; simp
              · have h1 := HB.out.2.1; have h2 := HAL.out.size; have h3 := HK3.out.below.size; omega
              · exact HK3.out.sp _ _ _ ((HAL.out.block _ (lt_of_block HB.out.2.2)).trans HB.out.2.2)
            case measure =>
              have e1 := wV_own HO.out
              have e2 := wV_own (st := st) (by rw [← HK.out]; exact HO3.out)
              rw [wC_cons, show (((xa, 1, xt) : Nd) :: st).length = k + 1 by rw [HK.out]; rfl] at e1
              rw [e1, e2]
              simp [wN]
          · gi_wp2
            refine bodyPost_ret (results_none rfl _ _ _) rfl ?_
            exact ⟨⟨_, rfl⟩, .inr ⟨pre ++ [xt], by rw [← hys, HY3.out]; simp, hJx3⟩⟩
        · obtain ⟨y1, y2, hy1, hy2, hy3⟩ := HLV.out
          have hy1' := HR.out.none _ _ hy1 rfl
          subst hy1'
          have hJ2 : J pre (wr.alloc (.cells #[.int .i64 xa, .int .i64 0, .int .i64 xt] 98)) := HJ0.out _ wr _ none HJ.out ⟨rfl, rfl, rfl, by simp, fun k hk _ => Below.heap_alloc _ _ _ hk⟩ (fun r e => by cases e)
          have hal : Below wr.heap.size wr (wr.alloc (.cells #[.int .i64 xa, .int .i64 0, .int .i64 xt] 98)) := (Below.refl _ _).alloc (Nat.le_refl _) _
          have hown3 := HP.out.alloc (.cells #[.int .i64 xa, .int .i64 0, .int .i64 xt] 98)
          rw [← HK.out] at hown3
          have HAL := Lib.hid hal
          have HO3 := Lib.hid hown3
          have HJ2 := Lib.hid hJ2
          have HY3 := Lib.hid hy3
          have HY2 := Lib.hid hy2
          clear hal hown3 hJ2 hy3 hy2 hy1
          gi_wp2_with (first | ((with_reducible show (∀ f : FuncId, none = some f → _) ∧ _); refine And.intro (fun f h => nomatch h) ?_))
          go_roundw
          case rel =>
            refine ⟨st, pre, y2, by rw [← HK.out]; exact HO3.out, ?_, HY2.out, ?_, ⟨HB.out.1.trans (HAL.out.mono HB.out.1.size), ?_, ?_⟩, HJ2.out⟩
            · have := HWT.out; rw [wC_cons] at this; omega
            · rw [← hys, HY3.out]; simp
            · have h1 := HB.out.2.1; have h2 := HAL.out.size; omega
            · exact (HAL.out.block _ (lt_of_block HB.out.2.2)).trans HB.out.2.2
          case measure =>
            have e1 := wV_own HO.out
            have e2 := wV_own (st := st) (by rw [← HK.out]; exact HO3.out)
            rw [wC_cons, show (((xa, 0, xt) : Nd) :: st).length = k + 1 by rw [HK.out]; rfl] at e1
            rw [e1, e2]
            simp [wN]
end Go.Proofs.YtfkpeabkcdhcfaaDoor
namespace Go.Proofs.YtfkpeabkcdhcfaaDoor
open Go.RowKit Go.Shelf
attribute [local go_sem] Oper.semAt_some
/-- what the caller's relation abides -/
def OwnT {β : Type} (B : Nat) (I : β → World → Prop) : Prop :=
  ∀ s W W' row, I s W → W.grownBy W' row → (∀ r, row = some r → B ≤ r ∧ ∃ o : Obj, W.heap[r]? = some o ∧ (o.isCells = false ∨ ∃ cs fr, o = .cells cs 98 fr)) → I s W'
theorem OwnT.alloc {β : Type} {B : Nat} {I : β → World → Prop} (h : OwnT B I) {s : β} {W : World} (hs : I s W) (o : Obj) : I s (W.alloc o) :=
  h s W _ none hs (World.grownBy_alloc W o none) (fun r e => by cases e)
theorem OwnT.put {β : Type} {B : Nat} {I : β → World → Prop} (h : OwnT B I) {s : β} {W : World} {l : Nat} {o : Obj} (o' : Obj) (hs : I s W) (hB : B ≤ l) (hl : W.heap[l]? = some o) (ho : o.isCells = false) : I s (W.putObj l o') :=
  h s W _ (some l) hs (grownBy_putObj' W l o') (fun r e => by cases e; exact ⟨hB, o, hl, .inl ho⟩)
theorem KeptT.put {n₀ : Nat} {W : World} (hn : n₀ ≤ W.heap.size) {l : Nat} {o : Obj} (o' : Obj) (hl : n₀ ≤ l) (h : W.heap[l]? = some o) (h1 : o.isCells = false) : KeptT n₀ W (W.putObj l o') := by
  have hne : ∀ b cs t fr, W.heap[b]? = some (Obj.cells cs t fr) → b ≠ l := fun b cs t fr hb e => by
    subst e; rw [h] at hb; cases hb; cases h1
  refine ⟨(Below.refl n₀ W).grown (grownBy_putObj' W l o') hn (fun k e => by cases e; exact hl), fun b cs fr hb => ?_, fun b cs fr hb => ?_⟩
  · exact (World.putObj_heap_other (hne b cs 98 fr hb)).trans hb
  · exact (World.putObj_heap_other (hne b cs 43 fr hb)).trans hb
/-- the iterator hands out ys; it writes walks' objects and rows of nodes beyond B alone -/
def SeqT (m gf : Nat) (lb : Array Value) (ys : List Int) (n₀ : Nat) (w : World) : Prop :=
  ∀ (l : Nat) (J : List Int → World → Prop) (W : World), Below w.heap.size w W → AbidesT W.heap.size J →
    (∀ pre x W1, J pre W1 → pre.length < ys.length → YieldAt Fence.wide (m - 1) Tryd.prog l #[.int .i64 x] W1 fun e W' => e = .returned (.bool true) ∧ J (pre ++ [x]) W' ∧ KeptT n₀ W1 W') → J [] W →
    CallsIn Fence.wide m Tryd.prog gf (#[.func (.yield l) #[] #[]] ++ lb) W fun e W' => (∃ v, e = .returned v) ∧ J ys W'
theorem range_all {n : Nat} {g : Operand} {ps : Array Tmp} {assign body : Code} {Q : Exit → Act → World → Prop} {a : Act} {w : World} (h1 : 1 ≤ n) {gf : Nat} {lb : Array Value} (hg : a.eval g = .func (.func gf) #[] lb)
    (eg : ∀ args w, (callFunc gf args).run Tryd.prog w = .ok (.enter gf args) w) {ys : List Int} {n₀ : Nat} (hn₀ : n₀ ≤ w.heap.size) (hps : ps.size = 1) (hseq : SeqT (n - 1) gf lb ys n₀ w) (I : List Int → World → Prop) (hI : OwnT w.heap.size I) (h0 : I [] w) (a₁ : Int → Act)
    (hassign : ∀ (l : Nat) (x : Int) (W : World) (K : Act → World → Prop), K (a₁ x) W → assign.wpIn (Fence.wide.inRound l) (n - 1 - 1) Tryd.prog (Exit.then K (fun _ _ _ => False)) { tmps := (ps.zip #[.int .i64 x]).foldl (fun t (p, v) => t.setIfInBounds p v) a.tmps, defers := [] } W)
    (hbody : ∀ (l : Nat) (pre : List Int) (x : Int) (W : World), I pre W → pre.length < ys.length → body.wpIn (Fence.wide.inRound l) (n - 1 - 1) Tryd.prog (fun e _ W' => e = .normal ∧ KeepsOthers W W' ∧ KeptT n₀ W W' ∧ I (pre ++ [x]) W') (a₁ x) W)
    (hdone : ∀ (D : Nat) (W : World), w.heap.size ≤ D → I ys W → W.heap[D]? = some (.deferred (some [])) → Q .normal { a with defers := { target := .collected D, args := #[] } :: a.defers } W) :
    (Code.rangeFunc g ps assign body).wpIn Fence.wide n Tryd.prog Q a w := by
  refine wpIn_rangeFunc fun fn hfn => ?_
  rw [show Fence.wide.round = none from rfl]
  let rec0 : Loop := { state := .ready, pending := none, fn, tmps := a.tmps, params := ps, assign, body, defers := w.heap.size }
  let B := w.heap.size
  obtain ⟨V, hV⟩ : ∃ V, V = (w.alloc (.deferred (some []))).alloc (.loop rec0) := ⟨_, rfl⟩
  have hsB : (w.alloc (.deferred (some []))).heap.size = B + 1 := by simp [B]
  have hloop : V.heap[B + 1]? = some (.loop rec0) := by
    rw [hV, ← hsB]; exact World.alloc_heap_new _ _
  have hmark : V.heap[B]? = some (.deferred (some [])) := by
    rw [hV, Below.heap_alloc _ _ _ (by rw [hsB]; exact Nat.lt_succ_self _)]; exact World.alloc_heap_new w _
  have hIV : I [] V := by rw [hV]; exact hI.alloc (hI.alloc h0 _) _
  have hbV : Below w.heap.size w V := by rw [hV]; exact ((Below.refl _ w).alloc (Nat.le_refl _) _).alloc (by simp) _
  refine ⟨B + 1, [{ target := .collected B, args := #[] }], V, { target := .fn (.func gf) lb, args := #[.func (.yield (B + 1)) #[] #[]] }, V, gf, #[.func (.yield (B + 1)) #[] #[]] ++ lb, V, ?_, ?_, fun _ _ => trivial, ?_, fun _ => h1, ?_⟩
  · rw [hV]; exact run_enterLoop_outer _ _ _ _ _
  · simp only [resolve, hg]
    simp [go_sem]
  · simp [invoke, go_sem, eg]
  have hltV : B + 1 < V.heap.size := (Array.getElem?_eq_some_iff.1 hloop).1
  refine (hseq (B + 1) (fun pre W => I pre W ∧ W.heap[B + 1]? = some (.loop rec0) ∧ W.heap[B]? = some (.deferred (some []))) V hbV ?_ ?_ ⟨hIV, hloop, hmark⟩).mono ?_
  · intro s W W' row hs hg' hr
    have hne : ∀ j, j < V.heap.size → some j ≠ row := fun j hj e => by have := (hr j e.symm).1; omega
    refine ⟨hI s W W' row hs.1 hg' fun r e => ?_, (hg'.block _ (Array.getElem?_eq_some_iff.1 hs.2.1).1 (hne _ hltV)).trans hs.2.1, (hg'.block _ (Array.getElem?_eq_some_iff.1 hs.2.2).1 (hne _ (by omega))).trans hs.2.2⟩
    obtain ⟨h3, o, ho, hw⟩ := hr r e
    exact ⟨by show B ≤ r; omega, o, ho, hw.imp Obj.not_cells_of_walk id⟩
  · rintro pre x W ⟨hi, hl, hd⟩ hlen
    have hlt := (Array.getElem?_eq_some_iff.1 hl).1
    have hy := run_yield (P := Tryd.prog) (args := #[.int .i64 x]) hl (by rw [hps]; rfl)
    refine ⟨fn, _, assign, body, hy, roundIn_of_wpIn hfn (hassign _ x W _ ⟨_, run_beginRound hl rfl, ?_⟩)⟩
    obtain ⟨W2, hW2⟩ : ∃ W2, W2 = W.putObj (B + 1) (.loop { rec0 with state := .busy }) := ⟨_, rfl⟩
    have hl2 : W2.heap[B + 1]? = some (.loop { rec0 with state := .busy }) := by rw [hW2]; exact World.putObj_heap_same hlt
    have hd2 : W2.heap[B]? = some (.deferred (some [])) := by rw [hW2]; exact (World.putObj_heap_other (by omega)).trans hd
    have hi2 : I pre W2 := by rw [hW2]; exact hI.put _ hi (Nat.le_succ _) hl rfl
    have hk2 : KeptT n₀ W W2 := by rw [hW2]; exact KeptT.put (by omega) _ (by omega) hl rfl
    rw [← hW2]
    refine wpIn_mono (hbody _ pre x W2 hi2 hlen) ?_
    rintro e a3 W3 ⟨rfl, hk, hkt, hx⟩
    have hl3 := hk.same _ _ hl2 rfl
    have hd3 := hk.same _ _ hd2 rfl
    have hlt3 := (Array.getElem?_eq_some_iff.1 hl3).1
    refine ⟨_, _, run_endRound none hl3, rfl, ⟨hI.put _ hx (Nat.le_succ _) hl3 rfl, World.putObj_heap_same hlt3, (World.putObj_heap_other (by omega)).trans hd3⟩, (hk2.trans hkt).trans (KeptT.put (by omega) _ (by omega) hl3 rfl)⟩
  · rintro e W2 ⟨⟨v, rfl⟩, hx, hl, hd⟩
    exact ⟨none, _, run_endLoop hl (by simp [rec0]), hdone B _ (Nat.le_refl _) (hI.put _ hx (Nat.le_succ _) hl rfl) ((World.putObj_heap_other (by omega)).trans hd)⟩
end Go.Proofs.YtfkpeabkcdhcfaaDoor
namespace Go.Proofs.YtfkpeabkcdhcfaaDoor
open Go.RowKit Go.Shelf
attribute [local go_sem] Oper.semAt_some
theorem leaves_seq (seed : ByteArray) (ad : Option Addr) (sn sc : Nat) (l : List Int) (total N lo hi : Int) (LV : Nd → List Int → Prop) (hR : Rule seed (.slice ad sn sc) l total N lo hi LV) (x0 : Nd) (ys : List Int) (h0 : LV x0 ys) (hx0 : x0.2.1 ≤ 1000) (m : Nat) (hm : 1 ≤ m) (Bn Bw : Nat) (wS w : World) (hN : Net seed (.slice ad sn sc) l wS)
    (hw : Below wS.heap.size wS w) (hBn : w.heap[Bn]? = some (.cells (ndV x0.1 x0.2.1 x0.2.2) 98 (0, 0))) (hBw : w.heap[Bw]? = some (.cells (spV seed (.slice ad sn sc) total N lo hi) 43 (0, 0))) :
    SeqT m 111 #[.pointer (some ⟨Bn, 0, none⟩), .pointer (some ⟨Bw, 0, none⟩)] ys wS.heap.size w :=
  fun lp J W hW hJ hY hJ0 => by
    refine (leaves1_in seed ad sn sc l total N lo hi LV hR x0 ys h0 hx0 m hm lp Bn Bw wS hN J (fun _ _ => False) (fun pre x W1 h1 h2 => ?_) W (hw.trans (hW.mono hw.size)) ((hW.block _ (lt_of_block hBn)).trans hBn) ((hW.block _ (lt_of_block hBw)).trans hBw) hJ hJ0).mono ?_
    · obtain ⟨fn, tmps, assign, body, h3, h4⟩ := hY pre x W1 h1 h2
      exact ⟨fn, tmps, assign, body, h3, h4.mono fun _ _ h => .inl h⟩
    · rintro e W' ⟨hv, (⟨zs, rfl, h⟩ | ⟨_, _, h⟩)⟩
      · exact ⟨hv, h⟩
      · exact h.elim
/-- what has been gathered: the box at G holds a slice that owns pre -/
def Got (n₀ G : Nat) (pre : List Int) (W : World) : Prop := ∃ v, Boxed W G 22 v ∧ W.ownsRow n₀ 3 1 v pre.length (pre.map (Value.int .i64))
theorem got_own (n₀ G B : Nat) : OwnT B (fun pre W => Got n₀ G pre W) := by
  intro pre W W' row ⟨v, hv, hrow⟩ hg hr
  have key : ∀ (b : Nat) (cs : Array Value) (t : TypeId) (fr : Nat × Nat), t ≠ 98 → W.heap[b]? = some (.cells cs t fr) → W'.heap[b]? = some (.cells cs t fr) := by
    intro b cs t fr ht hb
    refine (hg.block b (Array.getElem?_eq_some_iff.1 hb).1 fun e => ?_).trans hb
    obtain ⟨_, o, ho, h⟩ := hr b e.symm
    rw [hb] at ho
    cases ho
    rcases h with h | ⟨cs', fr', h⟩
    · cases h
    · cases h; exact ht rfl
  refine ⟨v, key _ _ _ _ (by decide) hv, hrow.1, ?_⟩
  rcases hrow.2 with h | ⟨g, cap, cur, h1, h2, h3, h4⟩
  · exact .inl h
  · exact .inr ⟨g, cap, cur, h1, h2, key _ _ _ _ (by decide) h3, h4⟩
theorem below_own {β : Type} (n₀ B : Nat) (w₀ : World) (hn : n₀ ≤ w₀.heap.size) (hB : n₀ ≤ B) : OwnT B (fun (_ : β) W => Below n₀ w₀ W) :=
  fun _ _ _ _ hs hg hr => hs.grown hg (Nat.le_trans hn hs.size) (fun k e => Nat.le_trans hB (hr k e).1)
theorem OwnT.and {β : Type} {B : Nat} {I I' : β → World → Prop} (h : OwnT B I) (h' : OwnT B I') : OwnT B (fun s W => I s W ∧ I' s W) := fun s W W' row hs hg hr => ⟨h s W W' row hs.1 hg hr, h' s W W' row hs.2 hg hr⟩
/-- 'out = append(out, x)', whether or not the row grows: what stands behind the store -/
theorem out_grow {W w5 : World} {n₀ G k k' : Nat} {xs ys : List Value} {v v' : Value} {tmp : Obj} (hv : Boxed W G 22 v) (hrow : W.ownsRow n₀ 3 1 v k xs) (hn₀ : n₀ ≤ W.heap.size) (hG : n₀ ≤ G) (hown : w5.ownsRow n₀ 3 1 v' k' ys) (hgrow : (W.alloc tmp).grownBy w5 v.ownBlock) :
    Boxed w5 G 22 v ∧ Boxed (w5.setCell ⟨G, 0, none⟩ v') G 22 v' ∧ (w5.setCell ⟨G, 0, none⟩ v').ownsRow n₀ 3 1 v' k' ys ∧ KeepsOthers W (w5.setCell ⟨G, 0, none⟩ v') ∧ KeptT n₀ W (w5.setCell ⟨G, 0, none⟩ v') := by
  have hrt : ∀ j, v.ownBlock = some j → ∃ cur fr, (W.alloc tmp).heap[j]? = some (.cells cur 3 fr) := fun j e => by
    rcases (hrow.alloc tmp).2 with ⟨rfl, _⟩ | ⟨g, cap, cur, rfl, _, h, _⟩
    · cases e
    · cases e; exact ⟨cur, _, h⟩
  have hva : Boxed (W.alloc tmp) G 22 v := hv.alloc tmp
  have hne : ∀ j, v.ownBlock = some j → j ≠ G := fun j e h => by
    obtain ⟨cur, fr, h1⟩ := hrt j e
    rw [h] at h1
    have h2 : (W.alloc tmp).heap[G]? = some (.cells #[v] 22 (0, 0)) := hva
    rw [h2] at h1; cases h1
  have hv1 : Boxed w5 G 22 v := (hgrow.block G (lt_of_block hva) (fun e => hne G e.symm rfl)).trans hva
  have hne' : ∀ j, v'.ownBlock = some j → j ≠ G := fun j e h => by
    rcases hown.2 with ⟨rfl, _⟩ | ⟨g, cap, cur, rfl, _, h1, _⟩
    · cases e
    · cases e
      have h2 : w5.heap[G]? = some (.cells #[v] 22 (0, 0)) := hv1
      rw [← h, h1] at h2; cases h2
  have hb5 : Below n₀ W w5 := ((Below.refl n₀ W).alloc hn₀ tmp).grown hgrow (by simp; omega) fun j ej => (hrow.lt j ej).1
  have hkt : ∀ (b : Nat) (cs : Array Value) (t : TypeId) (fr : Nat × Nat), t ≠ 3 → t ≠ 22 → W.heap[b]? = some (.cells cs t fr) → (w5.setCell ⟨G, 0, none⟩ v').heap[b]? = some (.cells cs t fr) := fun b cs t fr h3 h22 hb => by
    have hbG : b ≠ G := fun e => by
      have h2 : W.heap[G]? = some (.cells #[v] 22 (0, 0)) := hv
      rw [e, h2] at hb; cases hb; exact h22 rfl
    have hba : (W.alloc tmp).heap[b]? = some (.cells cs t fr) := (Below.heap_alloc _ _ _ (lt_of_block hb)).trans hb
    rw [heap_setCell_other _ _ _ _ hbG, hgrow.block b (lt_of_block hba) (fun e => ?_)]
    · exact hba
    · obtain ⟨cur, fr', h1⟩ := hrt b e.symm
      rw [hba] at h1; cases h1; exact h3 rfl
  refine ⟨hv1, hv1.set v', hown.kept (grownBy_setCell' w5 G v') ?_, ?_, hb5.setCell (p := ⟨G, 0, none⟩) hG v', fun b cs fr hb => hkt b cs 98 fr (by decide) (by decide) hb, fun b cs fr hb => hkt b cs 43 fr (by decide) (by decide) hb⟩
  · rcases h : v'.ownBlock with _ | j
    · exact .inl rfl
    · exact .inr fun e => hne' j h (by cases e; rfl)
  · refine ((KeepsOthers.alloc W tmp).trans (KeepsOthers.of_grownBy hgrow fun j o ej hj => ?_)).trans (KeepsOthers.setCell _ _ _)
    obtain ⟨cur, fr, h1⟩ := hrt j ej
    rw [h1] at hj; cases hj; rfl
set_option maxRecDepth 100000 in
set_option maxHeartbeats 2000000 in
theorem alls_ok (seed : ByteArray) (ad : Option Addr) (sn sc : Nat) (l : List Int) (total : Int) (N : Nat) (lo hi : Int) (LV : Nd → List Int → Prop) (hR : Rule seed (.slice ad sn sc) l total N lo hi LV) (ys : List Int) (h0 : LV (0, N, total) ys) (hyl : ys.length ≤ 1000) (hs : seed.size ≤ 32) (hp : sn ≤ 6) (hN1 : N ≤ 1000) (hk : NodeOk lo hi N total) (w : World) (hN : Net seed (.slice ad sn sc) l w) :
    Calls Tryd.prog 48 #[.agg (spV seed (.slice ad sn sc) total N lo hi)] w fun e w' => ∃ v, e = .returned (.tuple #[v, .int .i64 0]) ∧ OwnI w.heap.size v ys w' ∧ Below w.heap.size w w' := by
  have HN := Lib.hid hN
  have HRU := Lib.hid hR
  have HL0 := Lib.hid h0
  have hvs := fun W => vs_ok seed ad sn sc total N lo hi hs hp hk W
  have HVS := Lib.hid hvs
  clear hN hR h0 hvs
  unfold spV at HVS ⊢
  refine (callsIn_wide (n := 3)).1 ?_
  refine callsIn_of_wp_marks Tryd.func48 rfl trivial ?_ rfl
  simp only [Tryd.ntmps48, List.size_toArray, List.length_cons, List.length_nil, Nat.reduceAdd, Nat.reduceSub, Array.replicate_succ, Array.replicate_zero, List.push_toArray, List.append_toArray, List.nil_append, List.cons_append]
  gi_wp2_with (first
    | (refine ⟨trivial, ?_⟩; gi_at_call 46; refine (callsIn_wide.2 (HVS.out _)).mono ?_; rintro e w1 ⟨rfl, hb1⟩; have hr1 : w1.heap[w.heap.size]? = some (.cells #[.string seed, .slice ad sn sc, .int .i64 total, .int .i64 N, .int .i64 lo, .int .i64 hi] 43 (0, 0)) := (hb1.block _ (by simp)).trans (heap_alloc_new w _); have c0 : w1.cell? ⟨w.heap.size, 0, none⟩ = some (.string seed) := cell_of_row _ _ _ _ _ _ hr1; have c1 : w1.cell? ⟨w.heap.size, 1, none⟩ = some (.slice ad sn sc) := cell_of_row _ _ _ _ _ _ hr1; have c2 : w1.cell? ⟨w.heap.size, 2, none⟩ = some (.int .i64 total) := cell_of_row _ _ _ _ _ _ hr1; have c3 : w1.cell? ⟨w.heap.size, 3, none⟩ = some (.int .i64 N) := cell_of_row _ _ _ _ _ _ hr1; have c4 : w1.cell? ⟨w.heap.size, 4, none⟩ = some (.int .i64 lo) := cell_of_row _ _ _ _ _ _ hr1; have c5 : w1.cell? ⟨w.heap.size, 5, none⟩ = some (.int .i64 hi) := cell_of_row _ _ _ _ _ _ hr1; have hlt1 := lt_of_block hr1; have HB1 := Lib.hid (show Below w.heap.size w w1 from ((Below.refl _ _).alloc (Nat.le_refl _) _).trans (hb1.mono (by simp))); clear hb1 hr1)
    | (refine ⟨trivial, ?_⟩; gi_at_call 83; refine (callsIn_wide.2 (leaves_in seed (.slice ad sn sc) total N lo hi 0 N total _)).mono ?_; rintro e w4 ⟨rfl, hw4⟩; have HW4 := Lib.hid hw4; clear hw4))
  have hsz := HB1.out.size
  have hb4 : Below w1.heap.size w1 w4 := by rw [HW4.out]; exact three_new w1 _ _ _ (Below.refl _ _)
  have hbx : Boxed w4 w1.heap.size 22 (.slice none 0 0) := by
    show w4.heap[w1.heap.size]? = _
    rw [HW4.out, Below.heap_alloc _ _ _ (by simp only [World.size_alloc]; omega), Below.heap_alloc _ _ _ (by simp only [World.size_alloc]; omega)]; exact heap_alloc_new _ _
  have hBw : w4.heap[w1.heap.size + 1]? = some (.cells (spV seed (.slice ad sn sc) total N lo hi) 43 (0, 0)) := by
    rw [HW4.out, Below.heap_alloc _ _ _ (by simp only [World.size_alloc]; omega)]; exact heap_alloc2_new _ _ _
  have hBn : w4.heap[w1.heap.size + 1 + 1]? = some (.cells (ndV (0 : Nat) N total) 98 (0, 0)) := by rw [HW4.out]; exact three_cell w1 _ _ _
  have hB4 : Below w.heap.size w w4 := HB1.out.trans (hb4.mono hsz)
  have hs4 : w1.heap.size + 3 ≤ w4.heap.size := by rw [HW4.out]; simp
  have hst := leaves_seq seed ad sn sc l total N lo hi LV HRU.out (0, N, total) ys HL0.out hN1 2 (by omega) (w1.heap.size + 1 + 1) (w1.heap.size + 1) w w4 HN.out hB4 hBn hBw
  have HBX := Lib.hid hbx
  have HB4 := Lib.hid hB4
  have HST := Lib.hid hst
  obtain ⟨i0, hi0, hz0, hz1, hz2⟩ := info_parts infoI
  clear hbx hBw hBn hB4 hst hb4 HW4 c0 c1 c2 c3 c4 c5
  refine range_all (n := 3) (by omega) (gf := 111) (lb := #[.pointer (some ⟨w1.heap.size + 1 + 1, 0, none⟩), .pointer (some ⟨w1.heap.size + 1, 0, none⟩)]) rfl (enters_of Tryd.func111 (by kernel_rfl) rfl) (n₀ := w.heap.size) HB4.out.size rfl HST.out
    (fun pre W => Got w.heap.size w1.heap.size pre W ∧ Below w.heap.size w W) ((got_own _ _ _).and (below_own _ _ _ (Nat.le_refl _) HB4.out.size)) ⟨⟨_, HBX.out, World.ownsRow_nil _ _ _ _⟩, HB4.out⟩
    (fun x => { tmps := #[.agg #[.string seed, .slice ad sn sc, .int .i64 total, .int .i64 N, .int .i64 lo, .int .i64 hi], .pointer (some ⟨w.heap.size, 0, none⟩), .slice none 0 0, .int .i64 0, .int .i64 0, .pointer (some ⟨w1.heap.size, 0, none⟩), .int .i64 x, .agg #[.string seed, .slice ad sn sc, .int .i64 total, .int .i64 N, .int .i64 lo, .int .i64 hi], .int .i64 0, .int .i64 0, .bool false, undef,
      .agg #[.string seed, .slice ad sn sc, .int .i64 total, .int .i64 N, .int .i64 lo, .int .i64 hi], .pointer (some ⟨w.heap.size, 3, none⟩), .int .i64 N, .pointer (some ⟨w.heap.size, 2, none⟩), .int .i64 total, .agg #[.int .i64 0, .int .i64 N, .int .i64 total], .func (.func 111) #[] #[.pointer (some ⟨w1.heap.size + 1 + 1, 0, none⟩), .pointer (some ⟨w1.heap.size + 1, 0, none⟩)], .int .i64 x, undef, undef, undef, undef, undef], defers := [] }) ?assign ?body ?done
  case assign =>
    intro l x W K hK
    gi_wp2
    exact hK
  case body =>
    rintro lp pre x W ⟨⟨v, hv, hrow⟩, hB⟩ hlt
    have hc := hv.cell
    have HV := Lib.hid hv
    have HR := Lib.hid hrow
    have HB := Lib.hid hB
    clear hv hrow hB
    gi_wp2_with (gi_at_builtin; refine wpListIn_append_own_at _ rfl _ _ 22 rfl w.heap.size 3 i0 _ 1 8 Tryd.underlying22 hi0 hz0 hz1 hz2 rfl (by decide) v pre.length (pre.map (Value.int .i64)) rfl (HR.out.alloc _) ⟨W.heap.size, 0, none⟩ 1 1 [.int .i64 x] rfl rfl (cell_one_new _ _ _) (by simp [Value.oneCell']) (by unfold maxLen; omega) (by omega) (Nat.le_trans HB.out.size (by simp)) ?_; intro v5 w5 hown5 hgrow5 _ _; obtain ⟨g5, cap5, rfl, _, _⟩ := hown5.form (Nat.succ_pos _); have hst5 := out_grow HV.out HR.out HB.out.size HB1.out.size hown5 hgrow5; have HST5 := Lib.hid hst5; have hc1 := hst5.1.cell; have hf1 := hst5.1.frozen; clear hst5 hown5 hgrow5)
    obtain ⟨_, hv2, hr2, hk2, hb2⟩ := HST5.out
    refine ⟨hk2, hb2, ⟨_, hv2, ?_⟩, HB.out.trans hb2.below⟩
    simpa using hr2
  case done =>
    rintro D W hD ⟨⟨v, hv, hrow⟩, hB⟩ hK
    have hc := hv.cell
    gi_wp2
    refine ⟨by simp, .inl ⟨_, _, rfl, run_takeDeferred hK, ?_⟩⟩
    refine ⟨_, results_tmp2 rfl _ _ _, v, rfl, ?_, hB.trans (belowK_b (w := w) (Nat.le_refl _) W D _ _ (Nat.le_trans HB4.out.size hD) hK rfl rfl)⟩
    exact ownsRow_putObj hrow (.deferred none) hK rfl
end Go.Proofs.YtfkpeabkcdhcfaaDoor
