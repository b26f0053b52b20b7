/-
  The parts of a node, in plain Lean; All of a split returns them, where each node's draw is accepted at last.
  Walk of down: the way to a part, for every choice of the halves.
  Walks of to, Part, Before and Find, for valid splits whose draws are accepted at last.
-/
import Derived.Test.YtfkpeabkcdhcfaaDoorT8
import Derived.LoopN
namespace Go.Proofs.YtfkpeabkcdhcfaaDoor
open Go.RowKit Go.Shelf
/-- the parts of a node -/
def partsOf (seed : ByteArray) (l : List Int) (lo hi : Int) (a n : Nat) (t : Int) : List Int :=
  if n = 0 then [] else if n = 1 then [t] else
    partsOf seed l lo hi a (n / 2) (leftOf seed l lo hi a n t) ++ partsOf seed l lo hi (a + n / 2) (n - n / 2) (t - leftOf seed l lo hi a n t)
termination_by n
decreasing_by all_goals omega
theorem partsOf_zero (seed : ByteArray) (l : List Int) (lo hi : Int) (a : Nat) (t : Int) : partsOf seed l lo hi a 0 t = [] := by rw [partsOf]; rfl
theorem partsOf_one (seed : ByteArray) (l : List Int) (lo hi : Int) (a : Nat) (t : Int) : partsOf seed l lo hi a 1 t = [t] := by rw [partsOf]; rfl
theorem partsOf_more (seed : ByteArray) (l : List Int) (lo hi : Int) (a n : Nat) (t : Int) (hn : 2 ≤ n) : partsOf seed l lo hi a n t =
    partsOf seed l lo hi a (n / 2) (leftOf seed l lo hi a n t) ++ partsOf seed l lo hi (a + n / 2) (n - n / 2) (t - leftOf seed l lo hi a n t) := by
  rw [partsOf, if_neg (by omega), if_neg (by omega)]
/-- induction over a node's halves -/
theorem node_ind {C : Nat → Nat → Int → Prop} (lf : Nat → Nat → Int → Int) (h0 : ∀ a t, C a 0 t) (h1 : ∀ a t, C a 1 t)
    (h2 : ∀ a n t, 2 ≤ n → C a (n / 2) (lf a n t) → C (a + n / 2) (n - n / 2) (t - lf a n t) → C a n t) : ∀ k a n t, n ≤ k → C a n t
  | 0, a, n, t, h => by obtain rfl : n = 0 := by omega
                        exact h0 a t
  | k + 1, a, n, t, h => by
    rcases (show n = 0 ∨ n = 1 ∨ 2 ≤ n by omega) with rfl | rfl | hn
    · exact h0 a t
    · exact h1 a t
    · exact h2 a n t hn (node_ind lf h0 h1 h2 k _ _ _ (by omega)) (node_ind lf h0 h1 h2 k _ _ _ (by omega))
theorem partsOf_len (seed : ByteArray) (l : List Int) (lo hi : Int) (a n : Nat) (t : Int) : (partsOf seed l lo hi a n t).length = n := by
  refine node_ind (C := fun a n t => (partsOf seed l lo hi a n t).length = n) (leftOf seed l lo hi) (fun a t => by rw [partsOf_zero]; rfl) (fun a t => by rw [partsOf_one]; rfl) (fun a n t hn i1 i2 => ?_) n a n t (Nat.le_refl _)
  rw [partsOf_more _ _ _ _ _ _ _ hn, List.length_append, i1, i2]; omega
/-- nodes whose draws are all accepted at last -/
structure Drawn (seed : ByteArray) (l : List Int) (lo hi : Int) (S : Nat → Nat → Int → Prop) : Prop where
  ok : ∀ a n t, S a n t → NodeOk lo hi n t ∧ a ≤ 65536
  left : ∀ a n t, S a n t → 2 ≤ n → S a (n / 2) (leftOf seed l lo hi a n t)
  right : ∀ a n t, S a n t → 2 ≤ n → S (a + n / 2) (n - n / 2) (t - leftOf seed l lo hi a n t)
  acc : ∀ a n t, S a n t → 2 ≤ n → Acc seed (l ++ [(a : Int), (n : Int)]) (rangeOf lo hi n t)
/-- a node and its parts -/
def LVd (seed : ByteArray) (l : List Int) (lo hi : Int) (S : Nat → Nat → Int → Prop) (x : Nd) (ys : List Int) : Prop := S x.1 x.2.1 x.2.2 ∧ ys = partsOf seed l lo hi x.1 x.2.1 x.2.2
theorem rule_drawn {seed : ByteArray} {ad : Option Addr} {sn sc : Nat} {l : List Int} {lo hi : Int} {S : Nat → Nat → Int → Prop} (hD : Drawn seed l lo hi S) (total N : Int) (hs : seed.size ≤ 32) (hp : sn ≤ 6) (hsn : sn = l.length) :
    Rule seed (.slice ad sn sc) l total N lo hi (LVd seed l lo hi S) := by
  refine ⟨?_, ?_, ?_⟩
  · rintro ⟨a, n, t⟩ ys ⟨h1, h2⟩ hn
    dsimp only at h1 h2 hn ⊢
    refine ⟨(a, n / 2, leftOf seed l lo hi a n t), (a + n / 2, n - n / 2, t - leftOf seed l lo hi a n t), _, _, ⟨hD.left a n t h1 hn, rfl⟩, ⟨hD.right a n t h1 hn, rfl⟩, ?_, by dsimp only; omega, by dsimp only; omega, by dsimp only; omega, ?_⟩
    · rw [h2, partsOf_more _ _ _ _ _ _ _ hn]
    · intro w hw
      exact halves_ok seed ad sn sc l total N lo hi a n t (hD.ok a n t h1).1 hn (hD.ok a n t h1).2 (hD.acc a n t h1 hn) hs hp w hw hsn
  · rintro ⟨a, n, t⟩ ys ⟨h1, h2⟩ hn
    dsimp only at h1 h2 hn ⊢
    subst hn
    rw [h2, partsOf_one]
  · rintro ⟨a, n, t⟩ ys ⟨h1, h2⟩ hn
    dsimp only at h1 h2 hn ⊢
    subst hn
    rw [h2, partsOf_zero]
/-- All -/
theorem alls_any {seed : ByteArray} {ad : Option Addr} {sn sc : Nat} {l : List Int} {lo hi : Int} {S : Nat → Nat → Int → Prop} (hD : Drawn seed l lo hi S) (total : Int) (N : Nat) (hS : S 0 N total) (hN1 : N ≤ 1000) (hs : seed.size ≤ 32) (hp : sn ≤ 6) (hsn : sn = l.length) (w : World) (hN : Net seed (.slice ad sn sc) l w) :
    Calls Tryd.prog 48 #[.agg (spV seed (.slice ad sn sc) total N lo hi)] w fun e w' => ∃ v, e = .returned (.tuple #[v, .int .i64 0]) ∧ OwnI w.heap.size v (partsOf seed l lo hi 0 N total) w' ∧ Below w.heap.size w w' :=
  alls_ok seed ad sn sc l total N lo hi _ (rule_drawn hD total N hs hp hsn) _ ⟨hS, rfl⟩ (by rw [partsOf_len]; exact hN1) hs hp hN1 (hD.ok 0 N total hS).1 w hN
/-- the left total where all parts are equal -/
theorem leftOf_eq (seed : ByteArray) (l : List Int) (lo hi V : Int) (a n : Nat) (hV : (V = lo ∨ V = hi) ∧ lo ≤ hi) : leftOf seed l lo hi a n (n * V) = (n / 2 : Nat) * V ∧ rangeOf lo hi n (n * V) = 1 := by
  obtain ⟨hV, hlh⟩ := hV
  have e1 : (n : Int) * V = (n / 2 : Nat) * V + (n - n / 2 : Nat) * V := by rw [← Int.add_mul]; congr 1; omega
  have e3 : ((n / 2 : Nat) : Int) * lo ≤ (n / 2 : Nat) * hi := Int.mul_le_mul_of_nonneg_left hlh (by omega)
  have e4 : ((n - n / 2 : Nat) : Int) * lo ≤ (n - n / 2 : Nat) * hi := Int.mul_le_mul_of_nonneg_left hlh (by omega)
  have hmax : max (((n / 2 : Nat) : Int) * lo) (n * V - ((n - n / 2 : Nat) : Int) * hi) = (n / 2 : Nat) * V := by
    rcases hV with rfl | rfl <;> omega
  have hmin : min (((n / 2 : Nat) : Int) * hi) (n * V - ((n - n / 2 : Nat) : Int) * lo) = (n / 2 : Nat) * V := by
    rcases hV with rfl | rfl <;> omega
  unfold leftOf rangeOf
  rw [hmax, hmin, btwOf_eq]
  exact ⟨rfl, by omega⟩
/-- the nodes whose parts are all equal -/
def Equal (lo hi V : Int) (a n : Nat) (t : Int) : Prop := (a + n ≤ 65536 ∧ -1048576 ≤ lo ∧ hi ≤ 1048576) ∧ t = n * V
theorem drawn_eq (seed : ByteArray) (l : List Int) (lo hi V : Int) (hV : (V = lo ∨ V = hi) ∧ lo ≤ hi) : Drawn seed l lo hi (Equal lo hi V) := by
  have hlv : lo ≤ V ∧ V ≤ hi := by
    obtain ⟨h1, h2⟩ := hV
    rcases h1 with rfl | rfl <;> omega
  refine ⟨?_, ?_, ?_, ?_⟩
  · rintro a n t ⟨⟨h1, h2, h3⟩, rfl⟩
    exact ⟨⟨by omega, h2, h3, hV.2, Int.mul_le_mul_of_nonneg_left hlv.1 (by omega), Int.mul_le_mul_of_nonneg_left hlv.2 (by omega)⟩, by omega⟩
  · rintro a n t ⟨⟨h1, h2, h3⟩, rfl⟩ hn
    exact ⟨⟨by omega, h2, h3⟩, (leftOf_eq seed l lo hi V a n hV).1⟩
  · rintro a n t ⟨⟨h1, h2, h3⟩, rfl⟩ hn
    refine ⟨⟨by omega, h2, h3⟩, ?_⟩
    rw [(leftOf_eq seed l lo hi V a n hV).1, ← Int.sub_mul]; congr 1; omega
  · rintro a n t ⟨_, rfl⟩ hn
    rw [(leftOf_eq seed l lo hi V a n hV).2]
    exact acc_one _ _
theorem partsOf_eq (seed : ByteArray) (l : List Int) (lo hi V : Int) (hV : (V = lo ∨ V = hi) ∧ lo ≤ hi) (a n : Nat) : partsOf seed l lo hi a n (n * V) = List.replicate n V := by
  have key := node_ind (C := fun a n t => t = n * V → partsOf seed l lo hi a n t = List.replicate n V) (leftOf seed l lo hi)
    (fun a t _ => by rw [partsOf_zero]; rfl) (fun a t h => by rw [partsOf_one, h]; simp) (fun a n t hn i1 i2 h => ?_) n a n (n * V) (Nat.le_refl _)
  · exact key rfl
  · subst h
    have e := (leftOf_eq seed l lo hi V a n hV).1
    rw [partsOf_more _ _ _ _ _ _ _ hn, i1 e, i2 (by rw [e, ← Int.sub_mul]; congr 1; omega), List.replicate_append_replicate]
    congr 1; omega
end Go.Proofs.YtfkpeabkcdhcfaaDoor
namespace Go.Proofs.YtfkpeabkcdhcfaaDoor
open Go.RowKit
set_option maxRecDepth 100000
/-- the way down from a node: its part's number, that part, the sum of those before it -/
def downOf (seed : ByteArray) (l : List Int) (lo hi : Int) (f : Nat → Int → Int → Bool) (a n : Nat) (t before : Int) : Nat × Nat × Int × Int :=
  if n ≤ 1 then (a, n, t, before) else
    if f (a + n / 2) (leftOf seed l lo hi a n t) before then downOf seed l lo hi f a (n / 2) (leftOf seed l lo hi a n t) before
    else downOf seed l lo hi f (a + n / 2) (n - n / 2) (t - leftOf seed l lo hi a n t) (before + leftOf seed l lo hi a n t)
termination_by n
decreasing_by all_goals omega
theorem downOf_end (seed : ByteArray) (l : List Int) (lo hi : Int) (f : Nat → Int → Int → Bool) (a n : Nat) (t before : Int) (h : n ≤ 1) : downOf seed l lo hi f a n t before = (a, n, t, before) := by rw [downOf, if_pos h]
theorem downOf_left (seed : ByteArray) (l : List Int) (lo hi : Int) (f : Nat → Int → Int → Bool) (a n : Nat) (t before : Int) (h : 2 ≤ n) (hf : f (a + n / 2) (leftOf seed l lo hi a n t) before = true) :
    downOf seed l lo hi f a n t before = downOf seed l lo hi f a (n / 2) (leftOf seed l lo hi a n t) before := by rw [downOf, if_neg (by omega), if_pos hf]
theorem downOf_right (seed : ByteArray) (l : List Int) (lo hi : Int) (f : Nat → Int → Int → Bool) (a n : Nat) (t before : Int) (h : 2 ≤ n) (hf : f (a + n / 2) (leftOf seed l lo hi a n t) before = false) :
    downOf seed l lo hi f a n t before = downOf seed l lo hi f (a + n / 2) (n - n / 2) (t - leftOf seed l lo hi a n t) (before + leftOf seed l lo hi a n t) := by rw [downOf, if_neg (by omega), if_neg (by rw [hf]; exact Bool.false_ne_true)]
theorem results_row_tmp {fn : Func} {p u : Tmp} {ty : TypeId} (h : fn.results = #[.cell p ty, .tmp u]) (tmps : Array Value) (w : World) (g : Nat) (cs : Array Value) (v : Value)
    (hp : tmps.getD p undef = .pointer (some ⟨g, 0, none⟩)) (hv : tmps.getD u undef = v) (h1 : (loadVar ty ⟨g, 0, none⟩).run Tryd.prog w = .ok (.agg cs) w) : (results fn tmps).run Tryd.prog w = .ok (.tuple #[.agg cs, v]) w := by
  have hp' : tmps[p]?.getD undef = .pointer (some ⟨g, 0, none⟩) := by simpa using hp
  have hv' : tmps[u]?.getD undef = v := by simpa using hv
  simp [results, h, hp', hv', asAddr, h1]
/-- the number of parts of the node in a row -/
def rowN (w : World) (B : Nat) : Nat := match w.heap[B]? with
  | some (.cells cs _ _) => (intOf (cs.getD 1 undef)).toNat
  | _ => 0
theorem rowN_at {w : World} {B : Nat} {a t : Int} {n : Nat} (h : w.heap[B]? = some (.cells #[.int .i64 a, .int .i64 n, .int .i64 t] 98 (0, 0))) : rowN w B = n := by
  unfold rowN; rw [h]; simp [intOf]
/-- what a choice's closure answers -/
def Choice (fc : FuncId) (B : Nat) (f : Nat → Int → Int → Bool) (w : World) : Prop := ∀ (la ln ra rn : Nat) (lt rt before : Int) (W : World), Below w.heap.size w W → -1099511627776 ≤ before + lt → before + lt ≤ 1099511627776 →
  Calls Tryd.prog fc #[.agg (ndV la ln lt), .agg (ndV ra rn rt), .int .i64 before, .pointer (some ⟨B, 0, none⟩)] W fun e w' => e = .returned (.bool (f ra lt before)) ∧ Below W.heap.size W w'
set_option maxHeartbeats 2000000 in
theorem down_to (seed : ByteArray) (ad : Option Addr) (sn sc : Nat) (l : List Int) (lo hi : Int) (S : Nat → Nat → Int → Prop) (hD : Drawn seed l lo hi S) (total : Int) (N : Nat) (hS : S 0 N total) (f : Nat → Int → Int → Bool) (hs : seed.size ≤ 32) (hp : sn ≤ 6) (hsn : sn = l.length) (B : Nat) (w : World) (hN : Net seed (.slice ad sn sc) l w) (hC : Choice 107 B f w) :
    Calls Tryd.prog 86 #[.agg (spV seed (.slice ad sn sc) total N lo hi), .func (.func 107) #[] #[.pointer (some ⟨B, 0, none⟩)]] w fun e w' =>
      (∃ (a n : Nat) (t b : Int), downOf seed l lo hi f 0 N total 0 = (a, n, t, b) ∧ e = .returned (.tuple #[.agg (ndV a n t), .int .i64 b])) ∧ Below w.heap.size w w' := by
  have HN := Lib.hid hN
  have HC := Lib.hid hC
  have HDD := Lib.hid hD
  have HS := Lib.hid hS
  have HSN := Lib.hid hsn
  have HSS := Lib.hid hs
  clear hN hC hD hS hs hsn
  unfold spV ndV at *
  go_enter Tryd.func86, Tryd.ntmps86
  go_wp2
  go_loopw [7] (fun c wr => ∃ (a n : Nat) (t b : Int), c = .int .i64 b ∧ (S a n t ∧ downOf seed l lo hi f a n t b = downOf seed l lo hi f 0 N total 0 ∧ (a : Int) * lo ≤ b ∧ b ≤ a * hi) ∧ wr.heap[w.heap.size + 1 + 1]? = some (.cells #[.int .i64 a, .int .i64 n, .int .i64 t] 98 (0, 0)) ∧
    wr.heap[w.heap.size]? = some (.cells #[.string seed, .slice ad sn sc, .int .i64 total, .int .i64 N, .int .i64 lo, .int .i64 hi] 43 (0, 0)) ∧ wr.heap[w.heap.size + 1]? = some (.cells #[.int .i64 0, .int .i64 0, .int .i64 0] 98 (0, 0)) ∧ Below w.heap.size w wr) (fun _ wr => rowN wr (w.heap.size + 1 + 1))
  case atStart =>
    refine ⟨0, N, total, 0, rfl, ⟨HS.out, rfl, by simp, by simp⟩, three_cell w _ _ _, ?_, ?_, three_new w _ _ _ (Below.refl _ _)⟩
    · rw [Below.heap_alloc _ _ _ (by simp only [World.size_alloc]; omega)]; exact heap_alloc2_old _ _ _
    · rw [Below.heap_alloc _ _ _ (by simp only [World.size_alloc]; omega)]; exact heap_alloc2_new _ _ _
  case round =>
    obtain ⟨a, n, t, b, rfl, hst, hx, hsp, hr, hb⟩ := hrel
    have x0 : wr.cell? ⟨w.heap.size + 1 + 1, 0, none⟩ = some (.int .i64 a) := cell_of_row _ _ _ _ _ _ hx
    have x1 : wr.cell? ⟨w.heap.size + 1 + 1, 1, none⟩ = some (.int .i64 n) := cell_of_row _ _ _ _ _ _ hx
    have x2 : wr.cell? ⟨w.heap.size + 1 + 1, 2, none⟩ = some (.int .i64 t) := cell_of_row _ _ _ _ _ _ hx
    have HX := Lib.hid hx
    have HSP := Lib.hid hsp
    have HR := Lib.hid hr
    have HB := Lib.hid hb
    have HST := Lib.hid hst
    clear hx hsp hr hb hst
    by_cases hn : 2 ≤ n
    · have s0 : wr.cell? ⟨w.heap.size, 0, none⟩ = some (.string seed) := cell_of_row _ _ _ _ _ _ HSP.out
      have s1 : wr.cell? ⟨w.heap.size, 1, none⟩ = some (.slice ad sn sc) := cell_of_row _ _ _ _ _ _ HSP.out
      have s2 : wr.cell? ⟨w.heap.size, 2, none⟩ = some (.int .i64 total) := cell_of_row _ _ _ _ _ _ HSP.out
      have s3 : wr.cell? ⟨w.heap.size, 3, none⟩ = some (.int .i64 N) := cell_of_row _ _ _ _ _ _ HSP.out
      have s4 : wr.cell? ⟨w.heap.size, 4, none⟩ = some (.int .i64 lo) := cell_of_row _ _ _ _ _ _ HSP.out
      have s5 : wr.cell? ⟨w.heap.size, 5, none⟩ = some (.int .i64 hi) := cell_of_row _ _ _ _ _ _ HSP.out
      have hn' : 1 < (n : Int) := by omega
      have hS := HST.out.1
      have hok := HDD.out.ok a n t hS
      have hcl := halves_ok seed ad sn sc l total N lo hi a n t hok.1 hn hok.2 (HDD.out.acc a n t hS hn) HSS.out hp wr (HN.out.later HB.out) HSN.out
      obtain ⟨L, hL⟩ : ∃ L, L = leftOf seed l lo hi a n t := ⟨_, rfl⟩
      rw [← hL] at hcl
      obtain ⟨h, hh⟩ : ∃ h, h = n / 2 := ⟨_, rfl⟩
      obtain ⟨q, hq⟩ : ∃ q, q = a + h := ⟨_, rfl⟩
      obtain ⟨r, hr⟩ : ∃ r, r = n - h := ⟨_, rfl⟩
      rw [← hh, ← hq, ← hr] at hcl
      unfold spV ndV at hcl
      have HL := Lib.hid hL
      have HCL := Lib.hid hcl
      have HOK := Lib.hid hok
      have HQ := Lib.hid (And.intro hh (And.intro hq hr))
      have hbd : -1099511627776 ≤ b + L ∧ b + L ≤ 1099511627776 ∧ (q : Int) * lo ≤ b + L ∧ b + L ≤ q * hi := by
        obtain ⟨h1, h2⟩ := hok
        have hlf := (h1.left (seed := seed) (l := l) (a := a)).1
        have har := (HDD.out.ok _ _ _ (HDD.out.right a n t hS hn)).2
        have e1 := HST.out.2.2
        have e2 := mul_bound (a + n / 2) har lo h1.lo1 (by have := h1.lh; have := h1.hi1; omega)
        have e3 := mul_bound (a + n / 2) har hi (by have := h1.lh; have := h1.lo1; omega) h1.hi1
        have e4 : ((a + n / 2 : Nat) : Int) * lo = a * lo + (n / 2 : Nat) * lo := by rw [Int.natCast_add, Int.add_mul]
        have e5 : ((a + n / 2 : Nat) : Int) * hi = a * hi + (n / 2 : Nat) * hi := by rw [Int.natCast_add, Int.add_mul]
        have e6 := hlf.t1
        have e7 := hlf.t2
        rw [← hL] at e6 e7
        rw [hq, hh]
        omega
      have HBD := Lib.hid hbd
      clear hS hok hcl hL hh hq hr hbd
      cases hfb : f q L b with
      | true =>
        go_wp2_with (first
          | (go_at_call 112; (with_reducible refine HCL.out.mono ?_); rintro e w5 ⟨rfl, hb5⟩
             have HX5 := Lib.hid ((hb5.block _ (lt_of_block HX.out)).trans HX.out)
             have HR5 := Lib.hid ((hb5.block _ (lt_of_block HR.out)).trans HR.out)
             have HSP5 := Lib.hid ((hb5.block _ (lt_of_block HSP.out)).trans HSP.out)
             have HB5 := Lib.hid (HB.out.trans (hb5.mono HB.out.size))
             clear hb5)
          | (go_at_call 107
             have hcc := HC.out a h q r L (t - L) b _ ((HB5.out.alloc HB5.out.size (.cells #[.int .i64 a, .int .i64 h, .int .i64 L] 98)).alloc (Nat.le_trans HB5.out.size (by simp)) (.cells #[.int .i64 q, .int .i64 r, .int .i64 (t - L)] 98)) HBD.out.1 HBD.out.2.1
             rw [hfb] at hcc
             refine hcc.mono ?_
             clear hcc
             rintro e w6 ⟨rfl, hb6⟩
             have HB6 := Lib.hid (show Below w5.heap.size w5 w6 from (((Below.refl _ _).alloc (Nat.le_refl _) _).alloc (by simp) _).trans (hb6.mono (by simp only [World.size_alloc]; omega)))
             have HL6 := Lib.hid (show w6.heap[w5.heap.size]? = some (.cells #[.int .i64 a, .int .i64 h, .int .i64 L] 98 (0, 0)) from (hb6.block _ (by simp only [World.size_alloc]; omega)).trans (heap_alloc2_old _ _ _))
             have HRR6 := Lib.hid (show w6.heap[w5.heap.size + 1]? = some (.cells #[.int .i64 q, .int .i64 r, .int .i64 (t - L)] 98 (0, 0)) from (hb6.block _ (by simp only [World.size_alloc]; omega)).trans (heap_alloc2_new _ _ _))
             have HX6 := Lib.hid ((HB6.out.block _ (lt_of_block HX5.out)).trans HX5.out)
             have HR6 := Lib.hid ((HB6.out.block _ (lt_of_block HR5.out)).trans HR5.out)
             have HSP6 := Lib.hid ((HB6.out.block _ (lt_of_block HSP5.out)).trans HSP5.out)
             clear hb6
             have l0 : w6.cell? ⟨w5.heap.size, 0, none⟩ = some (.int .i64 a) := cell_of_row _ _ _ _ _ _ HL6.out
             have l1 : w6.cell? ⟨w5.heap.size, 1, none⟩ = some (.int .i64 h) := cell_of_row _ _ _ _ _ _ HL6.out
             have l2 : w6.cell? ⟨w5.heap.size, 2, none⟩ = some (.int .i64 L) := cell_of_row _ _ _ _ _ _ HL6.out
             have r0 : w6.cell? ⟨w5.heap.size + 1, 0, none⟩ = some (.int .i64 q) := cell_of_row _ _ _ _ _ _ HRR6.out
             have r1 : w6.cell? ⟨w5.heap.size + 1, 1, none⟩ = some (.int .i64 r) := cell_of_row _ _ _ _ _ _ HRR6.out
             have r2 : w6.cell? ⟨w5.heap.size + 1, 2, none⟩ = some (.int .i64 (t - L)) := cell_of_row _ _ _ _ _ _ HRR6.out)
          | ((with_reducible show wpList _ _ _ ((⟨_, Op.store 98 (.tmp 6) (.tmp 29), _, _, _, _⟩ : Oper) :: _) _ _); refine wpList_store_row rfl 98 (.tmp 6) (.tmp 29) rfl (w.heap.size + 1 + 1) #[.int .i64 a, .int .i64 h, .int .i64 L] rfl rfl 98 _ HX6.out info98 rfl (by simp [Value.oneCell']) ?_))
        go_roundw
        case rel =>
          refine ⟨_, _, _, _, _, _, _, _, _, _, _, _, _, _, _, _, _, _, _, _, _, _, _, ⟨a, h, L, b, rfl, ⟨?_, ?_, HST.out.2.2⟩, setRow_heap _ _ _ _ _ _ HX6.out, ?_, ?_, ?_⟩, rfl⟩
          · rw [HL.out, HQ.out.1]; exact HDD.out.left a n t HST.out.1 hn
          · rw [← HST.out.2.1, downOf_left _ _ _ _ _ _ _ _ _ hn (by rw [← HL.out, ← HQ.out.1, ← HQ.out.2.1]; exact hfb), ← HL.out, ← HQ.out.1]
          · exact (setRow_other _ _ _ _ (by omega)).trans HSP6.out
          · exact (setRow_other _ _ _ _ (by omega)).trans HR6.out
          · exact below_setRow (HB5.out.trans (HB6.out.mono HB5.out.size)) (by omega) _
        case measure =>
          rw [rowN_at HX.out, rowN_at (setRow_heap _ _ _ _ _ _ HX6.out)]
          have := HQ.out.1; omega
      | false =>
        go_wp2_with (first
          | (go_at_call 112; (with_reducible refine HCL.out.mono ?_); rintro e w5 ⟨rfl, hb5⟩
             have HX5 := Lib.hid ((hb5.block _ (lt_of_block HX.out)).trans HX.out)
             have HR5 := Lib.hid ((hb5.block _ (lt_of_block HR.out)).trans HR.out)
             have HSP5 := Lib.hid ((hb5.block _ (lt_of_block HSP.out)).trans HSP.out)
             have HB5 := Lib.hid (HB.out.trans (hb5.mono HB.out.size))
             clear hb5)
          | (go_at_call 107
             have hcc := HC.out a h q r L (t - L) b _ ((HB5.out.alloc HB5.out.size (.cells #[.int .i64 a, .int .i64 h, .int .i64 L] 98)).alloc (Nat.le_trans HB5.out.size (by simp)) (.cells #[.int .i64 q, .int .i64 r, .int .i64 (t - L)] 98)) HBD.out.1 HBD.out.2.1
             rw [hfb] at hcc
             refine hcc.mono ?_
             clear hcc
             rintro e w6 ⟨rfl, hb6⟩
             have HB6 := Lib.hid (show Below w5.heap.size w5 w6 from (((Below.refl _ _).alloc (Nat.le_refl _) _).alloc (by simp) _).trans (hb6.mono (by simp only [World.size_alloc]; omega)))
             have HL6 := Lib.hid (show w6.heap[w5.heap.size]? = some (.cells #[.int .i64 a, .int .i64 h, .int .i64 L] 98 (0, 0)) from (hb6.block _ (by simp only [World.size_alloc]; omega)).trans (heap_alloc2_old _ _ _))
             have HRR6 := Lib.hid (show w6.heap[w5.heap.size + 1]? = some (.cells #[.int .i64 q, .int .i64 r, .int .i64 (t - L)] 98 (0, 0)) from (hb6.block _ (by simp only [World.size_alloc]; omega)).trans (heap_alloc2_new _ _ _))
             have HX6 := Lib.hid ((HB6.out.block _ (lt_of_block HX5.out)).trans HX5.out)
             have HR6 := Lib.hid ((HB6.out.block _ (lt_of_block HR5.out)).trans HR5.out)
             have HSP6 := Lib.hid ((HB6.out.block _ (lt_of_block HSP5.out)).trans HSP5.out)
             clear hb6
             have l0 : w6.cell? ⟨w5.heap.size, 0, none⟩ = some (.int .i64 a) := cell_of_row _ _ _ _ _ _ HL6.out
             have l1 : w6.cell? ⟨w5.heap.size, 1, none⟩ = some (.int .i64 h) := cell_of_row _ _ _ _ _ _ HL6.out
             have l2 : w6.cell? ⟨w5.heap.size, 2, none⟩ = some (.int .i64 L) := cell_of_row _ _ _ _ _ _ HL6.out
             have r0 : w6.cell? ⟨w5.heap.size + 1, 0, none⟩ = some (.int .i64 q) := cell_of_row _ _ _ _ _ _ HRR6.out
             have r1 : w6.cell? ⟨w5.heap.size + 1, 1, none⟩ = some (.int .i64 r) := cell_of_row _ _ _ _ _ _ HRR6.out
             have r2 : w6.cell? ⟨w5.heap.size + 1, 2, none⟩ = some (.int .i64 (t - L)) := cell_of_row _ _ _ _ _ _ HRR6.out))
        have x60 : w6.cell? ⟨w.heap.size + 1 + 1, 0, none⟩ = some (.int .i64 a) := cell_of_row _ _ _ _ _ _ HX6.out
        have x61 : w6.cell? ⟨w.heap.size + 1 + 1, 1, none⟩ = some (.int .i64 n) := cell_of_row _ _ _ _ _ _ HX6.out
        have x62 : w6.cell? ⟨w.heap.size + 1 + 1, 2, none⟩ = some (.int .i64 t) := cell_of_row _ _ _ _ _ _ HX6.out
        have xf0 : w6.frozen? ⟨w.heap.size + 1 + 1, 0, none⟩ = false := frozen_of_row _ _ _ _ _ HX6.out
        have xf1 : w6.frozen? ⟨w.heap.size + 1 + 1, 1, none⟩ = false := frozen_of_row _ _ _ _ _ HX6.out
        have xf2 : w6.frozen? ⟨w.heap.size + 1 + 1, 2, none⟩ = false := frozen_of_row _ _ _ _ _ HX6.out
        have hw1 : IntKind.i64.wrap (b + L) = b + L := by have := HBD.out; simp only [IntKind.wrap_i64]; omega
        have hne : w.heap.size + 1 + 1 ≠ w5.heap.size := by have := lt_of_block HX5.out; omega
        have hne1 : w.heap.size + 1 + 1 ≠ w5.heap.size + 1 := by have := lt_of_block HX5.out; omega
        clear x0 x1 x2 s0 s1 s2 s3 s4 s5
        go_region_held3 (fun w' => w'.cell? ⟨w5.heap.size, 2, none⟩ = some (.int .i64 L) ∧ w'.cell? ⟨w5.heap.size + 1, 0, none⟩ = some (.int .i64 q) ∧ w'.cell? ⟨w5.heap.size + 1, 1, none⟩ = some (.int .i64 r) ∧ w'.cell? ⟨w5.heap.size + 1, 2, none⟩ = some (.int .i64 (t - L)))
          (first
            | (refine ⟨?_, ?_, ?_, ?_⟩ <;> ((try rw [World.cell?_drew]); (repeat rw [World.cell?_setCell_far _ _ _ _ (by dsimp only; omega)]); assumption))
            | go_keep) (fail)
        have k1 := set3 w6 (w.heap.size + 1 + 1) _ _ _ (.int .i64 (q : Int)) (.int .i64 (r : Int)) (.int .i64 (t - L)) 98 HX6.out
        have HK1 := Lib.hid k1
        clear k1
        go_roundw
        case rel =>
          refine ⟨_, _, _, _, _, _, _, _, _, _, _, _, _, _, _, _, _, _, _, _, _, _, _, ⟨q, r, t - L, b + L, rfl, ⟨?_, ?_, HBD.out.2.2⟩, HK1.out, ?_, ?_, ?_⟩, rfl⟩
          · rw [HL.out, HQ.out.2.2, HQ.out.2.1, HQ.out.1]; exact HDD.out.right a n t HST.out.1 hn
          · rw [← HST.out.2.1, downOf_right _ _ _ _ _ _ _ _ _ hn (by rw [← HL.out, ← HQ.out.1, ← HQ.out.2.1]; exact hfb), ← HL.out, ← HQ.out.1, ← HQ.out.2.1, ← HQ.out.2.2]
          · exact ((Below.heap_setCell _ _ _ _ (by dsimp only; omega)).trans ((Below.heap_setCell _ _ _ _ (by dsimp only; omega)).trans (Below.heap_setCell _ _ _ _ (by dsimp only; omega)))).trans HSP6.out
          · exact ((Below.heap_setCell _ _ _ _ (by dsimp only; omega)).trans ((Below.heap_setCell _ _ _ _ (by dsimp only; omega)).trans (Below.heap_setCell _ _ _ _ (by dsimp only; omega)))).trans HR6.out
          · exact ((((HB5.out.trans (HB6.out.mono HB5.out.size)).setCell (by dsimp only; omega) _).setCell (by dsimp only; omega) _).setCell (by dsimp only; omega) _).drew
        case measure =>
          rw [rowN_at HX.out]
          refine Nat.lt_of_le_of_lt (Nat.le_of_eq (rowN_at (w := World.drew _) (a := q) (t := t - L) (n := r) HK1.out)) ?_
          have := HQ.out; omega
    · have hn' : ¬ (1 < (n : Int)) := by omega
      go_wp2_with ((with_reducible show wpList _ _ _ ((⟨_, Op.store 98 _ _, _, _, _, _⟩ : Oper) :: _) _ _); refine wpList_store_row rfl 98 (.tmp 4) (.tmp 35) rfl (w.heap.size + 1) #[.int .i64 a, .int .i64 n, .int .i64 t] rfl rfl 98 _ HR.out info98 rfl (by simp [Value.oneCell']) ?_)
      refine bodyPost_ret (v := .tuple #[.agg #[.int .i64 a, .int .i64 n, .int .i64 t], .int .i64 b]) (results_row_tmp rfl _ _ (w.heap.size + 1) _ _ rfl rfl (run_loadVar_row _ _ 98 98 _ (0, 0) _ (setRow_heap _ _ _ _ _ _ HR.out) Tryd.underlying98 rfl info98)) rfl ⟨⟨a, n, t, b, ?_, rfl⟩, below_setRow HB.out (by omega) _⟩
      rw [← HST.out.2.1, downOf_end _ _ _ _ _ _ _ _ _ (by omega)]
set_option maxHeartbeats 2000000 in
theorem down_find (seed : ByteArray) (ad : Option Addr) (sn sc : Nat) (l : List Int) (lo hi : Int) (S : Nat → Nat → Int → Prop) (hD : Drawn seed l lo hi S) (total : Int) (N : Nat) (hS : S 0 N total) (f : Nat → Int → Int → Bool) (hs : seed.size ≤ 32) (hp : sn ≤ 6) (hsn : sn = l.length) (B : Nat) (w : World) (hN : Net seed (.slice ad sn sc) l w) (hC : Choice 87 B f w) :
    Calls Tryd.prog 86 #[.agg (spV seed (.slice ad sn sc) total N lo hi), .func (.func 87) #[] #[.pointer (some ⟨B, 0, none⟩)]] w fun e w' =>
      (∃ (a n : Nat) (t b : Int), downOf seed l lo hi f 0 N total 0 = (a, n, t, b) ∧ e = .returned (.tuple #[.agg (ndV a n t), .int .i64 b])) ∧ Below w.heap.size w w' := by
  have HN := Lib.hid hN
  have HC := Lib.hid hC
  have HDD := Lib.hid hD
  have HS := Lib.hid hS
  have HSN := Lib.hid hsn
  have HSS := Lib.hid hs
  clear hN hC hD hS hs hsn
  unfold spV ndV at *
  go_enter Tryd.func86, Tryd.ntmps86
  go_wp2
  go_loopw [7] (fun c wr => ∃ (a n : Nat) (t b : Int), c = .int .i64 b ∧ (S a n t ∧ downOf seed l lo hi f a n t b = downOf seed l lo hi f 0 N total 0 ∧ (a : Int) * lo ≤ b ∧ b ≤ a * hi) ∧ wr.heap[w.heap.size + 1 + 1]? = some (.cells #[.int .i64 a, .int .i64 n, .int .i64 t] 98 (0, 0)) ∧
    wr.heap[w.heap.size]? = some (.cells #[.string seed, .slice ad sn sc, .int .i64 total, .int .i64 N, .int .i64 lo, .int .i64 hi] 43 (0, 0)) ∧ wr.heap[w.heap.size + 1]? = some (.cells #[.int .i64 0, .int .i64 0, .int .i64 0] 98 (0, 0)) ∧ Below w.heap.size w wr) (fun _ wr => rowN wr (w.heap.size + 1 + 1))
  case atStart =>
    refine ⟨0, N, total, 0, rfl, ⟨HS.out, rfl, by simp, by simp⟩, three_cell w _ _ _, ?_, ?_, three_new w _ _ _ (Below.refl _ _)⟩
    · rw [Below.heap_alloc _ _ _ (by simp only [World.size_alloc]; omega)]; exact heap_alloc2_old _ _ _
    · rw [Below.heap_alloc _ _ _ (by simp only [World.size_alloc]; omega)]; exact heap_alloc2_new _ _ _
  case round =>
    obtain ⟨a, n, t, b, rfl, hst, hx, hsp, hr, hb⟩ := hrel
    have x0 : wr.cell? ⟨w.heap.size + 1 + 1, 0, none⟩ = some (.int .i64 a) := cell_of_row _ _ _ _ _ _ hx
    have x1 : wr.cell? ⟨w.heap.size + 1 + 1, 1, none⟩ = some (.int .i64 n) := cell_of_row _ _ _ _ _ _ hx
    have x2 : wr.cell? ⟨w.heap.size + 1 + 1, 2, none⟩ = some (.int .i64 t) := cell_of_row _ _ _ _ _ _ hx
    have HX := Lib.hid hx
    have HSP := Lib.hid hsp
    have HR := Lib.hid hr
    have HB := Lib.hid hb
    have HST := Lib.hid hst
    clear hx hsp hr hb hst
    by_cases hn : 2 ≤ n
    · have s0 : wr.cell? ⟨w.heap.size, 0, none⟩ = some (.string seed) := cell_of_row _ _ _ _ _ _ HSP.out
      have s1 : wr.cell? ⟨w.heap.size, 1, none⟩ = some (.slice ad sn sc) := cell_of_row _ _ _ _ _ _ HSP.out
      have s2 : wr.cell? ⟨w.heap.size, 2, none⟩ = some (.int .i64 total) := cell_of_row _ _ _ _ _ _ HSP.out
      have s3 : wr.cell? ⟨w.heap.size, 3, none⟩ = some (.int .i64 N) := cell_of_row _ _ _ _ _ _ HSP.out
      have s4 : wr.cell? ⟨w.heap.size, 4, none⟩ = some (.int .i64 lo) := cell_of_row _ _ _ _ _ _ HSP.out
      have s5 : wr.cell? ⟨w.heap.size, 5, none⟩ = some (.int .i64 hi) := cell_of_row _ _ _ _ _ _ HSP.out
      have hn' : 1 < (n : Int) := by omega
      have hS := HST.out.1
      have hok := HDD.out.ok a n t hS
      have hcl := halves_ok seed ad sn sc l total N lo hi a n t hok.1 hn hok.2 (HDD.out.acc a n t hS hn) HSS.out hp wr (HN.out.later HB.out) HSN.out
      obtain ⟨L, hL⟩ : ∃ L, L = leftOf seed l lo hi a n t := ⟨_, rfl⟩
      rw [← hL] at hcl
      obtain ⟨h, hh⟩ : ∃ h, h = n / 2 := ⟨_, rfl⟩
      obtain ⟨q, hq⟩ : ∃ q, q = a + h := ⟨_, rfl⟩
      obtain ⟨r, hr⟩ : ∃ r, r = n - h := ⟨_, rfl⟩
      rw [← hh, ← hq, ← hr] at hcl
      unfold spV ndV at hcl
      have HL := Lib.hid hL
      have HCL := Lib.hid hcl
      have HOK := Lib.hid hok
      have HQ := Lib.hid (And.intro hh (And.intro hq hr))
      have hbd : -1099511627776 ≤ b + L ∧ b + L ≤ 1099511627776 ∧ (q : Int) * lo ≤ b + L ∧ b + L ≤ q * hi := by
        obtain ⟨h1, h2⟩ := hok
        have hlf := (h1.left (seed := seed) (l := l) (a := a)).1
        have har := (HDD.out.ok _ _ _ (HDD.out.right a n t hS hn)).2
        have e1 := HST.out.2.2
        have e2 := mul_bound (a + n / 2) har lo h1.lo1 (by have := h1.lh; have := h1.hi1; omega)
        have e3 := mul_bound (a + n / 2) har hi (by have := h1.lh; have := h1.lo1; omega) h1.hi1
        have e4 : ((a + n / 2 : Nat) : Int) * lo = a * lo + (n / 2 : Nat) * lo := by rw [Int.natCast_add, Int.add_mul]
        have e5 : ((a + n / 2 : Nat) : Int) * hi = a * hi + (n / 2 : Nat) * hi := by rw [Int.natCast_add, Int.add_mul]
        have e6 := hlf.t1
        have e7 := hlf.t2
        rw [← hL] at e6 e7
        rw [hq, hh]
        omega
      have HBD := Lib.hid hbd
      clear hS hok hcl hL hh hq hr hbd
      cases hfb : f q L b with
      | true =>
        go_wp2_with (first
          | (go_at_call 112; (with_reducible refine HCL.out.mono ?_); rintro e w5 ⟨rfl, hb5⟩
             have HX5 := Lib.hid ((hb5.block _ (lt_of_block HX.out)).trans HX.out)
             have HR5 := Lib.hid ((hb5.block _ (lt_of_block HR.out)).trans HR.out)
             have HSP5 := Lib.hid ((hb5.block _ (lt_of_block HSP.out)).trans HSP.out)
             have HB5 := Lib.hid (HB.out.trans (hb5.mono HB.out.size))
             clear hb5)
          | (go_at_call 87
             have hcc := HC.out a h q r L (t - L) b _ ((HB5.out.alloc HB5.out.size (.cells #[.int .i64 a, .int .i64 h, .int .i64 L] 98)).alloc (Nat.le_trans HB5.out.size (by simp)) (.cells #[.int .i64 q, .int .i64 r, .int .i64 (t - L)] 98)) HBD.out.1 HBD.out.2.1
             rw [hfb] at hcc
             refine hcc.mono ?_
             clear hcc
             rintro e w6 ⟨rfl, hb6⟩
             have HB6 := Lib.hid (show Below w5.heap.size w5 w6 from (((Below.refl _ _).alloc (Nat.le_refl _) _).alloc (by simp) _).trans (hb6.mono (by simp only [World.size_alloc]; omega)))
             have HL6 := Lib.hid (show w6.heap[w5.heap.size]? = some (.cells #[.int .i64 a, .int .i64 h, .int .i64 L] 98 (0, 0)) from (hb6.block _ (by simp only [World.size_alloc]; omega)).trans (heap_alloc2_old _ _ _))
             have HRR6 := Lib.hid (show w6.heap[w5.heap.size + 1]? = some (.cells #[.int .i64 q, .int .i64 r, .int .i64 (t - L)] 98 (0, 0)) from (hb6.block _ (by simp only [World.size_alloc]; omega)).trans (heap_alloc2_new _ _ _))
             have HX6 := Lib.hid ((HB6.out.block _ (lt_of_block HX5.out)).trans HX5.out)
             have HR6 := Lib.hid ((HB6.out.block _ (lt_of_block HR5.out)).trans HR5.out)
             have HSP6 := Lib.hid ((HB6.out.block _ (lt_of_block HSP5.out)).trans HSP5.out)
             clear hb6
             have l0 : w6.cell? ⟨w5.heap.size, 0, none⟩ = some (.int .i64 a) := cell_of_row _ _ _ _ _ _ HL6.out
             have l1 : w6.cell? ⟨w5.heap.size, 1, none⟩ = some (.int .i64 h) := cell_of_row _ _ _ _ _ _ HL6.out
             have l2 : w6.cell? ⟨w5.heap.size, 2, none⟩ = some (.int .i64 L) := cell_of_row _ _ _ _ _ _ HL6.out
             have r0 : w6.cell? ⟨w5.heap.size + 1, 0, none⟩ = some (.int .i64 q) := cell_of_row _ _ _ _ _ _ HRR6.out
             have r1 : w6.cell? ⟨w5.heap.size + 1, 1, none⟩ = some (.int .i64 r) := cell_of_row _ _ _ _ _ _ HRR6.out
             have r2 : w6.cell? ⟨w5.heap.size + 1, 2, none⟩ = some (.int .i64 (t - L)) := cell_of_row _ _ _ _ _ _ HRR6.out)
          | ((with_reducible show wpList _ _ _ ((⟨_, Op.store 98 (.tmp 6) (.tmp 29), _, _, _, _⟩ : Oper) :: _) _ _); refine wpList_store_row rfl 98 (.tmp 6) (.tmp 29) rfl (w.heap.size + 1 + 1) #[.int .i64 a, .int .i64 h, .int .i64 L] rfl rfl 98 _ HX6.out info98 rfl (by simp [Value.oneCell']) ?_))
        go_roundw
        case rel =>
          refine ⟨_, _, _, _, _, _, _, _, _, _, _, _, _, _, _, _, _, _, _, _, _, _, _, ⟨a, h, L, b, rfl, ⟨?_, ?_, HST.out.2.2⟩, setRow_heap _ _ _ _ _ _ HX6.out, ?_, ?_, ?_⟩, rfl⟩
          · rw [HL.out, HQ.out.1]; exact HDD.out.left a n t HST.out.1 hn
          · rw [← HST.out.2.1, downOf_left _ _ _ _ _ _ _ _ _ hn (by rw [← HL.out, ← HQ.out.1, ← HQ.out.2.1]; exact hfb), ← HL.out, ← HQ.out.1]
          · exact (setRow_other _ _ _ _ (by omega)).trans HSP6.out
          · exact (setRow_other _ _ _ _ (by omega)).trans HR6.out
          · exact below_setRow (HB5.out.trans (HB6.out.mono HB5.out.size)) (by omega) _
        case measure =>
          rw [rowN_at HX.out, rowN_at (setRow_heap _ _ _ _ _ _ HX6.out)]
          have := HQ.out.1; omega
      | false =>
        go_wp2_with (first
          | (go_at_call 112; (with_reducible refine HCL.out.mono ?_); rintro e w5 ⟨rfl, hb5⟩
             have HX5 := Lib.hid ((hb5.block _ (lt_of_block HX.out)).trans HX.out)
             have HR5 := Lib.hid ((hb5.block _ (lt_of_block HR.out)).trans HR.out)
             have HSP5 := Lib.hid ((hb5.block _ (lt_of_block HSP.out)).trans HSP.out)
             have HB5 := Lib.hid (HB.out.trans (hb5.mono HB.out.size))
             clear hb5)
          | (go_at_call 87
             have hcc := HC.out a h q r L (t - L) b _ ((HB5.out.alloc HB5.out.size (.cells #[.int .i64 a, .int .i64 h, .int .i64 L] 98)).alloc (Nat.le_trans HB5.out.size (by simp)) (.cells #[.int .i64 q, .int .i64 r, .int .i64 (t - L)] 98)) HBD.out.1 HBD.out.2.1
             rw [hfb] at hcc
             refine hcc.mono ?_
             clear hcc
             rintro e w6 ⟨rfl, hb6⟩
             have HB6 := Lib.hid (show Below w5.heap.size w5 w6 from (((Below.refl _ _).alloc (Nat.le_refl _) _).alloc (by simp) _).trans (hb6.mono (by simp only [World.size_alloc]; omega)))
             have HL6 := Lib.hid (show w6.heap[w5.heap.size]? = some (.cells #[.int .i64 a, .int .i64 h, .int .i64 L] 98 (0, 0)) from (hb6.block _ (by simp only [World.size_alloc]; omega)).trans (heap_alloc2_old _ _ _))
             have HRR6 := Lib.hid (show w6.heap[w5.heap.size + 1]? = some (.cells #[.int .i64 q, .int .i64 r, .int .i64 (t - L)] 98 (0, 0)) from (hb6.block _ (by simp only [World.size_alloc]; omega)).trans (heap_alloc2_new _ _ _))
             have HX6 := Lib.hid ((HB6.out.block _ (lt_of_block HX5.out)).trans HX5.out)
             have HR6 := Lib.hid ((HB6.out.block _ (lt_of_block HR5.out)).trans HR5.out)
             have HSP6 := Lib.hid ((HB6.out.block _ (lt_of_block HSP5.out)).trans HSP5.out)
             clear hb6
             have l0 : w6.cell? ⟨w5.heap.size, 0, none⟩ = some (.int .i64 a) := cell_of_row _ _ _ _ _ _ HL6.out
             have l1 : w6.cell? ⟨w5.heap.size, 1, none⟩ = some (.int .i64 h) := cell_of_row _ _ _ _ _ _ HL6.out
             have l2 : w6.cell? ⟨w5.heap.size, 2, none⟩ = some (.int .i64 L) := cell_of_row _ _ _ _ _ _ HL6.out
             have r0 : w6.cell? ⟨w5.heap.size + 1, 0, none⟩ = some (.int .i64 q) := cell_of_row _ _ _ _ _ _ HRR6.out
             have r1 : w6.cell? ⟨w5.heap.size + 1, 1, none⟩ = some (.int .i64 r) := cell_of_row _ _ _ _ _ _ HRR6.out
             have r2 : w6.cell? ⟨w5.heap.size + 1, 2, none⟩ = some (.int .i64 (t - L)) := cell_of_row _ _ _ _ _ _ HRR6.out))
        have x60 : w6.cell? ⟨w.heap.size + 1 + 1, 0, none⟩ = some (.int .i64 a) := cell_of_row _ _ _ _ _ _ HX6.out
        have x61 : w6.cell? ⟨w.heap.size + 1 + 1, 1, none⟩ = some (.int .i64 n) := cell_of_row _ _ _ _ _ _ HX6.out
        have x62 : w6.cell? ⟨w.heap.size + 1 + 1, 2, none⟩ = some (.int .i64 t) := cell_of_row _ _ _ _ _ _ HX6.out
        have xf0 : w6.frozen? ⟨w.heap.size + 1 + 1, 0, none⟩ = false := frozen_of_row _ _ _ _ _ HX6.out
        have xf1 : w6.frozen? ⟨w.heap.size + 1 + 1, 1, none⟩ = false := frozen_of_row _ _ _ _ _ HX6.out
        have xf2 : w6.frozen? ⟨w.heap.size + 1 + 1, 2, none⟩ = false := frozen_of_row _ _ _ _ _ HX6.out
        have hw1 : IntKind.i64.wrap (b + L) = b + L := by have := HBD.out; simp only [IntKind.wrap_i64]; omega
        have hne : w.heap.size + 1 + 1 ≠ w5.heap.size := by have := lt_of_block HX5.out; omega
        have hne1 : w.heap.size + 1 + 1 ≠ w5.heap.size + 1 := by have := lt_of_block HX5.out; omega
        clear x0 x1 x2 s0 s1 s2 s3 s4 s5
        go_region_held3 (fun w' => w'.cell? ⟨w5.heap.size, 2, none⟩ = some (.int .i64 L) ∧ w'.cell? ⟨w5.heap.size + 1, 0, none⟩ = some (.int .i64 q) ∧ w'.cell? ⟨w5.heap.size + 1, 1, none⟩ = some (.int .i64 r) ∧ w'.cell? ⟨w5.heap.size + 1, 2, none⟩ = some (.int .i64 (t - L)))
          (first
            | (refine ⟨?_, ?_, ?_, ?_⟩ <;> ((try rw [World.cell?_drew]); (repeat rw [World.cell?_setCell_far _ _ _ _ (by dsimp only; omega)]); assumption))
            | go_keep) (fail)
        have k1 := set3 w6 (w.heap.size + 1 + 1) _ _ _ (.int .i64 (q : Int)) (.int .i64 (r : Int)) (.int .i64 (t - L)) 98 HX6.out
        have HK1 := Lib.hid k1
        clear k1
        go_roundw
        case rel =>
          refine ⟨_, _, _, _, _, _, _, _, _, _, _, _, _, _, _, _, _, _, _, _, _, _, _, ⟨q, r, t - L, b + L, rfl, ⟨?_, ?_, HBD.out.2.2⟩, HK1.out, ?_, ?_, ?_⟩, rfl⟩
          · rw [HL.out, HQ.out.2.2, HQ.out.2.1, HQ.out.1]; exact HDD.out.right a n t HST.out.1 hn
          · rw [← HST.out.2.1, downOf_right _ _ _ _ _ _ _ _ _ hn (by rw [← HL.out, ← HQ.out.1, ← HQ.out.2.1]; exact hfb), ← HL.out, ← HQ.out.1, ← HQ.out.2.1, ← HQ.out.2.2]
          · exact ((Below.heap_setCell _ _ _ _ (by dsimp only; omega)).trans ((Below.heap_setCell _ _ _ _ (by dsimp only; omega)).trans (Below.heap_setCell _ _ _ _ (by dsimp only; omega)))).trans HSP6.out
          · exact ((Below.heap_setCell _ _ _ _ (by dsimp only; omega)).trans ((Below.heap_setCell _ _ _ _ (by dsimp only; omega)).trans (Below.heap_setCell _ _ _ _ (by dsimp only; omega)))).trans HR6.out
          · exact ((((HB5.out.trans (HB6.out.mono HB5.out.size)).setCell (by dsimp only; omega) _).setCell (by dsimp only; omega) _).setCell (by dsimp only; omega) _).drew
        case measure =>
          rw [rowN_at HX.out]
          refine Nat.lt_of_le_of_lt (Nat.le_of_eq (rowN_at (w := World.drew _) (a := q) (t := t - L) (n := r) HK1.out)) ?_
          have := HQ.out; omega
    · have hn' : ¬ (1 < (n : Int)) := by omega
      go_wp2_with ((with_reducible show wpList _ _ _ ((⟨_, Op.store 98 _ _, _, _, _, _⟩ : Oper) :: _) _ _); refine wpList_store_row rfl 98 (.tmp 4) (.tmp 35) rfl (w.heap.size + 1) #[.int .i64 a, .int .i64 n, .int .i64 t] rfl rfl 98 _ HR.out info98 rfl (by simp [Value.oneCell']) ?_)
      refine bodyPost_ret (v := .tuple #[.agg #[.int .i64 a, .int .i64 n, .int .i64 t], .int .i64 b]) (results_row_tmp rfl _ _ (w.heap.size + 1) _ _ rfl rfl (run_loadVar_row _ _ 98 98 _ (0, 0) _ (setRow_heap _ _ _ _ _ _ HR.out) Tryd.underlying98 rfl info98)) rfl ⟨⟨a, n, t, b, ?_, rfl⟩, below_setRow HB.out (by omega) _⟩
      rw [← HST.out.2.1, downOf_end _ _ _ _ _ _ _ _ _ (by omega)]
end Go.Proofs.YtfkpeabkcdhcfaaDoor
namespace Go.Proofs.YtfkpeabkcdhcfaaDoor
open Go.RowKit
set_option maxRecDepth 100000
/-- the choice of the way to a part, and to a unit -/
def toF (k : Int) : Nat → Int → Int → Bool := fun ra _ _ => decide (k < (ra : Int))
def findF (x : Int) : Nat → Int → Int → Bool := fun _ lt before => decide (x < before + lt)
theorem results_tmp3 {fn : Func} {p q r : Tmp} (h : fn.results = #[.tmp p, .tmp q, .tmp r]) (tmps : Array Value) (w : World) : (results fn tmps).run Tryd.prog w = .ok (.tuple #[tmps.getD p undef, tmps.getD q undef, tmps.getD r undef]) w := by
  simp [results, h]
theorem to1_any (B : Nat) (k : Int) (w : World) (hi : w.heap[B]? = some (.cells #[.int .i64 k] 3 (0, 0))) : Choice 107 B (toF k) w := by
  intro la ln ra rn lt rt before W hW _ _
  have hc : W.cell? ⟨B, 0, none⟩ = some (.int .i64 k) := cell_of_row _ _ _ _ _ _ ((hW.block _ (lt_of_block hi)).trans hi)
  have hlt := World.block_lt_of_cell? W _ hc
  clear hi
  unfold ndV toF
  go_enter Tryd.func107, Tryd.ntmps107
  go_wp2
  go_ret
  exact ⟨rfl, ((Below.refl _ _).alloc (Nat.le_refl _) _).alloc (by simp) _⟩
theorem find1_any (B : Nat) (k : Int) (w : World) (hi : w.heap[B]? = some (.cells #[.int .i64 k] 3 (0, 0))) : Choice 87 B (findF k) w := by
  intro la ln ra rn lt rt before W hW h1 h2
  have hc : W.cell? ⟨B, 0, none⟩ = some (.int .i64 k) := cell_of_row _ _ _ _ _ _ ((hW.block _ (lt_of_block hi)).trans hi)
  have hlt := World.block_lt_of_cell? W _ hc
  clear hi
  unfold ndV findF
  go_enter Tryd.func87, Tryd.ntmps87
  go_wp2
  go_ret
  exact ⟨rfl, ((Below.refl _ _).alloc (Nat.le_refl _) _).alloc (by simp) _⟩
set_option maxHeartbeats 1000000 in
theorem to_any {seed : ByteArray} {ad : Option Addr} {sn sc : Nat} {l : List Int} {lo hi : Int} {S : Nat → Nat → Int → Prop} (hD : Drawn seed l lo hi S) (total : Int) (N : Nat) (hS : S 0 N total) (k : Int) (hs : seed.size ≤ 32) (hp : sn ≤ 6) (hsn : sn = l.length) (w : World) (hN : Net seed (.slice ad sn sc) l w) :
    Calls Tryd.prog 79 #[.agg (spV seed (.slice ad sn sc) total N lo hi), .int .i64 k] w fun e w' =>
      (∃ (a n : Nat) (t b : Int), downOf seed l lo hi (toF k) 0 N total 0 = (a, n, t, b) ∧ e = .returned (.tuple #[.agg (ndV a n t), .int .i64 b])) ∧ Below w.heap.size w w' := by
  have HD := Lib.hid (fun W B hN' hC => down_to seed ad sn sc l lo hi S hD total N hS (toF k) hs hp hsn B W hN' hC)
  have HN := Lib.hid hN
  clear hD hS hs hsn hN
  unfold spV ndV at HD ⊢
  go_enter Tryd.func79, Tryd.ntmps79
  go_wp2_with fail
  have hb3 := three_new w (.cells #[.string seed, .slice ad sn sc, .int .i64 total, .int .i64 N, .int .i64 lo, .int .i64 hi] 43) (.cells #[.int .i64 k] 3) (.cells #[.int .i64 0, .int .i64 0, .int .i64 0] 98) (Below.refl _ _)
  have hk3 : (((w.alloc (.cells #[.string seed, .slice ad sn sc, .int .i64 total, .int .i64 N, .int .i64 lo, .int .i64 hi] 43)).alloc (.cells #[.int .i64 k] 3)).alloc (.cells #[.int .i64 0, .int .i64 0, .int .i64 0] 98)).heap[w.heap.size + 1]? = some (.cells #[.int .i64 k] 3 (0, 0)) := by
    rw [Below.heap_alloc _ _ _ (by simp only [World.size_alloc]; omega)]; exact heap_alloc2_new _ _ _
  have hr3 := three_cell w (.cells #[.string seed, .slice ad sn sc, .int .i64 total, .int .i64 N, .int .i64 lo, .int .i64 hi] 43) (.cells #[.int .i64 k] 3) (.cells #[.int .i64 0, .int .i64 0, .int .i64 0] 98)
  refine (HD.out _ _ (HN.out.later hb3) (to1_any _ k _ hk3)).mono ?_
  rintro e w2 ⟨⟨a, n, t, b, hd, rfl⟩, hb2⟩
  have HR2 := Lib.hid ((hb2.block _ (lt_of_block hr3)).trans hr3)
  have HB2 := Lib.hid (hb3.trans (hb2.mono hb3.size))
  clear hb2 hb3 hk3 hr3
  go_wp2_with ((with_reducible show wpList _ _ _ ((⟨_, Op.store 98 _ _, _, _, _, _⟩ : Oper) :: _) _ _); refine wpList_store_row rfl 98 (.tmp 4) (.tmp 9) rfl (w.heap.size + 1 + 1) #[.int .i64 a, .int .i64 n, .int .i64 t] rfl rfl 98 _ HR2.out info98 rfl (by simp [Value.oneCell']) ?_)
  refine bodyPost_ret (v := .tuple #[.agg #[.int .i64 a, .int .i64 n, .int .i64 t], .int .i64 b]) (results_row_tmp rfl _ _ (w.heap.size + 1 + 1) _ _ rfl rfl (run_loadVar_row _ _ 98 98 _ (0, 0) _ (setRow_heap _ _ _ _ _ _ HR2.out) Tryd.underlying98 rfl info98)) rfl ⟨⟨a, n, t, b, hd, rfl⟩, below_setRow HB2.out (by omega) _⟩
set_option maxHeartbeats 1000000 in
theorem part_any {seed : ByteArray} {ad : Option Addr} {sn sc : Nat} {l : List Int} {lo hi : Int} {S : Nat → Nat → Int → Prop} (hD : Drawn seed l lo hi S) (total : Int) (N : Nat) (hS : S 0 N total) (k : Int) (hk0 : 0 ≤ k) (hkN : k < N) (hs : seed.size ≤ 32) (hp : sn ≤ 6) (hsn : sn = l.length) (w : World) (hN : Net seed (.slice ad sn sc) l w) :
    Calls Tryd.prog 39 #[.agg (spV seed (.slice ad sn sc) total N lo hi), .int .i64 k] w fun e w' =>
      e = .returned (.tuple #[.int .i64 (downOf seed l lo hi (toF k) 0 N total 0).2.2.1, .int .i64 0]) ∧ Below w.heap.size w w' := by
  have HV := Lib.hid (fun W => vs_ok seed ad sn sc total N lo hi hs hp (hD.ok 0 N total hS).1 W)
  have HT := Lib.hid (fun W hN' => to_any (ad := ad) (sc := sc) hD total N hS k hs hp hsn W hN')
  have HN := Lib.hid hN
  clear hD hS hs hsn hN
  obtain ⟨R, hR⟩ : ∃ R, R = downOf seed l lo hi (toF k) 0 N total 0 := ⟨_, rfl⟩
  rw [← hR] at HT ⊢
  clear hR
  unfold spV ndV at *
  have g1 : ¬ (k < 0) := by omega
  have g2 : ¬ ((N : Int) ≤ k) := by omega
  go_enter Tryd.func39, Tryd.ntmps39
  go_wp2_with (first
    | (go_at_call 46; refine (HV.out _).mono ?_; rintro e w1 ⟨rfl, hb1⟩
       have HS1 := Lib.hid (show w1.heap[w.heap.size]? = some (.cells #[.string seed, .slice ad sn sc, .int .i64 total, .int .i64 N, .int .i64 lo, .int .i64 hi] 43 (0, 0)) from (hb1.block _ (by simp)).trans (heap_alloc_new w _))
       have HB1 := Lib.hid (show Below w.heap.size w w1 from ((Below.refl _ _).alloc (Nat.le_refl _) _).trans (hb1.mono (by simp)))
       clear hb1
       have c0 : w1.cell? ⟨w.heap.size, 0, none⟩ = some (.string seed) := cell_of_row _ _ _ _ _ _ HS1.out
       have c1 : w1.cell? ⟨w.heap.size, 1, none⟩ = some (.slice ad sn sc) := cell_of_row _ _ _ _ _ _ HS1.out
       have c2 : w1.cell? ⟨w.heap.size, 2, none⟩ = some (.int .i64 total) := cell_of_row _ _ _ _ _ _ HS1.out
       have c3 : w1.cell? ⟨w.heap.size, 3, none⟩ = some (.int .i64 N) := cell_of_row _ _ _ _ _ _ HS1.out
       have c4 : w1.cell? ⟨w.heap.size, 4, none⟩ = some (.int .i64 lo) := cell_of_row _ _ _ _ _ _ HS1.out
       have c5 : w1.cell? ⟨w.heap.size, 5, none⟩ = some (.int .i64 hi) := cell_of_row _ _ _ _ _ _ HS1.out)
    | (go_at_call 79; refine (HT.out _ (HN.out.later HB1.out)).mono ?_; rintro e w2 ⟨⟨a, n, t, b, rfl, rfl⟩, hb2⟩
       have HB2 := Lib.hid (HB1.out.trans (hb2.mono HB1.out.size))
       clear hb2))
  exact bodyPost_ret (results_tmp2 rfl _ _ _) rfl ⟨rfl, HB2.out.alloc HB2.out.size _⟩
set_option maxHeartbeats 1000000 in
theorem before_any {seed : ByteArray} {ad : Option Addr} {sn sc : Nat} {l : List Int} {lo hi : Int} {S : Nat → Nat → Int → Prop} (hD : Drawn seed l lo hi S) (total : Int) (N : Nat) (hS : S 0 N total) (k : Int) (hk0 : 0 ≤ k) (hkN : k ≤ N) (hs : seed.size ≤ 32) (hp : sn ≤ 6) (hsn : sn = l.length) (w : World) (hN : Net seed (.slice ad sn sc) l w) :
    Calls Tryd.prog 51 #[.agg (spV seed (.slice ad sn sc) total N lo hi), .int .i64 k] w fun e w' =>
      e = .returned (.tuple #[.int .i64 (if k = N then total else (downOf seed l lo hi (toF k) 0 N total 0).2.2.2), .int .i64 0]) ∧ Below w.heap.size w w' := by
  have HV := Lib.hid (fun W => vs_ok seed ad sn sc total N lo hi hs hp (hD.ok 0 N total hS).1 W)
  have HT := Lib.hid (fun W hN' => to_any (ad := ad) (sc := sc) hD total N hS k hs hp hsn W hN')
  have HN := Lib.hid hN
  clear hD hS hs hsn hN
  obtain ⟨R, hR⟩ : ∃ R, R = downOf seed l lo hi (toF k) 0 N total 0 := ⟨_, rfl⟩
  rw [← hR] at HT ⊢
  clear hR
  unfold spV ndV at *
  have g1 : ¬ (k < 0) := by omega
  have g2 : ¬ ((N : Int) < k) := by omega
  by_cases g3 : k = (N : Int)
  · rw [if_pos g3]
    have HG := Lib.hid g3
    clear g3
    have g4 : (k == (N : Int)) = true := by rw [HG.out]; simp
    clear HT
    go_enter Tryd.func51, Tryd.ntmps51
    go_wp2_with (first
      | (go_at_call 46; refine (HV.out _).mono ?_; rintro e w1 ⟨rfl, hb1⟩
         have HS1 := Lib.hid (show w1.heap[w.heap.size]? = some (.cells #[.string seed, .slice ad sn sc, .int .i64 total, .int .i64 N, .int .i64 lo, .int .i64 hi] 43 (0, 0)) from (hb1.block _ (by simp)).trans (heap_alloc_new w _))
         have HB1 := Lib.hid (show Below w.heap.size w w1 from ((Below.refl _ _).alloc (Nat.le_refl _) _).trans (hb1.mono (by simp)))
         clear hb1
         have c0 : w1.cell? ⟨w.heap.size, 0, none⟩ = some (.string seed) := cell_of_row _ _ _ _ _ _ HS1.out
         have c1 : w1.cell? ⟨w.heap.size, 1, none⟩ = some (.slice ad sn sc) := cell_of_row _ _ _ _ _ _ HS1.out
         have c2 : w1.cell? ⟨w.heap.size, 2, none⟩ = some (.int .i64 total) := cell_of_row _ _ _ _ _ _ HS1.out
         have c3 : w1.cell? ⟨w.heap.size, 3, none⟩ = some (.int .i64 N) := cell_of_row _ _ _ _ _ _ HS1.out
         have c4 : w1.cell? ⟨w.heap.size, 4, none⟩ = some (.int .i64 lo) := cell_of_row _ _ _ _ _ _ HS1.out
         have c5 : w1.cell? ⟨w.heap.size, 5, none⟩ = some (.int .i64 hi) := cell_of_row _ _ _ _ _ _ HS1.out))
    exact bodyPost_ret (results_tmp2 rfl _ _ _) rfl ⟨rfl, HB1.out⟩
  · rw [if_neg g3]
    have g4 : (k == (N : Int)) = false := by simp; exact g3
    go_enter Tryd.func51, Tryd.ntmps51
    go_wp2_with (first
      | (go_at_call 46; refine (HV.out _).mono ?_; rintro e w1 ⟨rfl, hb1⟩
         have HS1 := Lib.hid (show w1.heap[w.heap.size]? = some (.cells #[.string seed, .slice ad sn sc, .int .i64 total, .int .i64 N, .int .i64 lo, .int .i64 hi] 43 (0, 0)) from (hb1.block _ (by simp)).trans (heap_alloc_new w _))
         have HB1 := Lib.hid (show Below w.heap.size w w1 from ((Below.refl _ _).alloc (Nat.le_refl _) _).trans (hb1.mono (by simp)))
         clear hb1
         have c0 : w1.cell? ⟨w.heap.size, 0, none⟩ = some (.string seed) := cell_of_row _ _ _ _ _ _ HS1.out
         have c1 : w1.cell? ⟨w.heap.size, 1, none⟩ = some (.slice ad sn sc) := cell_of_row _ _ _ _ _ _ HS1.out
         have c2 : w1.cell? ⟨w.heap.size, 2, none⟩ = some (.int .i64 total) := cell_of_row _ _ _ _ _ _ HS1.out
         have c3 : w1.cell? ⟨w.heap.size, 3, none⟩ = some (.int .i64 N) := cell_of_row _ _ _ _ _ _ HS1.out
         have c4 : w1.cell? ⟨w.heap.size, 4, none⟩ = some (.int .i64 lo) := cell_of_row _ _ _ _ _ _ HS1.out
         have c5 : w1.cell? ⟨w.heap.size, 5, none⟩ = some (.int .i64 hi) := cell_of_row _ _ _ _ _ _ HS1.out)
      | (go_at_call 79; refine (HT.out _ (HN.out.later HB1.out)).mono ?_; rintro e w2 ⟨⟨a, n, t, b, rfl, rfl⟩, hb2⟩
         have HB2 := Lib.hid (HB1.out.trans (hb2.mono HB1.out.size))
         clear hb2))
    exact bodyPost_ret (results_tmp2 rfl _ _ _) rfl ⟨rfl, HB2.out.alloc HB2.out.size _⟩
set_option maxHeartbeats 1000000 in
theorem find_any {seed : ByteArray} {ad : Option Addr} {sn sc : Nat} {l : List Int} {lo hi : Int} {S : Nat → Nat → Int → Prop} (hD : Drawn seed l lo hi S) (total : Int) (N : Nat) (hS : S 0 N total) (hlo : 0 ≤ lo) (x : Int) (hx0 : 0 ≤ x) (hxt : x < total) (hs : seed.size ≤ 32) (hp : sn ≤ 6) (hsn : sn = l.length) (w : World) (hN : Net seed (.slice ad sn sc) l w)
    (hb : 0 ≤ x - (downOf seed l lo hi (findF x) 0 N total 0).2.2.2 ∧ x - (downOf seed l lo hi (findF x) 0 N total 0).2.2.2 ≤ 1099511627776) :
    Calls Tryd.prog 53 #[.agg (spV seed (.slice ad sn sc) total N lo hi), .int .i64 x] w fun e w' =>
      e = .returned (.tuple #[.int .i64 (downOf seed l lo hi (findF x) 0 N total 0).1, .int .i64 (x - (downOf seed l lo hi (findF x) 0 N total 0).2.2.2), .int .i64 0]) ∧ Below w.heap.size w w' := by
  have HV := Lib.hid (fun W => vs_ok seed ad sn sc total N lo hi hs hp (hD.ok 0 N total hS).1 W)
  have HT := Lib.hid (fun B W hN' hC => down_find seed ad sn sc l lo hi S hD total N hS (findF x) hs hp hsn B W hN' hC)
  have HN := Lib.hid hN
  clear hD hS hs hsn hN
  obtain ⟨R, hR⟩ : ∃ R, R = downOf seed l lo hi (findF x) 0 N total 0 := ⟨_, rfl⟩
  rw [← hR] at HT hb ⊢
  clear hR
  have HBD := Lib.hid hb
  clear hb
  unfold spV ndV at *
  have g0 : ¬ (lo < 0) := by omega
  have g1 : ¬ (x < 0) := by omega
  have g2 : ¬ (total ≤ x) := by omega
  go_enter Tryd.func53, Tryd.ntmps53
  go_wp2_with (first
    | (go_at_call 46; refine (HV.out _).mono ?_; rintro e w1 ⟨rfl, hb1⟩
       have HS1 := Lib.hid (show w1.heap[w.heap.size]? = some (.cells #[.string seed, .slice ad sn sc, .int .i64 total, .int .i64 N, .int .i64 lo, .int .i64 hi] 43 (0, 0)) from (hb1.block _ (by simp only [World.size_alloc]; omega)).trans (heap_alloc2_old _ _ _))
       have HK1 := Lib.hid (show w1.heap[w.heap.size + 1]? = some (.cells #[.int .i64 x] 3 (0, 0)) from (hb1.block _ (by simp)).trans (heap_alloc2_new _ _ _))
       have HB1 := Lib.hid (show Below w.heap.size w w1 from (((Below.refl _ _).alloc (Nat.le_refl _) _).alloc (by simp) _).trans (hb1.mono (by simp only [World.size_alloc]; omega)))
       have k0 : w1.cell? ⟨w.heap.size + 1, 0, none⟩ = some (.int .i64 x) := cell_of_row _ _ _ _ _ _ HK1.out
       clear hb1
       have c0 : w1.cell? ⟨w.heap.size, 0, none⟩ = some (.string seed) := cell_of_row _ _ _ _ _ _ HS1.out
       have c1 : w1.cell? ⟨w.heap.size, 1, none⟩ = some (.slice ad sn sc) := cell_of_row _ _ _ _ _ _ HS1.out
       have c2 : w1.cell? ⟨w.heap.size, 2, none⟩ = some (.int .i64 total) := cell_of_row _ _ _ _ _ _ HS1.out
       have c3 : w1.cell? ⟨w.heap.size, 3, none⟩ = some (.int .i64 N) := cell_of_row _ _ _ _ _ _ HS1.out
       have c4 : w1.cell? ⟨w.heap.size, 4, none⟩ = some (.int .i64 lo) := cell_of_row _ _ _ _ _ _ HS1.out
       have c5 : w1.cell? ⟨w.heap.size, 5, none⟩ = some (.int .i64 hi) := cell_of_row _ _ _ _ _ _ HS1.out)
    | (go_at_call 86
       have hk1 : w1.heap[w.heap.size + 1]? = some (.cells #[.int .i64 x] 3 (0, 0)) := HK1.out
       refine (HT.out _ w1 (HN.out.later HB1.out) (find1_any _ x _ hk1)).mono ?_
       rintro e w2 ⟨⟨a, n, t, b, rfl, rfl⟩, hb2⟩
       have HK2 := Lib.hid ((hb2.block _ (lt_of_block HK1.out)).trans HK1.out)
       have HB2 := Lib.hid (HB1.out.trans (hb2.mono HB1.out.size))
       clear hb2 hk1))
  have hk2 : w2.cell? ⟨w.heap.size + 1, 0, none⟩ = some (.int .i64 x) := cell_of_row _ _ _ _ _ _ HK2.out
  have hw : IntKind.i64.wrap (x - b) = x - b := by have := HBD.out; simp only [IntKind.wrap_i64]; omega
  obtain ⟨W3, hW3⟩ : ∃ W3, W3 = w2.alloc (.cells #[.int .i64 a, .int .i64 n, .int .i64 t] 98) := ⟨_, rfl⟩
  have hb3 : Below w2.heap.size w2 W3 := by rw [hW3]; exact (Below.refl _ _).alloc (Nat.le_refl _) _
  have hn3 : W3.heap[w2.heap.size]? = some (.cells #[.int .i64 a, .int .i64 n, .int .i64 t] 98 (0, 0)) := by rw [hW3]; exact heap_alloc_new _ _
  have hk3 : W3.cell? ⟨w.heap.size + 1, 0, none⟩ = some (.int .i64 x) := (hb3.cell (p := ⟨w.heap.size + 1, 0, none⟩) (lt_of_block HK2.out)).trans hk2
  have n0 : W3.cell? ⟨w2.heap.size, 0, none⟩ = some (.int .i64 a) := cell_of_row _ _ _ _ _ _ hn3
  have HB3 := Lib.hid (HB2.out.trans (hb3.mono HB2.out.size))
  change Code.wp Tryd.prog _ _ _ (w2.alloc (.cells #[.int .i64 a, .int .i64 n, .int .i64 t] 98))
  rw [← hW3]
  clear hW3 hb3 hn3 hk2 k0 c0 c1 c2 c3 c4 c5
  go_quiet (fail)
  go_wp2
  exact bodyPost_ret (results_tmp3 rfl _ _) rfl ⟨rfl, below_drewN HB3.out _⟩
end Go.Proofs.YtfkpeabkcdhcfaaDoor
