/-
  Walks of the references' small helpers: Around, At, Short, Seed, Path.
-/
import Derived.Test.YtfkpeabkcdhcfaaDoorE1
import Derived.IntWalk
namespace Go.Proofs.YtfkpeabkcdhcfaaDoor
open Go.RowKit
set_option maxRecDepth 100000
def I64 (n : Int) : Prop := -9223372036854775808 ≤ n ∧ n < 9223372036854775808
/-- a number from 0 to most - 1 -/
def aroundI (n most : Int) : Int := if most < 1 then 0 else (if n < 0 then -(n + 1) else n) % most
theorem aroundI_lt (n most : Int) (h : 1 ≤ most) : 0 ≤ aroundI n most ∧ aroundI n most < most := by
  unfold aroundI
  rw [if_neg (by omega)]
  exact ⟨Int.emod_nonneg _ (by omega), Int.emod_lt_of_pos _ (by omega)⟩
theorem aroundI_nonneg (n most : Int) : 0 ≤ aroundI n most := by
  by_cases h : most < 1
  · unfold aroundI; rw [if_pos h]; decide
  · exact (aroundI_lt n most (by omega)).1
theorem neg_tmod' (n m : Int) (h : 0 ≤ -(n + 1)) : -((n + 1).tmod m) = -(n + 1) % m := by
  rw [← Int.neg_tmod, Int.tmod_eq_emod_of_nonneg h]
set_option maxHeartbeats 400000 in
theorem around_any (n most : Int) (hn : I64 n) (hm : I64 most) (w : World) : Calls Tryd.prog 23 #[.int .i64 n, .int .i64 most] w fun e w' => e = .returned (.int .i64 (aroundI n most)) ∧ w = w' := by
  obtain ⟨hn1, hn2⟩ := hn
  obtain ⟨hm1, hm2⟩ := hm
  unfold aroundI
  by_cases h1 : n < 0
  · by_cases h2 : most < 1
    · rw [if_pos h2]
      go_enter Tryd.func23, Tryd.ntmps23
      go_wp2
      go_ret
      exact ⟨rfl, rfl⟩
    · rw [if_neg h2, if_pos h1]
      have h3 : 0 ≤ -(n + 1) := by omega
      have h4 : 0 < most := by omega
      go_enter Tryd.func23, Tryd.ntmps23
      go_wp2
      go_ret
      refine ⟨?_, rfl⟩
      rw [← neg_tmod' n most h3]
      rfl
  · by_cases h2 : most < 1
    · rw [if_pos h2]
      go_enter Tryd.func23, Tryd.ntmps23
      go_wp2
      go_ret
      exact ⟨rfl, rfl⟩
    · rw [if_neg h2, if_neg h1]
      have h4 : 0 < most := by omega
      have h5 : 0 ≤ n := by omega
      go_enter Tryd.func23, Tryd.ntmps23
      go_wp2
      go_ret
      exact ⟨rfl, rfl⟩
theorem short_any (s : ByteArray) (_hs : s.size ≤ maxLen) (m : Nat) (hm : m ≤ 1000) (w : World) : Calls Tryd.prog 21 #[.string s, .int .i64 m] w fun e w' => e = .returned (.string (if m < s.size then s.extract 0 m else s)) ∧ w = w' := by
  unfold maxLen at _hs
  by_cases h : m < s.size
  · rw [if_pos h]
    go_enter Tryd.func21, Tryd.ntmps21
    go_wp2
    go_ret
    exact ⟨rfl, rfl⟩
  · rw [if_neg h]
    go_enter Tryd.func21, Tryd.ntmps21
    go_wp2
    go_ret
    exact ⟨rfl, rfl⟩
/-- an element of a list, or 0, brought to a number from 0 to most - 1 -/
def atI (l : List Int) (i : Nat) (most : Int) : Int := if i < l.length then aroundI (l.getD i 0) most else 0
def Int64s (l : List Int) : Prop := ∀ n ∈ l, I64 n
set_option maxHeartbeats 400000 in
theorem ref_at (v : Value) (l : List Int) (i : Nat) (most : Int) (hl : l.length ≤ maxLen) (hi : i ≤ 100000) (hm : I64 most) (h64 : Int64s l) (w : World) (hr : ReadI v l w) :
    Calls Tryd.prog 58 #[v, .int .i64 i, .int .i64 most] w fun e w' => e = .returned (.int .i64 (atI l i most)) ∧ w = w' := by
  unfold maxLen at hl
  rcases hr with ⟨rfl, rfl⟩ | ⟨⟨b, off, mm⟩, cap, rfl, hc⟩
  · go_enter Tryd.func58, Tryd.ntmps58
    go_wp2
    all_goals (go_ret; exact ⟨rfl, rfl⟩)
  · unfold atI
    by_cases h : i < l.length
    · rw [if_pos h]
      have hx : w.cell? ((⟨b, off, mm⟩ : Addr).add i) = some (.int .i64 (l.getD i 0)) := hc i _ (by simp [List.getElem?_eq_getElem h])
      have h6 : I64 (l.getD i 0) := h64 _ (by rw [List.getD_eq_getElem?_getD, List.getElem?_eq_getElem h]; exact List.getElem_mem h)
      obtain ⟨x, hxe⟩ : ∃ x, x = l.getD i 0 := ⟨_, rfl⟩
      rw [← hxe] at hx h6 ⊢
      clear hc hxe
      go_enter Tryd.func58, Tryd.ntmps58
      go_wp2_with (go_at_call 23; refine (around_any _ _ h6 hm _).mono ?_; rintro e w' ⟨rfl, rfl⟩)
      all_goals (go_ret; exact ⟨rfl, rfl⟩)
    · rw [if_neg h]
      go_enter Tryd.func58, Tryd.ntmps58
      go_wp2
      all_goals (go_ret; exact ⟨rfl, rfl⟩)
theorem cut12 (s : ByteArray) : (if 12 < s.size then s.extract 0 12 else s).size ≤ 12 := by
  split
  · simp
    omega
  · omega
theorem seed_any (s : ByteArray) (hs : s.size ≤ maxLen) (w : World) : Calls Tryd.prog 28 #[.string s] w fun e w' => e = .returned (.string (if 12 < s.size then s.extract 0 12 else s)) ∧ w = w' := by
  obtain ⟨r, hr⟩ : ∃ r, r = if 12 < s.size then s.extract 0 12 else s := ⟨_, rfl⟩
  have hsh := short_any s hs 12 (by omega)
  rw [← hr] at hsh ⊢
  clear hr
  go_enter Tryd.func28, Tryd.ntmps28
  go_wp2_with (go_at_call 21; refine (hsh _).mono ?_; rintro e w' ⟨rfl, rfl⟩)
  go_ret
  exact ⟨rfl, rfl⟩
def pathN (l : List Int) (k : Nat) : List Int := (List.range k).map fun i => atI l (1 + i) 40 - 4
theorem pathN_succ (l : List Int) (k : Nat) : pathN l (k + 1) = pathN l k ++ [atI l (1 + k) 40 - 4] := by simp [pathN, List.range_succ]
theorem pathN_length (l : List Int) (k : Nat) : (pathN l k).length = k := by simp [pathN]
theorem atI_bd (l : List Int) (i : Nat) (most : Int) (h : 1 ≤ most) : 0 ≤ atI l i most ∧ atI l i most < most := by
  unfold atI
  split
  · exact aroundI_lt _ _ h
  · omega
/-- the path of up to four small numbers -/
def pathOf (l : List Int) : List Int := pathN l (atI l 0 5).toNat
theorem OwnI.read {base : Nat} {v : Value} {l : List Int} {w : World} (h : OwnI base v l w) : ReadI v l w := by
  rcases h.2 with ⟨h1, h2⟩ | ⟨g, cap, cur, h1, _⟩
  · exact .inl ⟨h1, List.length_eq_zero_iff.1 h2⟩
  · subst h1
    refine .inr ⟨⟨g, 0, none⟩, cap, rfl, fun j u hj => ?_⟩
    exact World.ownsRow.cells h (g := g) rfl j u hj
theorem OwnI.form {base : Nat} {v : Value} {l : List Int} {w : World} (h : OwnI base v l w) : ∃ ad sc, v = .slice ad l.length sc := by
  rcases h.2 with ⟨h1, h2⟩ | ⟨g, cap, cur, h1, _⟩
  · exact ⟨none, 0, by rw [h1, h2]⟩
  · exact ⟨_, cap, h1⟩
theorem pathOf_len (l : List Int) : (pathOf l).length ≤ 4 := by
  have := atI_bd l 0 5 (by omega)
  rw [pathOf, pathN_length]; omega
theorem pathOf_ok (l : List Int) : Ok64 (pathOf l) := by
  intro n hn
  simp only [pathOf, pathN, List.mem_map] at hn
  obtain ⟨i, _, rfl⟩ := hn
  have := atI_bd l (1 + i) 40 (by omega)
  omega
set_option maxHeartbeats 1000000 in
theorem path_any (v : Value) (l : List Int) (hl : l.length ≤ maxLen) (h64 : Int64s l) (w : World) (hr : ReadI v l w) :
    Calls Tryd.prog 29 #[v] w fun e w' => ∃ v', e = .returned v' ∧ OwnI w.heap.size v' (pathOf l) w' ∧ Below w.heap.size w w' := by
  have HR := Lib.hid hr
  clear hr
  obtain ⟨m, hm⟩ : ∃ m : Nat, atI l 0 5 = (m : Int) := ⟨(atI l 0 5).toNat, by have := atI_bd l 0 5 (by omega); omega⟩
  have hm5 : m < 5 := by have := atI_bd l 0 5 (by omega); omega
  have HM := Lib.hid hm
  clear hm
  go_enter Tryd.func29, Tryd.ntmps29
  go_wp2
  go_loopw [3, 4] (fun u c wr => ∃ k : Nat, k ≤ m ∧ c = .int .i64 k ∧ OwnI w.heap.size u (pathN l k) wr ∧ Below w.heap.size w wr) (fun _ c _ => m - (intOf c).toNat)
  case atStart => exact ⟨0, by omega, rfl, World.ownsRow_nil _ _ _ _, Below.refl _ _⟩
  case round =>
    obtain ⟨k, hk, rfl, hown, hb⟩ := hrel
    have HO := Lib.hid hown
    have HB := Lib.hid hb
    clear hown hb
    by_cases hlt : k < m
    · obtain ⟨x, hx⟩ : ∃ x, x = atI l (1 + k) 40 := ⟨_, rfl⟩
      have hxb : 0 ≤ x ∧ x < 40 := by rw [hx]; exact atI_bd _ _ _ (by omega)
      obtain ⟨hx0, hx40⟩ := hxb
      have hat : ∀ w', Below wr.heap.size wr w' → Calls Tryd.prog 58 #[v, .int .i64 (1 + (k : Int)), .int .i64 40] w' fun e w'' => e = .returned (.int .i64 x) ∧ w' = w'' := fun w' hb' => by
        have := ref_at v l (1 + k) 40 hl (by omega) (by constructor <;> omega) h64 w' ((HR.out.later HB.out).later hb')
        rw [← hx] at this
        exact this
      have hat0 := ref_at v l 0 5 hl (by omega) (by constructor <;> omega) h64 wr (HR.out.later HB.out)
      rw [HM.out] at hat0
      have HX := Lib.hid hx
      have HAT := Lib.hid hat
      have HAT0 := Lib.hid hat0
      clear hx hat hat0
      go_wp2_with fail
      refine HAT0.out.mono ?_
      rintro e w' ⟨rfl, rfl⟩
      go_wp2_with fail
      refine (HAT.out _ (Below.refl _ _)).mono ?_
      rintro e w' ⟨rfl, rfl⟩
      go_wp2_with ((with_reducible show wpList _ _ _ ((⟨_, Op.call _, _, _, _, _⟩ : Oper) :: _) _ _); refine append_ints w.heap.size _ (pathN l k) (HO.out.alloc _) rfl (.tmp 11) (.tmp 17) rfl rfl [x - 4] ⟨wr.heap.size, 0, none⟩ 1 rfl (cell_one_new wr _ 3) (by rw [pathN_length]; simp; omega) (by have := HB.out.size; simp; omega) w (HB.out.alloc HB.out.size _) ?_; intro v2 w2 hown2 _ hb2; have HO2 := Lib.hid hown2; have HB2 := Lib.hid hb2; clear hown2 hb2)
      go_roundw
      case rel => exact ⟨k + 1, by omega, by go_num, by rw [pathN_succ, ← HX.out]; exact HO2.out, HB2.out⟩
      case measure => simp [intOf]; omega
    · obtain rfl : k = m := by omega
      have hat0 := ref_at v l 0 5 hl (by omega) (by constructor <;> omega) h64 wr (HR.out.later HB.out)
      rw [HM.out] at hat0
      have HAT0 := Lib.hid hat0
      clear hat0
      go_wp2_with (go_at_call 58; refine HAT0.out.mono ?_; rintro e w' ⟨rfl, rfl⟩)
      go_ret
      refine ⟨_, rfl, ?_, HB.out⟩
      rw [pathOf, HM.out]
      exact HO.out
end Go.Proofs.YtfkpeabkcdhcfaaDoor
