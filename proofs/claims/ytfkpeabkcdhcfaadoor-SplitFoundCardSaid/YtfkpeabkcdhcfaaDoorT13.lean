/-
  Walks of SameInts and of the examples (lives) of package split.
-/
import Derived.Test.YtfkpeabkcdhcfaaDoorT11
import Derived.BigQuiet
namespace Go.Proofs.YtfkpeabkcdhcfaaDoor
open Go.RowKit
set_option maxRecDepth 100000
theorem ReadI.form {v : Value} {l : List Int} {w : World} (h : ReadI v l w) : ∃ ad sc, v = .slice ad l.length sc := by
  rcases h with ⟨rfl, rfl⟩ | ⟨ad, cap, rfl, _⟩
  · exact ⟨none, 0, rfl⟩
  · exact ⟨some ad, cap, rfl⟩
theorem ReadI.some_ {ad : Option Addr} {n sc : Nat} {l : List Int} {w : World} (h : ReadI (.slice ad n sc) l w) (hl : 0 < l.length) : ∃ b off mm, ad = some ⟨b, off, mm⟩ ∧ ∀ i, i < l.length → w.cell? ((⟨b, off, mm⟩ : Addr).add i) = some (.int .i64 (l.getD i 0)) := by
  rcases h with ⟨h1, rfl⟩ | ⟨⟨b, off, mm⟩, cap, h1, hc⟩
  · simp at hl
  · simp only [Value.slice.injEq] at h1
    refine ⟨b, off, mm, h1.1, fun i hi => hc i _ (by simp [List.getElem?_eq_getElem hi])⟩
set_option maxHeartbeats 1000000 in
theorem same_any (u v : Value) (l : List Int) (hl : l.length ≤ 100000) (w : World) (hu : ReadI u l w) (hv : ReadI v l w) :
    Calls Tryd.prog 26 #[u, v] w fun e w' => e = .returned (.bool true) ∧ Below w.heap.size w w' := by
  obtain ⟨a1, c1, rfl⟩ := hu.form
  obtain ⟨a2, c2, rfl⟩ := hv.form
  have hsu := hu.some_
  have hsv := hv.some_
  have HU := Lib.hid hsu
  have HV := Lib.hid hsv
  clear hu hv hsu hsv
  obtain ⟨n, hn⟩ : ∃ n, n = l.length := ⟨_, rfl⟩
  rw [← hn] at hl HU HV ⊢
  have HNN := Lib.hid hn
  clear hn
  go_enter Tryd.func26, Tryd.ntmps26
  go_wp2_with fail
  go_loopw [5] (fun c wr => ∃ k : Nat, k ≤ n ∧ c = .int .i64 k ∧ ∃ m, wr = w.drewN m) (fun c _ => n - (intOf c).toNat)
  case atStart => exact ⟨0, by omega, rfl, 0, rfl⟩
  case round =>
    obtain ⟨k, hk, rfl, m, rfl⟩ := hrel
    by_cases hlt : k < n
    · obtain ⟨b1, o1, m1, rfl, hc1⟩ := HU.out (by omega)
      obtain ⟨b2, o2, m2, rfl, hc2⟩ := HV.out (by omega)
      have d1 := hc1 k hlt
      have d2 := hc2 k hlt
      obtain ⟨x, hx⟩ : ∃ x, x = l.getD k 0 := ⟨_, rfl⟩
      rw [← hx] at d1 d2
      clear hc1 hc2 hx
      go_wp2_with fail
      go_quiet (fail)
      go_wp2_with fail
      go_roundw
      case rel => exact ⟨k + 1, by omega, by go_num, _, rfl⟩
      case measure => simp [intOf]; omega
    · obtain rfl : k = n := by omega
      go_wp2_with fail
      go_ret
      exact ⟨rfl, below_drewN (Below.refl _ _) _⟩
theorem read_new (W : World) (l : List Int) (n : Nat) (hl : l.length ≤ maxLen) (hn : n = l.length) (cs : Array Value) (hcs : cs = (l.map (Value.int .i64)).toArray) : ReadI (.slice (some ⟨W.heap.size, 0, none⟩) n n) l (W.alloc (.cells cs 3)) := by
  subst hn hcs
  have h : OwnI W.heap.size (.slice (some ⟨W.heap.size, 0, none⟩) l.length l.length) l (W.alloc (.cells (l.map (Value.int .i64)).toArray 3)) :=
    ⟨by simp, .inr ⟨W.heap.size, l.length, _, rfl, Nat.le_refl _, heap_alloc_new W _, Nat.le_refl _, hl, by simp, by simp [List.take_of_length_le]⟩⟩
  exact h.read
/-- a split of one part -/
def One (lo hi T : Int) (a n : Nat) (t : Int) : Prop := a = 0 ∧ n = 1 ∧ t = T ∧ NodeOk lo hi 1 T
theorem drawn_one (seed : ByteArray) (l : List Int) (lo hi T : Int) : Drawn seed l lo hi (One lo hi T) := by
  refine ⟨?_, ?_, ?_, ?_⟩
  · rintro a n t ⟨rfl, rfl, rfl, h⟩; exact ⟨h, by omega⟩
  · rintro a n t ⟨_, rfl, _⟩ hn; omega
  · rintro a n t ⟨_, rfl, _⟩ hn; omega
  · rintro a n t ⟨_, rfl, _⟩ hn; omega
theorem downOf_one (seed : ByteArray) (l : List Int) (lo hi : Int) (f : Nat → Int → Int → Bool) (T : Int) : downOf seed l lo hi f 0 1 T 0 = (0, 1, T, 0) := downOf_end _ _ _ _ _ _ _ _ _ (by omega)
def sLive : ByteArray := { data := #[115] }
/-- 11 over two -/
def Two (a n : Nat) (t : Int) : Prop := (n = 1 ∧ a ≤ 1 ∧ NodeOk 0 6 1 t) ∨ (a = 0 ∧ n = 2 ∧ t = 11)
theorem drawn_two : Drawn sLive [] 0 6 Two := by
  have hk : NodeOk 0 6 2 11 := ⟨by omega, by omega, by omega, by omega, by omega, by omega⟩
  refine ⟨?_, ?_, ?_, ?_⟩
  · rintro a n t (⟨rfl, h1, h2⟩ | ⟨rfl, rfl, rfl⟩)
    · exact ⟨h2, by omega⟩
    · exact ⟨hk, by omega⟩
  · rintro a n t (⟨rfl, h1, h2⟩ | ⟨rfl, rfl, rfl⟩) hn
    · omega
    · exact .inl ⟨rfl, by omega, (hk.left (seed := sLive) (l := []) (a := 0)).1⟩
  · rintro a n t (⟨rfl, h1, h2⟩ | ⟨rfl, rfl, rfl⟩) hn
    · omega
    · exact .inl ⟨rfl, by omega, (hk.left (seed := sLive) (l := []) (a := 0)).2⟩
  · rintro a n t (⟨rfl, h1, h2⟩ | ⟨rfl, rfl, rfl⟩) hn
    · omega
    · exact acc_two _ _
theorem live_two : (downOf sLive [] 0 6 (toF 0) 0 2 11 0).2.2.1 = btwOf sLive [0, 2] 5 6 := by
  rw [downOf_left _ _ _ _ _ _ _ _ _ (by omega) (by decide), downOf_end _ _ _ _ _ _ _ _ _ (by omega)]
  rfl
set_option maxHeartbeats 2000000 in
theorem lives7_any (w : World) (h0 : 0 < w.heap.size) (hK : HoldK w) : Calls Tryd.prog 55 #[] w fun e w' => e = .returned (.bool true) ∧ Below w.heap.size w w' := by
  have hN : ∀ (s : ByteArray) (W : World), s.size ≤ 32 → Below w.heap.size w W → Net s (.slice none 0 0) [] W := fun s W hs hb =>
    ⟨by omega, by simp, fun n hn => by simp at hn, Nat.lt_of_lt_of_le h0 hb.size, hK.later h0 hb, .inl ⟨rfl, rfl⟩⟩
  have k48a := fun W hb => alls_any (drawn_eq ⟨#[]⟩ [] 4 9 4 ⟨.inl rfl, by omega⟩) (ad := none) (sn := 0) (sc := 0) 12 3 ⟨by omega, by omega⟩ (by omega) (by decide) (by omega) rfl W (hN _ W (by decide) hb)
  rw [show partsOf ⟨#[]⟩ [] 4 9 0 3 12 = [4, 4, 4] from partsOf_eq ⟨#[]⟩ [] 4 9 4 ⟨.inl rfl, by omega⟩ 0 3] at k48a
  have k1 : One 0 9 5 0 1 5 := ⟨rfl, rfl, rfl, by omega, by omega, by omega, by omega, by omega, by omega⟩
  have k48b := fun W hb => alls_any (drawn_one ⟨#[]⟩ [] 0 9 5) (ad := none) (sn := 0) (sc := 0) 5 1 k1 (by omega) (by decide) (by omega) rfl W (hN _ W (by decide) hb)
  rw [partsOf_one] at k48b
  have k51 := fun W hb => before_any (drawn_one ⟨#[]⟩ [] 0 9 5) (ad := none) (sn := 0) (sc := 0) 5 1 k1 1 (by omega) (by omega) (by decide) (by omega) rfl W (hN _ W (by decide) hb)
  rw [if_pos (by rfl)] at k51
  have k53 := fun W hb => find_any (drawn_one ⟨#[]⟩ [] 0 9 5) (ad := none) (sn := 0) (sc := 0) 5 1 k1 (by omega) 4 (by omega) (by omega) (by decide) (by omega) rfl W (hN _ W (by decide) hb) (by rw [downOf_one]; dsimp only; omega)
  rw [downOf_one] at k53
  have k39 := fun W hb => part_any drawn_two (ad := none) (sn := 0) (sc := 0) 11 2 (.inr ⟨rfl, rfl, rfl⟩) 0 (by omega) (by omega) (by decide) (by omega) rfl W (hN _ W (by decide) hb)
  rw [live_two] at k39
  have k57 := fun (g : Nat) W hb hr => between_any sLive (some ⟨g, 0, none⟩) 2 2 [0, 2] 5 6 (by omega) (by omega) (by omega) (by omega) (by decide) (by omega) (acc_two _ _) W (⟨by decide, by simp, fun n hn => by simp at hn; omega, (hN sLive W (by decide) hb).h0, (hN sLive W (by decide) hb).hK, hr⟩ : Net sLive (.slice (some ⟨g, 0, none⟩) 2 2) [0, 2] W)
  obtain ⟨P, hP⟩ : ∃ P, P = btwOf sLive [0, 2] 5 6 := ⟨_, rfl⟩
  rw [← hP] at k39 k57
  have K48a := Lib.hid (show ∀ W, Below w.heap.size w W → Calls Tryd.prog 48 #[.agg #[.string { data := #[] }, .slice none 0 0, .int .i64 12, .int .i64 3, .int .i64 4, .int .i64 9]] W fun e w' => ∃ v, e = .returned (.tuple #[v, .int .i64 0]) ∧ OwnI W.heap.size v [4, 4, 4] w' ∧ Below W.heap.size W w' from k48a)
  have K48b := Lib.hid (show ∀ W, Below w.heap.size w W → Calls Tryd.prog 48 #[.agg #[.string { data := #[] }, .slice none 0 0, .int .i64 5, .int .i64 1, .int .i64 0, .int .i64 9]] W fun e w' => ∃ v, e = .returned (.tuple #[v, .int .i64 0]) ∧ OwnI W.heap.size v [5] w' ∧ Below W.heap.size W w' from k48b)
  have K51 := Lib.hid (show ∀ W, Below w.heap.size w W → Calls Tryd.prog 51 #[.agg #[.string { data := #[] }, .slice none 0 0, .int .i64 5, .int .i64 1, .int .i64 0, .int .i64 9], .int .i64 1] W fun e w' => e = .returned (.tuple #[.int .i64 5, .int .i64 0]) ∧ Below W.heap.size W w' from k51)
  have K53 := Lib.hid (show ∀ W, Below w.heap.size w W → Calls Tryd.prog 53 #[.agg #[.string { data := #[] }, .slice none 0 0, .int .i64 5, .int .i64 1, .int .i64 0, .int .i64 9], .int .i64 4] W fun e w' => e = .returned (.tuple #[.int .i64 0, .int .i64 4, .int .i64 0]) ∧ Below W.heap.size W w' from k53)
  have K39 := Lib.hid (show ∀ W, Below w.heap.size w W → Calls Tryd.prog 39 #[.agg #[.string { data := #[115] }, .slice none 0 0, .int .i64 11, .int .i64 2, .int .i64 0, .int .i64 6], .int .i64 0] W fun e w' => e = .returned (.tuple #[.int .i64 P, .int .i64 0]) ∧ Below W.heap.size W w' from k39)
  have K57 := Lib.hid (show ∀ (g : Nat) W, Below w.heap.size w W → ReadI (.slice (some ⟨g, 0, none⟩) 2 2) [0, 2] W → Calls Tryd.prog 57 #[.string { data := #[115] }, .slice (some ⟨g, 0, none⟩) 2 2, .int .i64 5, .int .i64 6] W fun e w' => e = .returned (.tuple #[.int .i64 P, .int .i64 0]) ∧ Below W.heap.size W w' from k57)
  have K46 := Lib.hid (show ∀ W, Calls Tryd.prog 46 #[.agg #[.string { data := #[] }, .slice none 0 0, .int .i64 7, .int .i64 0, .int .i64 0, .int .i64 9]] W fun e w' => e = .returned (.int .i64 5) ∧ Below W.heap.size W w' from vs_none)
  clear k48a k48b k1 k51 k53 k39 k57 hP hN h0 hK
  go_enter Tryd.func55, Tryd.ntmps55
  go_wp2_with fail
  refine (K48a.out _ (Below.refl _ _)).mono ?_
  rintro e w1 ⟨v1, rfl, hown1, hb1⟩
  have HO1 := Lib.hid hown1
  have HB1 := Lib.hid hb1
  clear hown1 hb1
  go_wp2_with fail
  refine (K48b.out _ (HB1.out.alloc HB1.out.size _)).mono ?_
  rintro e w2 ⟨v2, rfl, hown2, hb2⟩
  have HB12 := Lib.hid (show Below w1.heap.size w1 w2 from ((Below.refl _ _).alloc (Nat.le_refl _) _).trans (hb2.mono (by simp)))
  have HR2 := Lib.hid (show w2.heap[w1.heap.size]? = some (.cells #[.string { data := #[] }, .slice none 0 0, .int .i64 5, .int .i64 1, .int .i64 0, .int .i64 9] 43 (0, 0)) from (hb2.block _ (by simp)).trans (heap_alloc_new w1 _))
  have HO12 := Lib.hid (HO1.out.later HB12.out)
  have HB2 := Lib.hid (HB1.out.trans (HB12.out.mono HB1.out.size))
  have HO2 := Lib.hid hown2
  clear hown2 hb2 HO1 HB1
  have c0 : w2.cell? ⟨w1.heap.size, 0, none⟩ = some (.string { data := #[] }) := cell_of_row _ _ _ _ _ _ HR2.out
  have c1 : w2.cell? ⟨w1.heap.size, 1, none⟩ = some (.slice none 0 0) := cell_of_row _ _ _ _ _ _ HR2.out
  have c2 : w2.cell? ⟨w1.heap.size, 2, none⟩ = some (.int .i64 5) := cell_of_row _ _ _ _ _ _ HR2.out
  have c3 : w2.cell? ⟨w1.heap.size, 3, none⟩ = some (.int .i64 1) := cell_of_row _ _ _ _ _ _ HR2.out
  have c4 : w2.cell? ⟨w1.heap.size, 4, none⟩ = some (.int .i64 0) := cell_of_row _ _ _ _ _ _ HR2.out
  have c5 : w2.cell? ⟨w1.heap.size, 5, none⟩ = some (.int .i64 9) := cell_of_row _ _ _ _ _ _ HR2.out
  go_wp2_with fail
  refine (K51.out _ HB2.out).mono ?_
  rintro e w3 ⟨rfl, hb3⟩
  clear c0 c1 c2 c3 c4 c5
  have HR3 := Lib.hid ((hb3.block _ (lt_of_block HR2.out)).trans HR2.out)
  have HO13 := Lib.hid (HO12.out.later hb3)
  have HO23 := Lib.hid (HO2.out.later hb3)
  have HB3 := Lib.hid (HB2.out.trans (hb3.mono HB2.out.size))
  clear hb3 HO12 HO2 HB2 HR2
  have c0 : w3.cell? ⟨w1.heap.size, 0, none⟩ = some (.string { data := #[] }) := cell_of_row _ _ _ _ _ _ HR3.out
  have c1 : w3.cell? ⟨w1.heap.size, 1, none⟩ = some (.slice none 0 0) := cell_of_row _ _ _ _ _ _ HR3.out
  have c2 : w3.cell? ⟨w1.heap.size, 2, none⟩ = some (.int .i64 5) := cell_of_row _ _ _ _ _ _ HR3.out
  have c3 : w3.cell? ⟨w1.heap.size, 3, none⟩ = some (.int .i64 1) := cell_of_row _ _ _ _ _ _ HR3.out
  have c4 : w3.cell? ⟨w1.heap.size, 4, none⟩ = some (.int .i64 0) := cell_of_row _ _ _ _ _ _ HR3.out
  have c5 : w3.cell? ⟨w1.heap.size, 5, none⟩ = some (.int .i64 9) := cell_of_row _ _ _ _ _ _ HR3.out
  go_wp2_with fail
  refine (K53.out _ HB3.out).mono ?_
  rintro e w4 ⟨rfl, hb4⟩
  clear c0 c1 c2 c3 c4 c5
  have HO14 := Lib.hid (HO13.out.later hb4)
  have HO24 := Lib.hid (HO23.out.later hb4)
  have HB4 := Lib.hid (HB3.out.trans (hb4.mono HB3.out.size))
  clear hb4 HO13 HO23 HB3 HR3
  go_wp2_with fail
  refine (K39.out _ HB4.out).mono ?_
  rintro e w5 ⟨rfl, hb5⟩
  have HO15 := Lib.hid (HO14.out.later hb5)
  have HO25 := Lib.hid (HO24.out.later hb5)
  have HB5 := Lib.hid (HB4.out.trans (hb5.mono HB4.out.size))
  clear hb5 HO14 HO24 HB4
  go_wp2_with fail
  refine (K57.out _ _ (HB5.out.alloc HB5.out.size _) (read_new w5 [0, 2] 2 (by decide) rfl _ rfl)).mono ?_
  rintro e w6 ⟨rfl, hb6⟩
  have hb56 : Below w5.heap.size w5 w6 := ((Below.refl _ _).alloc (Nat.le_refl _) _).trans (hb6.mono (by simp))
  have HO16 := Lib.hid (HO15.out.later hb56)
  have HO26 := Lib.hid (HO25.out.later hb56)
  have HB6 := Lib.hid (HB5.out.trans (hb56.mono HB5.out.size))
  clear hb6 hb56 HO15 HO25 HB5
  go_wp2_with fail
  have hal : Below w6.heap.size w6 (w6.alloc (.cells #[.int .i64 4, .int .i64 4, .int .i64 4] 3)) := (Below.refl _ _).alloc (Nat.le_refl _) _
  refine (same_any v1 _ [4, 4, 4] (by simp) _ (HO16.out.later hal).read (read_new w6 [4, 4, 4] 3 (by decide) rfl _ rfl)).mono ?_
  rintro e w7 ⟨rfl, hb7⟩
  have HO27 := Lib.hid ((HO26.out.later hal).later hb7)
  have HB7 := Lib.hid ((HB6.out.trans (hal.mono HB6.out.size)).trans (hb7.mono (by have := HB6.out.size; simp; omega)))
  clear hb7 hal HO26 HB6 HO16
  go_wp2_with fail
  have hal : Below w7.heap.size w7 (w7.alloc (.cells #[.int .i64 5] 3)) := (Below.refl _ _).alloc (Nat.le_refl _) _
  refine (same_any v2 _ [5] (by simp) _ (HO27.out.later hal).read (read_new w7 [5] 1 (by decide) rfl _ rfl)).mono ?_
  rintro e w8 ⟨rfl, hb8⟩
  have HB8 := Lib.hid ((HB7.out.trans (hal.mono HB7.out.size)).trans (hb8.mono (by have := HB7.out.size; simp; omega)))
  clear hb8 hal HO27 HB7
  go_wp2_with fail
  refine (K46.out _).mono ?_
  rintro e w9 ⟨rfl, hb9⟩
  have HB9 := Lib.hid (HB8.out.trans (hb9.mono HB8.out.size))
  clear hb9 HB8
  go_wp2_with fail
  go_ret
  exact ⟨rfl, HB9.out⟩
end Go.Proofs.YtfkpeabkcdhcfaaDoor
