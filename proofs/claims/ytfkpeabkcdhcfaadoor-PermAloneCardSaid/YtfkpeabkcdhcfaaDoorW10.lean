/-
  Walk of PermAlone.
-/
import Derived.Test.YtfkpeabkcdhcfaaDoorW5
namespace Go.Proofs.YtfkpeabkcdhcfaaDoor
open Go.RowKit
set_option maxRecDepth 100000
set_option maxHeartbeats 2000000 in
theorem alone_any (seed other : ByteArray) (hs : seed.size ≤ maxLen) (ho : other.size ≤ maxLen) (v : Value) (l : List Int) (n i : Int) (hn : I64 n) (hi : I64 i) (w : World) (hst : Start v l w) :
    Calls Tryd.prog 10 #[.string seed, v, .int .i64 n, .int .i64 i, .string other] w fun e w' => e = .returned (.bool true) ∧ Below w.heap.size w w' := by
  have hsd := seed_any seed hs
  obtain ⟨s, hse, hs12⟩ := cutS_lt seed
  rw [← hse] at hsd
  clear hse
  have hso := seed_any other ho
  obtain ⟨so, hsoe, hso12⟩ := cutS_lt other
  rw [← hsoe] at hso
  clear hsoe
  obtain ⟨x, hx, hax⟩ := around_num n 100 hn (by omega) (by omega) 100 rfl
  have HSD := Lib.hid hsd
  have HSO := Lib.hid hso
  have HST := Lib.hid hst
  have HAX := Lib.hid hax
  have HI := Lib.hid hi
  clear hsd hst hax hn hso hi
  go_enter Tryd.func10, Tryd.ntmps10
  go_wp2_with fail
  refine (HSD.out _).mono ?_
  rintro e w' ⟨rfl, rfl⟩
  go_wp2_with fail
  refine (path_any v l HST.out.hl HST.out.h64 w HST.out.hr).mono ?_
  rintro e w1 ⟨v1, rfl, hown1, hb1⟩
  have hpl := pathOf_len l
  have hp64 := pathOf_ok l
  obtain ⟨p, hp⟩ : ∃ p, p = pathOf l := ⟨_, rfl⟩
  rw [← hp] at hown1 hpl hp64
  clear hp
  obtain ⟨ad, sc, rfl⟩ := hown1.form
  have hN1 := HST.out.net hb1 hs12 hpl hp64 hown1
  have HN1 := Lib.hid hN1
  have HB1 := Lib.hid hb1
  clear hN1 hb1 hown1 hp64
  obtain ⟨np, hnp⟩ : ∃ np, np = p.length := ⟨_, rfl⟩
  rw [← hnp] at HN1 hpl ⊢
  clear hnp
  go_wp2_with fail
  refine (HAX.out _).mono ?_
  rintro e w' ⟨rfl, rfl⟩
  go_wp2_with fail
  rw [show (1 : Int) + (x : Int) = ((1 + x : Nat) : Int) by omega]
  obtain ⟨k, hk⟩ : ∃ k, k = 1 + x := ⟨_, rfl⟩
  rw [← hk]
  have hk1 : 1 ≤ k := by omega
  have hk100 : k ≤ 100 := by omega
  clear hk hx HAX
  obtain ⟨j, hj, haj⟩ := around_nat i k HI.out hk1 (by omega)
  refine (haj _).mono ?_
  rintro e w' ⟨rfl, rfl⟩
  clear haj
  go_wp2_with fail
  refine (at_ok s ad np sc p k j (by omega) (by omega) (by omega) hj _ HN1.out).mono ?_
  rintro e w2 ⟨rfl, hb2⟩
  have HN2 := Lib.hid (HN1.out.later hb2)
  have HB2 := Lib.hid (HB1.out.trans (hb2.mono HB1.out.size))
  clear hb2 HN1 HB1
  go_wp2_with fail
  refine (all_ok s ad np sc p k (by omega) (by omega) (by omega) _ HN2.out).mono ?_
  rintro e w3 ⟨g, rfl, hown3, hb3⟩
  have HN3 := Lib.hid (HN2.out.later hb3)
  have HB3 := Lib.hid (HB2.out.trans (hb3.mono HB2.out.size))
  have HO3 := Lib.hid hown3
  clear hb3 hown3 HN2 HB2
  go_wp2_with fail
  refine (HSO.out _).mono ?_
  rintro e w' ⟨rfl, rfl⟩
  go_wp2_with fail
  have hNo : Net so (.slice none 0 0) [] w3 := ⟨by omega, by decide, (fun _ h => absurd h (by simp)), HN3.out.h0, HN3.out.hK, .inl ⟨rfl, rfl⟩⟩
  refine (at_ok so none 0 0 [] k 0 (by omega) (by omega) (by omega) (by omega) _ hNo).mono ?_
  rintro e w4 ⟨rfl, hb4⟩
  have HN4 := Lib.hid (HN3.out.later hb4)
  have HB4 := Lib.hid (HB3.out.trans (hb4.mono HB3.out.size))
  have HB34 := Lib.hid hb4
  clear hb4 hNo HN3 HB3
  have hid : I64 (wrap64 (i.tdiv 2)) := by
    unfold I64 wrap64
    constructor <;> omega
  obtain ⟨y, hy, hay⟩ := around_nat (wrap64 (i.tdiv 2)) k hid hk1 (by omega)
  have HAY := Lib.hid hay
  clear hid hay
  go_wp2_with fail
  refine (HAY.out _).mono ?_
  rintro e w' ⟨rfl, rfl⟩
  clear HAY
  go_wp2_with fail
  refine (back_ok s ad np sc p k y (by omega) (by omega) (by omega) hy _ HN4.out).mono ?_
  rintro e w5 ⟨rfl, hb5⟩
  have HN5 := Lib.hid (HN4.out.later hb5)
  have HB5 := Lib.hid (HB4.out.trans (hb5.mono HB4.out.size))
  have HB35 := Lib.hid (HB34.out.trans (hb5.mono HB34.out.size))
  clear hb5 HN4 HB4
  go_wp2_with fail
  refine (at_ok s ad np sc p k j (by omega) (by omega) (by omega) hj _ HN5.out).mono ?_
  rintro e w6 ⟨rfl, hb6⟩
  have HN6 := Lib.hid (HN5.out.later hb6)
  have HB6 := Lib.hid (HB5.out.trans (hb6.mono HB5.out.size))
  have hb36 := HB35.out.trans (hb6.mono HB35.out.size)
  have hca := (hb36.cell (p := ⟨g, j, none⟩) (lt_of_own HO3.out)).trans (HO3.out.at j hj)
  clear hb6 hb36 HN5 HB5
  obtain ⟨P, hP⟩ : ∃ P, P = placeN s p k j := ⟨_, rfl⟩
  rw [← hP] at hca ⊢
  clear hP
  have hmin : min (j : Int) (max ((k : Int) - 1) 0) = (j : Int) := by omega
  go_wp2_with (go_at_call 27; refine (lives_any _ HN6.out.h0 HN6.out.hK).mono ?_; rintro e w9 ⟨rfl, hb9⟩; have HB9 := Lib.hid hb9; clear hb9)
  go_ret
  exact ⟨rfl, HB6.out.trans (HB9.out.mono HB6.out.size)⟩
end Go.Proofs.YtfkpeabkcdhcfaaDoor
