/-
  Walk of PermPlaces.
-/
import Derived.Test.YtfkpeabkcdhcfaaDoorZ3
import Derived.Deep.RegionHeld3
import Derived.Deep.DeepCutAuto
namespace Go.Proofs.YtfkpeabkcdhcfaaDoor
open Go.RowKit
set_option maxRecDepth 100000
/-- At and Back and their references return the same -/
theorem two_pair (s : ByteArray) (ad : Option Addr) (sn sc : Nat) (p : List Int) (n i : Int) :
    (∃ A E : Int, (∀ W, Net s (.slice ad sn sc) p W → Calls Tryd.prog 32 #[.string s, .slice ad sn sc, .int .i64 n, .int .i64 i] W (Two A E W)) ∧ (∀ W, Net2 s (.slice ad sn sc) p W → Calls Tryd.prog 33 #[.string s, .slice ad sn sc, .int .i64 n, .int .i64 i] W (Two A E W))) ∧
    (∃ A E : Int, (∀ W, Net s (.slice ad sn sc) p W → Calls Tryd.prog 34 #[.string s, .slice ad sn sc, .int .i64 n, .int .i64 i] W (Two A E W)) ∧ (∀ W, Net2 s (.slice ad sn sc) p W → Calls Tryd.prog 35 #[.string s, .slice ad sn sc, .int .i64 n, .int .i64 i] W (Two A E W))) := by
  by_cases hb : Bad s sn n
  · exact ⟨⟨0, 4, fun W _ => at_no s ad sn sc n i hb W, fun W _ => rat_no s ad sn sc n i hb W⟩, ⟨0, 4, fun W _ => back_no s ad sn sc n i hb W, fun W _ => rback_no s ad sn sc n i hb W⟩⟩
  · by_cases hi : i < 0 ∨ n ≤ i
    · exact ⟨⟨0, 1, fun W _ => at_arg s ad sn sc n i hb hi W, fun W _ => rat_arg s ad sn sc n i hb hi W⟩, ⟨0, 1, fun W _ => back_arg s ad sn sc n i hb hi W, fun W _ => rback_arg s ad sn sc n i hb hi W⟩⟩
    · obtain ⟨m, rfl⟩ : ∃ m : Nat, n = (m : Int) := ⟨n.toNat, by omega⟩
      obtain ⟨j, rfl⟩ : ∃ j : Nat, i = (j : Int) := ⟨i.toNat, by omega⟩
      unfold Bad at hb
      refine ⟨⟨placeN s p m j, 0, fun W hN => ?_, fun W hN => ?_⟩, ⟨backPlaceN s p m j, 0, fun W hN => ?_, fun W hN => ?_⟩⟩
      · exact at_ok s ad sn sc p m j (by omega) (by omega) (by omega) (by omega) W hN
      · exact rat_ok s ad sn sc p m j (by omega) (by omega) (by omega) (by omega) W hN
      · exact back_ok s ad sn sc p m j (by omega) (by omega) (by omega) (by omega) W hN
      · exact rback_ok s ad sn sc p m j (by omega) (by omega) (by omega) (by omega) W hN
theorem row_cell {W : World} {H : Nat} {ns : List Int} (h : W.heap[H]? = some (.cells (ns.map (Value.int .i64)).toArray 3 (0, 0))) (k : Nat) (hk : k < ns.length) : W.cell? ⟨H, k, none⟩ = some (.int .i64 (ns.getD k 0)) := by
  rw [cell_of_row _ _ _ _ _ _ h]
  simp [List.getD_eq_getElem?_getD, List.getElem?_eq_getElem hk]
set_option maxHeartbeats 4000000 in
theorem lawPlaces_any (seed : ByteArray) (hs : seed.size ≤ maxLen) (v : Value) (l : List Int) (n i : Int) (hn : I64 n) (hi : I64 i) (w : World) (hst : Start2 v l w) :
    Calls Tryd.prog 6 #[.string seed, v, .int .i64 n, .int .i64 i] w fun e w' => e = .returned (.bool true) ∧ Below w.heap.size w w' := by
  have hsd := short_any seed hs 34 (by omega)
  obtain ⟨s, hse, hs34⟩ := cutL_lt seed
  rw [← hse] at hsd
  clear hse
  obtain ⟨x, hx, hax⟩ := around_num n 90 hn (by omega) (by omega) 90 rfl
  obtain ⟨y, hy, hay⟩ := around_num n 65536 hn (by omega) (by omega) 65536 rfl
  have HSD := Lib.hid hsd
  have HST := Lib.hid hst
  have HAX := Lib.hid hax
  have HAY := Lib.hid hay
  have HIN := Lib.hid hn
  have HII := Lib.hid hi
  clear hsd hst hax hay hn hi
  go_enter Tryd.func6, Tryd.ntmps6
  go_wp2_with fail
  refine (HSD.out _).mono ?_
  rintro e w' ⟨rfl, rfl⟩
  go_wp2_with fail
  refine (few_any v l HST.out.st.hl HST.out.cap w HST.out.st.hr).mono ?_
  rintro e w1 ⟨v1, rfl, hown1, hb1⟩
  have hpl : (l.take 10).length ≤ 10 := by rw [List.length_take]; omega
  have hp64 : Ok64 (l.take 10) := fun m hm => HST.out.st.h64 m (List.mem_of_mem_take hm)
  obtain ⟨p, hp⟩ : ∃ p, p = l.take 10 := ⟨_, rfl⟩
  rw [← hp] at hown1 hpl hp64
  clear hp
  obtain ⟨ad, sc, rfl⟩ := hown1.form
  have hN1 : Net s (.slice ad p.length sc) p w1 := ⟨by omega, by omega, hp64, Nat.lt_of_lt_of_le HST.out.st.h0 hb1.size, HST.out.st.hK.later HST.out.st.h0 hb1, hown1.read⟩
  have hM1 : Net2 s (.slice ad p.length sc) p w1 := ⟨by omega, by omega, hp64, Nat.lt_of_lt_of_le HST.out.h1 hb1.size, HST.out.hK2.later HST.out.h1 hb1, hown1.read⟩
  have HN1 := Lib.hid hN1
  have HM1 := Lib.hid hM1
  have HB1 := Lib.hid hb1
  clear hN1 hM1 hb1 hown1 hp64
  obtain ⟨np, hnp⟩ : ∃ np, np = p.length := ⟨_, rfl⟩
  rw [← hnp] at HN1 HM1 hpl ⊢
  clear hnp
  go_wp2_with fail
  refine (HAX.out _).mono ?_
  rintro e w' ⟨rfl, rfl⟩
  go_wp2_with fail
  refine (HAY.out _).mono ?_
  rintro e w' ⟨rfl, rfl⟩
  clear HAX HAY
  go_wp2_with fail
  obtain ⟨ns, hns⟩ : ∃ ns : List Int, ns = [1 + (x : Int), 1 + (y : Int), n] := ⟨_, rfl⟩
  have hrow : (w1.alloc (.cells #[.int .i64 (1 + (x : Int)), .int .i64 (1 + (y : Int)), .int .i64 n] 3)).heap[w1.heap.size]? = some (.cells (ns.map (Value.int .i64)).toArray 3 (0, 0)) := by
    rw [hns]; exact heap_alloc_new _ _
  have hbw2 : Below w1.heap.size w1 (w1.alloc (.cells #[.int .i64 (1 + (x : Int)), .int .i64 (1 + (y : Int)), .int .i64 n] 3)) := (Below.refl _ _).alloc (Nat.le_refl _) _
  have hnl : ns.length = 3 := by rw [hns]; rfl
  have hnI : ∀ k, k < 3 → I64 (ns.getD k 0) := fun k hk => by
    rw [hns]
    rcases (show k = 0 ∨ k = 1 ∨ k = 2 by omega) with rfl | rfl | rfl
    · show I64 (1 + (x : Int)); unfold I64; omega
    · show I64 (1 + (y : Int)); unfold I64; omega
    · exact HIN.out
  obtain ⟨w2, hw2⟩ : ∃ w2, w2 = w1.alloc (.cells #[.int .i64 (1 + (x : Int)), .int .i64 (1 + (y : Int)), .int .i64 n] 3) := ⟨_, rfl⟩
  rw [← hw2] at hrow hbw2 ⊢
  have HROW := Lib.hid hrow
  have HN2 := Lib.hid (HN1.out.later hbw2)
  have HM2 := Lib.hid (HM1.out.later hbw2)
  have HB2 := Lib.hid (HB1.out.trans (hbw2.mono HB1.out.size))
  have HNL := Lib.hid hnl
  have HNI := Lib.hid hnI
  obtain ⟨H, hH⟩ : ∃ H, H = w1.heap.size := ⟨_, rfl⟩
  rw [← hH] at HROW ⊢
  clear hw2 hrow hbw2 hns hnl hnI hH HN1 HM1 HB1 hx hy
  go_loopw [12] (fun c wr => ∃ k : Nat, k ≤ 3 ∧ c = .int .i64 k ∧ Below w2.heap.size w2 wr) (fun c _ => 3 - (intOf c).toNat)
  case atStart => exact ⟨0, by omega, rfl, Below.refl _ _⟩
  case round =>
    obtain ⟨k, hk, rfl, hb⟩ := hrel
    have HB := Lib.hid hb
    clear hb
    by_cases hlt : k < 3
    · obtain ⟨nk, hnk⟩ : ∃ nk, nk = ns.getD k 0 := ⟨_, rfl⟩
      have hcell : ∀ W, Below w2.heap.size w2 W → W.cell? ⟨H, k, none⟩ = some (.int .i64 nk) := fun W hW => by
        rw [hW.cell (p := ⟨H, k, none⟩) (lt_of_block HROW.out), hnk]
        exact row_cell HROW.out k (by rw [HNL.out]; exact hlt)
      have hni : I64 nk := by rw [hnk]; exact HNI.out k hlt
      have hmx : I64 (max nk 1) := by unfold I64 at hni ⊢; omega
      have har := around_any i (max nk 1) HII.out hmx
      obtain ⟨a0, ha0⟩ : ∃ a0, a0 = aroundI i (max nk 1) := ⟨_, rfl⟩
      rw [← ha0] at har
      have HC := Lib.hid hcell
      have HAR := Lib.hid har
      have c1 := hcell wr HB.out
      clear hcell hnk har ha0 hmx
      unfold I64 at hni
      obtain ⟨hni1, hni2⟩ := hni
      go_wp2_with fail
      go_region_held3 (fun w' => w'.cell? ⟨H, k, none⟩ = some (.int .i64 nk)) (go_keep)
        (first | (go_at_call 23; refine (HAR.out _).mono ?_; rintro e w' ⟨rfl, rfl⟩))
      clear c1
      obtain ⟨js, hjs⟩ : ∃ js : List Int, js = [a0, i, IntKind.i64.wrap (nk - 1), nk] := ⟨_, rfl⟩
      have hb4 : Below wr.heap.size wr (wr.alloc (.cells #[.int .i64 a0, .int .i64 i, .int .i64 (IntKind.i64.wrap (nk - 1)), .int .i64 nk] 3)).drew := ((Below.refl _ _).alloc (Nat.le_refl _) _).drew
      have hrow4 : (wr.alloc (.cells #[.int .i64 a0, .int .i64 i, .int .i64 (IntKind.i64.wrap (nk - 1)), .int .i64 nk] 3)).drew.heap[wr.heap.size]? = some (.cells (js.map (Value.int .i64)).toArray 3 (0, 0)) := by
        rw [hjs]; exact heap_alloc_new _ _
      have hjl : js.length = 4 := by rw [hjs]; rfl
      obtain ⟨w4, hw4⟩ : ∃ w4, w4 = (wr.alloc (.cells #[.int .i64 a0, .int .i64 i, .int .i64 (IntKind.i64.wrap (nk - 1)), .int .i64 nk] 3)).drew := ⟨_, rfl⟩
      rw [← hw4] at hb4 hrow4 ⊢
      obtain ⟨H4, hH4⟩ : ∃ H4, H4 = wr.heap.size := ⟨_, rfl⟩
      have HB4 := Lib.hid (HB.out.trans (hb4.mono HB.out.size))
      rw [← hH4] at hrow4 ⊢
      have HROW4 := Lib.hid hrow4
      have HJL := Lib.hid hjl
      clear hw4 hb4 hrow4 hjs hjl hH4
      go_wp2_with fail
      go_loopw [14] (fun c wi => ∃ j : Nat, j ≤ 4 ∧ c = .int .i64 j ∧ Below w4.heap.size w4 wi) (fun c _ => 4 - (intOf c).toNat)
      case atStart => exact ⟨0, by omega, rfl, Below.refl _ _⟩
      case round =>
        obtain ⟨j, hj, rfl, hbi⟩ := hrel
        obtain ⟨wi, rfl⟩ : ∃ wi : World, wi = wr := ⟨_, rfl⟩
        have HBI := Lib.hid hbi
        clear hbi
        by_cases hj4 : j < 4
        · obtain ⟨jv, hjv⟩ : ∃ jv, jv = js.getD j 0 := ⟨_, rfl⟩
          obtain ⟨⟨A, E, hA, hRA⟩, ⟨B, G, hBk, hRB⟩⟩ := two_pair s ad np sc p nk jv
          have hd : ∀ W, Below w4.heap.size w4 W → W.cell? ⟨H4, j, none⟩ = some (.int .i64 jv) := fun W hW => by
            rw [hW.cell (p := ⟨H4, j, none⟩) (lt_of_block HROW4.out), hjv]
            exact row_cell HROW4.out j (by rw [HJL.out]; exact hj4)
          have hc2 : ∀ W, Below w4.heap.size w4 W → W.cell? ⟨H, k, none⟩ = some (.int .i64 nk) := fun W hW => HC.out W (HB4.out.trans (hW.mono HB4.out.size))
          have hN4 : ∀ W, Below w4.heap.size w4 W → Net s (.slice ad np sc) p W := fun W hW => HN2.out.later (HB4.out.trans (hW.mono HB4.out.size))
          have hM4 : ∀ W, Below w4.heap.size w4 W → Net2 s (.slice ad np sc) p W := fun W hW => HM2.out.later (HB4.out.trans (hW.mono HB4.out.size))
          have HA := Lib.hid hA
          have HRA := Lib.hid hRA
          have HBK := Lib.hid hBk
          have HRB := Lib.hid hRB
          have HD := Lib.hid hd
          have HC2 := Lib.hid hc2
          have HN4 := Lib.hid hN4
          have HM4 := Lib.hid hM4
          clear hA hRA hBk hRB hd hc2 hN4 hM4 hjv
          have d1 := HC2.out wi HBI.out
          have d2 := HD.out wi HBI.out
          go_wp2_with fail
          go_region_held3 (fun w' => w'.cell? ⟨H, k, none⟩ = some (.int .i64 nk) ∧ w'.cell? ⟨H4, j, none⟩ = some (.int .i64 jv))
            (first | go_keep | exact ⟨HC2.out _ HB5.out, HD.out _ HB5.out⟩)
            (first | (go_at_call 32; (with_reducible refine (HA.out _ (HN4.out _ (Below.drew HBI.out))).mono ?_); rintro e w5 ⟨rfl, hb5⟩; have HB5 := Lib.hid (HBI.out.trans ((Below.drew_l hb5).mono HBI.out.size)); clear hb5))
          clear d1 d2
          have d1 := HC2.out w5 HB5.out
          have d2 := HD.out w5 HB5.out
          go_wp2_with fail
          go_region_held3 (fun w' => w'.cell? ⟨H, k, none⟩ = some (.int .i64 nk) ∧ w'.cell? ⟨H4, j, none⟩ = some (.int .i64 jv))
            (first | go_keep | exact ⟨HC2.out _ HB6.out, HD.out _ HB6.out⟩)
            (first | (go_at_call 33; (with_reducible refine (HRA.out _ (HM4.out _ (Below.drew HB5.out))).mono ?_); rintro e w6 ⟨rfl, hb5⟩; have HB6 := Lib.hid (HB5.out.trans ((Below.drew_l hb5).mono HB5.out.size)); clear hb5))
          clear d1 d2
          have d1 := HC2.out w6 HB6.out
          have d2 := HD.out w6 HB6.out
          go_wp2_with fail
          go_region_held3 (fun w' => w'.cell? ⟨H, k, none⟩ = some (.int .i64 nk) ∧ w'.cell? ⟨H4, j, none⟩ = some (.int .i64 jv))
            (first | go_keep | exact ⟨HC2.out _ HB7.out, HD.out _ HB7.out⟩)
            (first | (go_at_call 34; (with_reducible refine (HBK.out _ (HN4.out _ (Below.drew HB6.out))).mono ?_); rintro e w7 ⟨rfl, hb5⟩; have HB7 := Lib.hid (HB6.out.trans ((Below.drew_l hb5).mono HB6.out.size)); clear hb5))
          clear d1 d2
          have d1 := HC2.out w7 HB7.out
          have d2 := HD.out w7 HB7.out
          go_wp2_with fail
          go_region_held3 (fun w' => w'.cell? ⟨H, k, none⟩ = some (.int .i64 nk) ∧ w'.cell? ⟨H4, j, none⟩ = some (.int .i64 jv))
            (first | go_keep | exact ⟨HC2.out _ HB8.out, HD.out _ HB8.out⟩)
            (first | (go_at_call 35; (with_reducible refine (HRB.out _ (HM4.out _ (Below.drew HB7.out))).mono ?_); rintro e w8 ⟨rfl, hb5⟩; have HB8 := Lib.hid (HB7.out.trans ((Below.drew_l hb5).mono HB7.out.size)); clear hb5))
          clear d1 d2
          go_wp2_with fail
          go_roundw
          case rel => exact ⟨j + 1, by omega, by go_num, HB8.out⟩
          case measure => simp [intOf]; omega
        · obtain rfl : j = 4 := by omega
          go_wp2_with fail
          go_roundw
          case rel => exact ⟨k + 1, by omega, by go_num, HB4.out.trans (HBI.out.mono HB4.out.size)⟩
          case measure => simp [intOf]; omega
    · obtain rfl : k = 3 := by omega
      go_wp2_with fail
      refine (lives_any _ (Nat.lt_of_lt_of_le HN2.out.h0 HB.out.size) (HN2.out.hK.later HN2.out.h0 HB.out)).mono ?_
      rintro e w9 ⟨rfl, hb9⟩
      go_wp2_with fail
      go_ret
      exact ⟨rfl, (HB2.out.trans (HB.out.mono HB2.out.size)).trans (hb9.mono (by have := HB2.out.size; have := HB.out.size; omega))⟩
end Go.Proofs.YtfkpeabkcdhcfaaDoor
