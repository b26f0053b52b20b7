/-
  Walks of Take, few and PermAll.
-/
import Derived.Test.YtfkpeabkcdhcfaaDoorY5
namespace Go.Proofs.YtfkpeabkcdhcfaaDoor
open Go.RowKit
set_option maxRecDepth 100000
/-- a slice's length is at most its capacity -/
def CapOk (v : Value) : Prop := ∀ ad n c, v = .slice ad n c → n ≤ c
set_option maxHeartbeats 1000000 in
theorem take_any (v : Value) (l : List Int) (hl : l.length ≤ maxLen) (hcap : CapOk v) (w : World) (hr : ReadI v l w) :
    Calls Tryd.prog 65 #[v, .int .i64 10] w fun e w' => ∃ v', e = .returned v' ∧ OwnI w.heap.size v' (l.take 10) w' ∧ Below w.heap.size w w' := by
  unfold maxLen at hl
  obtain ⟨ad, sc, rfl⟩ := hr.form
  have hc := hcap ad l.length sc rfl
  obtain ⟨m, hm⟩ : ∃ m, m = min l.length 10 := ⟨_, rfl⟩
  have hmin : min (l.length : Int) 10 = (m : Int) := by omega
  have hm1 : m ≤ l.length := by omega
  have hmc : m ≤ sc := by omega
  have hlen : (l.take 10).length = m := by rw [List.length_take, hm, Nat.min_comm]
  have hsub : ReadI (.slice ad m sc) (l.take 10) w := by
    rcases hr with ⟨h1, rfl⟩ | ⟨a, cap, h1, hcs⟩
    · simp only [Value.slice.injEq] at h1
      obtain ⟨rfl, _, rfl⟩ := h1
      left
      have : m = 0 := by rw [hm]; simp
      subst this
      exact ⟨rfl, rfl⟩
    · simp only [Value.slice.injEq] at h1
      obtain ⟨rfl, _, rfl⟩ := h1
      right
      refine ⟨a, sc, by rw [hlen], fun j u hj => hcs j u ?_⟩
      rw [List.map_take, List.getElem?_take] at hj
      split at hj
      · exact hj
      · cases hj
  have hm10 : m ≤ 10 := by omega
  have HS := Lib.hid hsub
  have HL := Lib.hid hlen
  clear hr hsub hlen hm hcap
  obtain ⟨n, hn⟩ : ∃ n, n = l.length := ⟨_, rfl⟩
  rw [← hn] at hl hc hmin hm1 ⊢
  clear hn
  go_enter Tryd.func65, Tryd.ntmps65
  go_wp2_with ((with_reducible show wpList _ _ _ ((⟨some 13, Op.call _, _, _, _, _⟩ : Oper) :: _) _ _); refine append_ints_read w.heap.size (.slice none 0 0) [] (World.ownsRow_nil _ _ _ _) rfl (.tmp 6) (.tmp 12) rfl rfl (l.take 10) (.slice ad m sc) rfl HS.out (by rw [HL.out]; simp; omega) (Nat.le_refl _) w (Below.refl _ _) ?_; intro v1 w1 hown1 hb1; rw [List.nil_append] at hown1; have HO1 := Lib.hid hown1; have HB1 := Lib.hid hb1; clear hown1 hb1)
  go_ret
  exact ⟨_, rfl, HO1.out, HB1.out⟩
set_option maxHeartbeats 1000000 in
theorem few_any (v : Value) (l : List Int) (hl : l.length ≤ maxLen) (hcap : CapOk v) (w : World) (hr : ReadI v l w) :
    Calls Tryd.prog 22 #[v] w fun e w' => ∃ v', e = .returned v' ∧ OwnI w.heap.size v' (l.take 10) w' ∧ Below w.heap.size w w' := by
  have ht := Lib.hid (take_any v l hl hcap w hr)
  clear hr hcap
  go_enter Tryd.func22, Tryd.ntmps22
  go_wp2_with fail
  refine ht.out.mono ?_
  rintro e w1 ⟨v1, rfl, hown, hb⟩
  have HO := Lib.hid hown
  have HB := Lib.hid hb
  clear hown hb
  go_wp2_with fail
  go_ret
  exact ⟨_, rfl, HO.out, HB.out⟩
/-- what a law over both tables knows of its start -/
structure Start2 (v : Value) (l : List Int) (w : World) : Prop where
  st : Start v l w
  cap : CapOk v
  h1 : 1 < w.heap.size
  hK2 : HoldK2 w
/-- a call that returns the list L and the number E -/
def RetL (L : List Int) (E : Int) (w : World) (x : Ending) (w' : World) : Prop := ∃ v, x = .returned (.tuple #[v, .int .i64 E]) ∧ ReadI v L w' ∧ Below w.heap.size w w'
/-- All and its reference return the same -/
theorem all_pair (s : ByteArray) (ad : Option Addr) (sn sc : Nat) (p : List Int) (n : Int) :
    ∃ (L : List Int) (E : Int), L.length ≤ 65536 ∧ (∀ W, Net s (.slice ad sn sc) p W → Calls Tryd.prog 24 #[.string s, .slice ad sn sc, .int .i64 n] W (RetL L E W)) ∧ (∀ W, Net2 s (.slice ad sn sc) p W → Calls Tryd.prog 25 #[.string s, .slice ad sn sc, .int .i64 n] W (RetL L E W)) := by
  by_cases hb : Bad s sn n
  · exact ⟨[], 4, by simp, fun W _ => (all_no s ad sn sc n hb W).mono fun x w' h => ⟨_, h.1, .inl ⟨rfl, rfl⟩, h.2⟩, fun W _ => (rall_no s ad sn sc n hb W).mono fun x w' h => ⟨_, h.1, .inl ⟨rfl, rfl⟩, h.2⟩⟩
  · by_cases hn : n < 0
    · exact ⟨[], 1, by simp, fun W _ => (all_arg s ad sn sc n hb hn W).mono fun x w' h => ⟨_, h.1, .inl ⟨rfl, rfl⟩, h.2⟩, fun W _ => (rall_arg s ad sn sc n hb hn W).mono fun x w' h => ⟨_, h.1, .inl ⟨rfl, rfl⟩, h.2⟩⟩
    · obtain ⟨m, rfl⟩ : ∃ m : Nat, n = (m : Int) := ⟨n.toNat, by omega⟩
      have hb' := hb
      unfold Bad at hb'
      refine ⟨upto s p m m, 0, by rw [upto_length]; omega, fun W hN => ?_, fun W hN => ?_⟩
      · exact (all_ok s ad sn sc p m (by omega) (by omega) (by omega) W hN).mono fun x w' ⟨g, h1, h2, h3⟩ => ⟨_, h1, h2.read, h3⟩
      · exact (rall_ok s ad sn sc p m hb (by omega) W hN).mono fun x w' ⟨v, h1, h2, h3⟩ => ⟨v, h1, h2.read, h3⟩
theorem cut34 (s : ByteArray) : (if 34 < s.size then s.extract 0 34 else s).size ≤ 34 := by
  split
  · simp
    omega
  · omega
theorem cutL_lt (s : ByteArray) : ∃ r, r = (if 34 < s.size then s.extract 0 34 else s) ∧ r.size ≤ 34 := ⟨_, rfl, cut34 s⟩
set_option maxHeartbeats 2000000 in
theorem lawAll_any (seed : ByteArray) (hs : seed.size ≤ maxLen) (v : Value) (l : List Int) (n : Int) (hn : I64 n) (w : World) (hst : Start2 v l w) :
    Calls Tryd.prog 3 #[.string seed, v, .int .i64 n] w fun e w' => e = .returned (.bool true) ∧ Below w.heap.size w w' := by
  have hsd := short_any seed hs 34 (by omega)
  obtain ⟨s, hse, hs34⟩ := cutL_lt seed
  rw [← hse] at hsd
  clear hse
  obtain ⟨x, hx, hax⟩ := around_num n 70 hn (by omega) (by omega) 70 rfl
  obtain ⟨y, hy, hay⟩ := around_num n 9 hn (by omega) (by omega) 9 rfl
  have HSD := Lib.hid hsd
  have HST := Lib.hid hst
  have HAX := Lib.hid hax
  have HAY := Lib.hid hay
  clear hsd hst hax hay hn
  go_enter Tryd.func3, Tryd.ntmps3
  go_wp2_with fail
  refine (HSD.out _).mono ?_
  rintro e w' ⟨rfl, rfl⟩
  go_wp2_with fail
  refine (few_any v l HST.out.st.hl HST.out.cap w HST.out.st.hr).mono ?_
  rintro e w1 ⟨v1, rfl, hown1, hb1⟩
  have hpl : (l.take 10).length ≤ 10 := by rw [List.length_take]; omega
  have hp64 : Ok64 (l.take 10) := fun m hm => HST.out.st.h64 m (List.mem_of_mem_take hm)
  obtain ⟨p, hp⟩ : ∃ p, p = l.take 10 := ⟨_, rfl⟩
  rw [← hp] at hown1 hpl hp64
  clear hp
  obtain ⟨ad, sc, rfl⟩ := hown1.form
  have hN1 : Net s (.slice ad p.length sc) p w1 := ⟨by omega, by omega, hp64, Nat.lt_of_lt_of_le HST.out.st.h0 hb1.size, HST.out.st.hK.later HST.out.st.h0 hb1, hown1.read⟩
  have hM1 : Net2 s (.slice ad p.length sc) p w1 := ⟨by omega, by omega, hp64, Nat.lt_of_lt_of_le HST.out.h1 hb1.size, HST.out.hK2.later HST.out.h1 hb1, hown1.read⟩
  have HN1 := Lib.hid hN1
  have HM1 := Lib.hid hM1
  have HB1 := Lib.hid hb1
  clear hN1 hM1 hb1 hown1 hp64
  obtain ⟨np, hnp⟩ : ∃ np, np = p.length := ⟨_, rfl⟩
  rw [← hnp] at HN1 HM1 hpl ⊢
  clear hnp
  go_wp2_with fail
  refine (HAX.out _).mono ?_
  rintro e w' ⟨rfl, rfl⟩
  go_wp2_with fail
  refine (HAY.out _).mono ?_
  rintro e w' ⟨rfl, rfl⟩
  go_wp2_with fail
  refine (HAY.out _).mono ?_
  rintro e w' ⟨rfl, rfl⟩
  clear HAX HAY
  go_wp2_with fail
  obtain ⟨ns, hns⟩ : ∃ ns : List Int, ns = [(x : Int), 65537 + (y : Int), -1 - (y : Int), 0] := ⟨_, rfl⟩
  have hrow : (w1.alloc (.cells #[.int .i64 (x : Int), .int .i64 (65537 + (y : Int)), .int .i64 (-1 - (y : Int)), .int .i64 0] 3)).heap[w1.heap.size]? = some (.cells (ns.map (Value.int .i64)).toArray 3 (0, 0)) := by
    rw [hns]; exact heap_alloc_new _ _
  have hbw2 : Below w1.heap.size w1 (w1.alloc (.cells #[.int .i64 (x : Int), .int .i64 (65537 + (y : Int)), .int .i64 (-1 - (y : Int)), .int .i64 0] 3)) := (Below.refl _ _).alloc (Nat.le_refl _) _
  have hnl : ns.length = 4 := by rw [hns]; rfl
  obtain ⟨w2, hw2⟩ : ∃ w2, w2 = w1.alloc (.cells #[.int .i64 (x : Int), .int .i64 (65537 + (y : Int)), .int .i64 (-1 - (y : Int)), .int .i64 0] 3) := ⟨_, rfl⟩
  rw [← hw2] at hrow hbw2 ⊢
  have HROW := Lib.hid hrow
  have HN2 := Lib.hid (HN1.out.later hbw2)
  have HM2 := Lib.hid (HM1.out.later hbw2)
  have HB2 := Lib.hid (HB1.out.trans (hbw2.mono HB1.out.size))
  have HNL := Lib.hid hnl
  obtain ⟨H, hH⟩ : ∃ H, H = w1.heap.size := ⟨_, rfl⟩
  rw [← hH] at HROW ⊢
  clear hw2 hrow hbw2 hns hnl hH HN1 HM1 HB1 hx hy
  go_loopw [10] (fun c wr => ∃ k : Nat, k ≤ 4 ∧ c = .int .i64 k ∧ Below w2.heap.size w2 wr) (fun c _ => 4 - (intOf c).toNat)
  case atStart => exact ⟨0, by omega, rfl, Below.refl _ _⟩
  case round =>
    obtain ⟨k, hk, rfl, hb⟩ := hrel
    have HB := Lib.hid hb
    clear hb
    by_cases hlt : k < 4
    · obtain ⟨L, E, hL, hA, hR⟩ := all_pair s ad np sc p (ns.getD k 0)
      obtain ⟨nk, hnk⟩ : ∃ nk, nk = ns.getD k 0 := ⟨_, rfl⟩
      have hcell : ∀ W, Below w2.heap.size w2 W → W.cell? ⟨H, k, none⟩ = some (.int .i64 nk) := fun W hW => by
        rw [hW.cell (p := ⟨H, k, none⟩) (lt_of_block HROW.out), cell_of_row _ _ _ _ _ _ HROW.out, hnk]
        simp [List.getD_eq_getElem?_getD, List.getElem?_eq_getElem (show k < ns.length by rw [HNL.out]; exact hlt)]
      rw [← hnk] at hA hR
      have HA := Lib.hid hA
      have HR := Lib.hid hR
      have HC := Lib.hid hcell
      have c1 := hcell wr HB.out
      clear hA hR hcell hnk
      go_wp2_with fail
      refine (HA.out _ (HN2.out.later HB.out)).mono ?_
      rintro e w3 ⟨va, rfl, hra, hb3⟩
      have HB3 := Lib.hid (HB.out.trans (hb3.mono HB.out.size))
      have HRA := Lib.hid hra
      clear hra hb3 c1
      have c2 := HC.out w3 HB3.out
      go_wp2_with fail
      refine (HR.out _ (HM2.out.later HB3.out)).mono ?_
      rintro e w4 ⟨vb, rfl, hrb, hb4⟩
      have HB4 := Lib.hid (HB3.out.trans (hb4.mono HB3.out.size))
      have HRA4 := Lib.hid (HRA.out.later hb4)
      have HRB := Lib.hid hrb
      clear hrb hb4 c2
      go_wp2_with (go_at_call 26; refine (same_any va vb L (by omega) _ HRA4.out HRB.out).mono ?_; rintro e w5 ⟨rfl, hb5⟩; have HB5 := Lib.hid (HB4.out.trans (hb5.mono HB4.out.size)); clear hb5)
      go_roundw
      case rel => exact ⟨k + 1, by omega, by go_num, HB5.out⟩
      case measure => simp [intOf]; omega
    · obtain rfl : k = 4 := by omega
      go_wp2_with fail
      refine (lives_any _ (Nat.lt_of_lt_of_le HN2.out.h0 HB.out.size) (HN2.out.hK.later HN2.out.h0 HB.out)).mono ?_
      rintro e w9 ⟨rfl, hb9⟩
      go_wp2_with fail
      go_ret
      exact ⟨rfl, (HB2.out.trans (HB.out.mono HB2.out.size)).trans (hb9.mono (by have := HB2.out.size; have := HB.out.size; omega))⟩
end Go.Proofs.YtfkpeabkcdhcfaaDoor
