/-
  Walks of All where the arguments are not valid; of the reference's All, Take, few, SameInts.
-/
import Derived.Test.YtfkpeabkcdhcfaaDoorY4
namespace Go.Proofs.YtfkpeabkcdhcfaaDoor
open Go.RowKit Go.Shelf
set_option maxRecDepth 100000
/-- a call that returns no list and an error -/
def NoList (k : Int) (w : World) (x : Ending) (w' : World) : Prop := x = .returned (.tuple #[.slice none 0 0, .int .i64 k]) ∧ Below w.heap.size w w'
set_option maxHeartbeats 1000000 in
theorem all_no (seed : ByteArray) (ad : Option Addr) (sn sc : Nat) (n : Int) (h : Bad seed sn n) (w : World) : Calls Tryd.prog 24 #[.string seed, .slice ad sn sc, .int .i64 n] w (NoList 4 w) := by
  go_enter Tryd.func24, Tryd.ntmps24
  go_wp2_with (go_at_call 66; refine (given_no seed ad sn sc n h w).mono ?_; rintro e w1 ⟨rfl, rfl⟩)
  go_ret2
  exact ⟨rfl, Below.refl _ _⟩
set_option maxHeartbeats 1000000 in
theorem all_arg (seed : ByteArray) (ad : Option Addr) (sn sc : Nat) (n : Int) (h : ¬ Bad seed sn n) (hn : n < 0) (w : World) : Calls Tryd.prog 24 #[.string seed, .slice ad sn sc, .int .i64 n] w (NoList 1 w) := by
  go_enter Tryd.func24, Tryd.ntmps24
  go_wp2_with (go_at_call 66; refine (given_okw seed ad sn sc n h w).mono ?_; rintro e w1 ⟨rfl, hb1⟩; have HB1 := Lib.hid hb1; clear hb1)
  go_ret2
  exact ⟨rfl, HB1.out⟩
set_option maxHeartbeats 1000000 in
theorem rall_no (seed : ByteArray) (ad : Option Addr) (sn sc : Nat) (n : Int) (h : Bad seed sn n) (w : World) : Calls Tryd.prog 25 #[.string seed, .slice ad sn sc, .int .i64 n] w (NoList 4 w) := by
  go_enter Tryd.func25, Tryd.ntmps25
  go_wp2_with (go_at_call 69; refine (rgiven_no seed ad sn sc n h w).mono ?_; rintro e w1 ⟨rfl, rfl⟩)
  go_ret2
  exact ⟨rfl, Below.refl _ _⟩
set_option maxHeartbeats 1000000 in
theorem rall_arg (seed : ByteArray) (ad : Option Addr) (sn sc : Nat) (n : Int) (h : ¬ Bad seed sn n) (hn : n < 0) (w : World) : Calls Tryd.prog 25 #[.string seed, .slice ad sn sc, .int .i64 n] w (NoList 1 w) := by
  go_enter Tryd.func25, Tryd.ntmps25
  go_wp2_with (go_at_call 69; refine (rgiven_okw seed ad sn sc n h w).mono ?_; rintro e w1 ⟨rfl, rfl⟩)
  go_ret2
  exact ⟨rfl, Below.refl _ _⟩
set_option maxHeartbeats 1000000 in
theorem rall_ok (seed : ByteArray) (ad : Option Addr) (sn sc : Nat) (l : List Int) (n : Nat) (h : ¬ Bad seed sn n) (hn : n ≤ 65536) (w : World) (hN : Net2 seed (.slice ad sn sc) l w) :
    Calls Tryd.prog 25 #[.string seed, .slice ad sn sc, .int .i64 n] w fun e w' => ∃ v, e = .returned (.tuple #[v, .int .i64 0]) ∧ OwnI w.heap.size v (upto seed l n n) w' ∧ Below w.heap.size w w' := by
  have HN := Lib.hid hN
  clear hN
  have hneg : ¬ (n : Int) < 0 := by omega
  go_enter Tryd.func25, Tryd.ntmps25
  go_wp2_with (go_at_call 69; refine (rgiven_okw seed ad sn sc n h w).mono ?_; rintro e w1 ⟨rfl, rfl⟩)
  clear hneg
  go_loopw [9, 10] (fun u c wr => ∃ k : Nat, k ≤ n ∧ c = .int .i64 k ∧ OwnI w.heap.size u (upto seed l n k) wr ∧ Below w.heap.size w wr) (fun _ c _ => n - (intOf c).toNat)
  case atStart => exact ⟨0, by omega, rfl, World.ownsRow_nil _ _ _ _, Below.refl _ _⟩
  case round =>
    obtain ⟨k, hk, rfl, hown, hb⟩ := hrel
    have HO := Lib.hid hown
    have HB := Lib.hid hb
    clear hown hb
    by_cases hlt : k < n
    · have hpl := rplace_any seed (.slice ad sn sc) l n k hn hlt wr (HN.out.later HB.out)
      obtain ⟨x, hx⟩ : ∃ x, x = placeN seed l n k := ⟨_, rfl⟩
      rw [← hx] at hpl
      have HX := Lib.hid hx
      have HPL := Lib.hid hpl
      clear hx hpl
      go_wp2_with fail
      refine HPL.out.mono ?_
      rintro e w2 ⟨rfl, hb2⟩
      have HO2 := Lib.hid (HO.out.later hb2)
      have HB2 := Lib.hid (HB.out.trans (hb2.mono HB.out.size))
      clear hb2
      go_wp2_with ((with_reducible show wpList _ _ _ ((⟨_, Op.call _, _, _, _, _⟩ : Oper) :: _) _ _); refine append_ints w.heap.size _ (upto seed l n k) (HO2.out.alloc _) rfl (.tmp 25) (.tmp 31) rfl rfl [(x : Int)] ⟨w2.heap.size, 0, none⟩ 1 rfl (cell_one_new w2 _ 3) (by rw [upto_length]; simp; omega) (by have := HB2.out.size; simp; omega) w (HB2.out.alloc HB2.out.size _) ?_; intro v3 w3 hown3 _ hb3; have HO3 := Lib.hid hown3; have HB3 := Lib.hid hb3; clear hown3 hb3)
      go_roundw
      case rel => exact ⟨k + 1, by omega, by go_num, by rw [upto_succ, ← HX.out]; exact HO3.out, HB3.out⟩
      case measure => simp [intOf]; omega
    · obtain rfl : k = n := by omega
      go_wp2_with fail
      go_ret2
      exact ⟨_, rfl, HO.out, HB.out⟩
theorem ReadI.form {v : Value} {l : List Int} {w : World} (h : ReadI v l w) : ∃ ad sc, v = .slice ad l.length sc := by
  rcases h with ⟨rfl, rfl⟩ | ⟨ad, cap, rfl, _⟩
  · exact ⟨none, 0, rfl⟩
  · exact ⟨some ad, cap, rfl⟩
theorem ReadI.some_ {ad : Option Addr} {n sc : Nat} {l : List Int} {w : World} (h : ReadI (.slice ad n sc) l w) (hl : 0 < l.length) : ∃ b off mm, ad = some ⟨b, off, mm⟩ ∧ ∀ i, i < l.length → w.cell? ((⟨b, off, mm⟩ : Addr).add i) = some (.int .i64 (l.getD i 0)) := by
  rcases h with ⟨h1, rfl⟩ | ⟨⟨b, off, mm⟩, cap, h1, hc⟩
  · simp at hl
  · simp only [Value.slice.injEq] at h1
    refine ⟨b, off, mm, h1.1, fun i hi => hc i _ (by simp [List.getElem?_eq_getElem hi])⟩
set_option maxHeartbeats 1000000 in
theorem same_any (u v : Value) (l : List Int) (hl : l.length ≤ 100000) (w : World) (hu : ReadI u l w) (hv : ReadI v l w) :
    Calls Tryd.prog 26 #[u, v] w fun e w' => e = .returned (.bool true) ∧ Below w.heap.size w w' := by
  obtain ⟨a1, c1, rfl⟩ := hu.form
  obtain ⟨a2, c2, rfl⟩ := hv.form
  have hsu := hu.some_
  have hsv := hv.some_
  have HU := Lib.hid hsu
  have HV := Lib.hid hsv
  clear hu hv hsu hsv
  obtain ⟨n, hn⟩ : ∃ n, n = l.length := ⟨_, rfl⟩
  rw [← hn] at hl HU HV ⊢
  have HNN := Lib.hid hn
  clear hn
  go_enter Tryd.func26, Tryd.ntmps26
  go_wp2_with fail
  go_loopw [5] (fun c wr => ∃ k : Nat, k ≤ n ∧ c = .int .i64 k ∧ ∃ m, wr = w.drewN m) (fun c _ => n - (intOf c).toNat)
  case atStart => exact ⟨0, by omega, rfl, 0, rfl⟩
  case round =>
    obtain ⟨k, hk, rfl, m, rfl⟩ := hrel
    by_cases hlt : k < n
    · obtain ⟨b1, o1, m1, rfl, hc1⟩ := HU.out (by omega)
      obtain ⟨b2, o2, m2, rfl, hc2⟩ := HV.out (by omega)
      have d1 := hc1 k hlt
      have d2 := hc2 k hlt
      obtain ⟨x, hx⟩ : ∃ x, x = l.getD k 0 := ⟨_, rfl⟩
      rw [← hx] at d1 d2
      clear hc1 hc2 hx
      go_wp2_with fail
      go_quiet (fail)
      go_wp2_with fail
      go_roundw
      case rel => exact ⟨k + 1, by omega, by go_num, _, rfl⟩
      case measure => simp [intOf]; omega
    · obtain rfl : k = n := by omega
      go_wp2_with fail
      go_ret
      exact ⟨rfl, below_drewN (Below.refl _ _) _⟩
end Go.Proofs.YtfkpeabkcdhcfaaDoor
