/-
  Walk of wire.Ints: the encoding of a list of integers that lies in new memory; nothing that was there changes.
-/
import Derived.Test.YtfkpeabkcdhcfaaDoorB2
namespace Go.Proofs.YtfkpeabkcdhcfaaDoor
open Go.RowKit
set_option maxRecDepth 100000
/-- the encoding of a list of integers -/
def encInts (l : List Int) : List UInt8 := encInt l.length ++ l.flatMap encInt
def Ok64 (l : List Int) : Prop := ∀ n ∈ l, -9223372036854775808 ≤ n ∧ n < 9223372036854775808
theorem flat_len (l : List Int) (h : Ok64 l) : (l.flatMap encInt).length ≤ 9 * l.length := by
  induction l with
  | nil => simp
  | cons a l ih =>
    have h1 := encInt_len a (h a (by simp))
    have h2 := ih (fun n hn => h n (by simp [hn]))
    simp only [List.flatMap_cons, List.length_append, List.length_cons]
    omega
theorem encInt_pos (n : Int) : 0 < (encInt n).length := by
  unfold encInt encOf; split <;> simp
theorem OwnB.later {base : Nat} {v : Value} {l : List UInt8} {w w' : World} (h : OwnB base v l w) (hb : Below w.heap.size w w') : OwnB base v l w' := by
  refine ⟨h.1, ?_⟩
  rcases h.2 with h2 | ⟨g, cap, cur, h3, h4, h5, h6⟩
  · exact .inl h2
  · exact .inr ⟨g, cap, cur, h3, h4, (hb.block g (lt_of_block h5)).trans h5, h6⟩
theorem OwnI.later {base : Nat} {v : Value} {l : List Int} {w w' : World} (h : OwnI base v l w) (hb : Below w.heap.size w w') : OwnI base v l w' := by
  refine ⟨h.1, ?_⟩
  rcases h.2 with h2 | ⟨g, cap, cur, h3, h4, h5, h6⟩
  · exact .inl h2
  · exact .inr ⟨g, cap, cur, h3, h4, (hb.block g (lt_of_block h5)).trans h5, h6⟩
theorem OwnB.cells {base g n cap : Nat} {l : List UInt8} {w : World} (h : OwnB base (.slice (some ⟨g, 0, none⟩) n cap) l w) : CellsAt w ⟨g, 0, none⟩ (l.map u8v) := World.ownsRow.cells h (g := g) rfl
theorem OwnI.cells {base g n cap : Nat} {l : List Int} {w : World} (h : OwnI base (.slice (some ⟨g, 0, none⟩) n cap) l w) : CellsAt w ⟨g, 0, none⟩ (l.map (Value.int .i64)) := World.ownsRow.cells h (g := g) rfl
theorem take_flat (l : List Int) (i : Nat) (h : i < l.length) : (l.take (i + 1)).flatMap encInt = (l.take i).flatMap encInt ++ encInt (l.getD i 0) := by
  rw [List.take_succ_eq_append_getElem h, List.flatMap_append, List.getD_eq_getElem?_getD, List.getElem?_eq_getElem h]
  simp
set_option maxHeartbeats 1000000 in
theorem wints_any (base g cap : Nat) (l : List Int) (hl : l.length ≤ 1000) (h64 : Ok64 l) (w : World) (hown : OwnI base (.slice (some ⟨g, 0, none⟩) l.length cap) l w) (hg : g < w.heap.size) :
    Calls Tryd.prog 72 #[.slice (some ⟨g, 0, none⟩) l.length cap] w (RetB (encInts l) w) := by
  have HI := Lib.hid hown
  clear hown
  go_enter Tryd.func72, Tryd.ntmps72
  go_wp2_with fail
  refine (wint_any (l.length : Int) (by omega) (by omega) _).mono ?_
  rintro e w1 ⟨g0, cap0, rfl, hown, hb⟩
  have HOwn := Lib.hid hown
  have HB := Lib.hid hb
  clear hown hb
  obtain ⟨m0, hm0⟩ : ∃ m0, m0 = (encInt (l.length : Int)).length := ⟨_, rfl⟩
  rw [← hm0] at HOwn ⊢
  have HM := Lib.hid hm0
  clear hm0
  go_wp2_with fail
  go_loopw [3, 11] (fun v c wr => ∃ (i : Nat) (g1 n1 cap1 : Nat), i ≤ l.length ∧ c = .int .i64 i ∧ v = .slice (some ⟨g1, 0, none⟩) n1 cap1 ∧ n1 = (encInt (l.length : Int) ++ (l.take i).flatMap encInt).length ∧ OwnB w.heap.size (.slice (some ⟨g1, 0, none⟩) n1 cap1) (encInt (l.length : Int) ++ (l.take i).flatMap encInt) wr ∧ Below w.heap.size w wr) (fun _ c _ => l.length - (intOf c).toNat)
  case atStart => exact ⟨0, g0, m0, cap0, Nat.zero_le _, rfl, rfl, by simp [HM.out], by simpa using HOwn.out, HB.out⟩
  case round =>
    obtain ⟨i, g1, n1, cap1, hi, rfl, rfl, hn1, hown, hb⟩ := hrel
    have HN := Lib.hid hn1
    have HO := Lib.hid hown
    clear hn1 hown HOwn HB
    by_cases hlt : i < l.length
    · have hx : l.getD i 0 ∈ l := by rw [List.getD_eq_getElem?_getD, List.getElem?_eq_getElem hlt]; exact List.getElem_mem hlt
      have hxb := h64 _ hx
      obtain ⟨x, hxx⟩ : ∃ x, x = l.getD i 0 := ⟨_, rfl⟩
      have hcx : wr.cell? ⟨g, i, none⟩ = some (.int .i64 x) := by rw [hb.cell (p := ⟨g, i, none⟩) hg, HI.out.cell i hlt, hxx]
      rw [← hxx] at hxb
      have HX := Lib.hid hxx
      clear hxx hx
      go_wp2_with fail
      refine (wint_any x hxb.1 hxb.2 _).mono ?_
      rintro e w2 ⟨g2, cap2, rfl, hown2, hb2⟩
      have hn1 : n1 ≤ 9 + 9 * 1000 := by
        have h1 := encInt_len (l.length : Int) (by omega)
        have h2 := flat_len (l.take i) (fun n hn => h64 n (List.mem_of_mem_take hn))
        have h3 : (l.take i).length ≤ 1000 := by rw [List.length_take]; omega
        rw [HN.out, List.length_append]; omega
      have hx9 := encInt_len x hxb
      have hb3 : Below w.heap.size w w2 := hb.trans (hb2.mono hb.size)
      have HO2 := Lib.hid (HO.out.later hb2)
      have HC := Lib.hid hown2.cells
      clear hown2 hb2
      go_wp2_with ((with_reducible show wpList _ _ _ ((⟨_, Op.call _, _, _, _, _⟩ : Oper) :: _) _ _); refine append_bytes w.heap.size _ _ n1 HN.out.symm HO2.out rfl (.tmp 15) (.tmp 17) rfl rfl (encInt x) ⟨g2, 0, none⟩ cap2 rfl HC.out (encInt_pos x) (by have := HN.out; omega) hb3.size w hb3 ?_; intro g3 cap3 w3 hown3 hb4; have HO3 := Lib.hid hown3; clear hown3)
      go_roundw
      case rel =>
        refine ⟨i + 1, g3, _, cap3, by omega, by go_num, rfl, ?_, ?_, hb4⟩
        · rw [take_flat l i hlt, ← List.append_assoc, List.length_append, HN.out, HX.out]
        · rw [take_flat l i hlt, ← List.append_assoc, ← HX.out]; exact HO3.out
      case measure => simp [intOf]; omega
    · obtain rfl : i = l.length := by omega
      have HO4 := HO.out
      have HN4 := HN.out
      rw [List.take_length] at HO4 HN4
      have H4 := Lib.hid HO4
      have H5 := Lib.hid HN4
      clear HO4 HN4
      go_wp2
      go_ret
      refine ⟨g1, cap1, ?_, ?_, hb⟩
      · rw [show (encInts l).length = n1 from H5.out.symm]; rfl
      · have := H4.out
        rw [H5.out] at this
        exact this
end Go.Proofs.YtfkpeabkcdhcfaaDoor
