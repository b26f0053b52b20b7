/-
  Walks of the reference's Bytes, Ints, Input.
-/
import Derived.Test.YtfkpeabkcdhcfaaDoorX1
import Derived.Test.YtfkpeabkcdhcfaaDoorH7
import Derived.Laws.IdiomStrings
namespace Go.Proofs.YtfkpeabkcdhcfaaDoor
open Go.RowKit
set_option maxRecDepth 100000
/-- '[]byte(s)': the world behind it -/
def strW (w : World) (s : ByteArray) : World := w.drew.alloc (.cells (bytesRow s (grownCap w s.size 0 5)) 5 ((bytesRow s (grownCap w s.size 0 5)).size, (bytesRow s (grownCap w s.size 0 5)).size + 1))
theorem conv_bytes (s : ByteArray) (w : World) : (convert 9 92 (.string s)).run Tryd.prog w = .ok (.slice (some ⟨w.heap.size, 0, none⟩) s.size (grownCap w s.size 0 5)) (strW w s) :=
  run_bytes_of_string w 9 92 5 s Tryd.underlying9 Tryd.underlying92 Tryd.underlying5
theorem strW_below (w : World) (s : ByteArray) : Below w.heap.size w (strW w s) := ((Below.refl _ _).drew).alloc (Nat.le_refl _) _
theorem strW_cells (w : World) (s : ByteArray) : CellsAt (strW w s) ⟨w.heap.size, 0, none⟩ (s.data.toList.map u8v) := fun j u hj => by
  rw [List.getElem?_map] at hj
  obtain ⟨x, hx, rfl⟩ := Option.map_eq_some_iff.1 hj
  have hl : j < s.data.size := by simpa using (List.getElem?_eq_some_iff.1 hx).1
  have hb := bytesRow_at s (grownCap w s.size 0 5) j hl
  have hh : (strW w s).heap[w.heap.size]? = some (.cells (bytesRow s (grownCap w s.size 0 5)) 5 ((bytesRow s (grownCap w s.size 0 5)).size, (bytesRow s (grownCap w s.size 0 5)).size + 1)) := heap_alloc_new w.drew _
  rw [Addr.add_mid, Nat.zero_add, cell_of_row _ _ _ _ _ _ hh, hb]
  have : s.data[j] = x := by
    have := (List.getElem?_eq_some_iff.1 hx).2
    simpa using this
  rw [this]; rfl
theorem append_bytes_any {ops : Array Oper} {rest : List Oper} {o : Oper} {A : Act} {Q : Exit → Act → World → Prop} {w : World} (base : Nat) (v : Value) (l : List UInt8) (n : Nat) (hn : l.length = n) (h0 : 0 < n) (hown : OwnB base v l w) (hgd : o.guard = none) (x y : Operand)
    (ho : o.op = .call { callee := .builtin .append, args := #[x, y], argTypes := #[92, 92] }) (hx : A.eval x = v) (news : List UInt8) (m : Nat) (hm : news.length = m) (ad : Addr) (c : Nat) (hy : A.eval y = .slice (some ad) m c)
    (hcells : CellsAt w ad (news.map u8v)) (hbd : n + m ≤ 1099511627776) (hbase : base ≤ w.heap.size) (W0 : World) (hb : Below base W0 w)
    (h : ∀ g cap w1, OwnB base (.slice (some ⟨g, 0, none⟩) (n + m) cap) (l ++ news) w1 → Below base W0 w1 → wpList Tryd.prog ops Q rest (A.put o.dst (.slice (some ⟨g, 0, none⟩) (n + m) cap)) w1) :
    wpList Tryd.prog ops Q (o :: rest) A w := by
  subst hn hm
  obtain ⟨i0, hi, hz0, hz1, hz2⟩ := info_parts infoB
  refine wpList_append_own _ hgd x y 92 ho base 5 i0 (.int .u8 0) 1 1 Tryd.underlying92 hi hz0 hz1 hz2 rfl (by decide) v l.length (l.map u8v) hx hown ad news.length c (news.map u8v) hy (by simp) hcells ?_ (by unfold maxLen; omega) (by omega) hbase ?_
  · intro u hu
    simp only [List.mem_map] at hu
    obtain ⟨b, _, rfl⟩ := hu
    rfl
  · intro v' w1 hown' hgrow _
    obtain ⟨m, hm⟩ : ∃ m, l.length + news.length = m + 1 := ⟨l.length + news.length - 1, by omega⟩
    have hs := hown'
    rw [hm] at hs
    obtain ⟨g, cap, rfl⟩ := ownsRow_succ hs
    rw [← hm]
    refine h g cap w1 ?_ (hb.grown hgrow hbase (own_row_le hown))
    rw [← hm] at hown'
    show w1.ownsRow base 5 1 _ (l ++ news).length ((l ++ news).map u8v)
    rw [List.length_append, List.map_append]
    exact hown'
set_option maxHeartbeats 1000000 in
theorem rbytes_any (s : ByteArray) (hs : s.size ≤ 1000000) (w : World) : Calls Tryd.prog 129 #[.string s] w (RetB (encS s) w) := by
  have hcv := conv_bytes s
  go_enter Tryd.func129, Tryd.ntmps129
  go_wp2_with fail
  refine (rint_any (s.size : Int) (by omega) (by omega) _).mono ?_
  rintro e w1 ⟨g, cap, rfl, hown, hb⟩
  have hl9 := encInt_len (s.size : Int) (by omega)
  have hpos := encInt_pos (s.size : Int)
  obtain ⟨L, hL⟩ : ∃ L, L = encInt (s.size : Int) := ⟨_, rfl⟩
  rw [← hL] at hown hl9 hpos
  have hlen : L.length = (encInt (s.size : Int)).length := by rw [hL]
  rw [← hlen]
  obtain ⟨n, hn⟩ : ∃ n, n = L.length := ⟨_, rfl⟩
  rw [← hn] at hown hl9 hpos ⊢
  have HO := Lib.hid (hown.later (strW_below w1 s))
  have HB := Lib.hid (hb.trans ((strW_below w1 s).mono hb.size))
  have HL := Lib.hid hL
  have HN := Lib.hid hn
  clear hown hb hL hn hlen
  go_wp2_with ((with_reducible show wpList _ _ _ ((⟨_, Op.call _, _, _, _, _⟩ : Oper) :: _) _ _); refine append_bytes_any w.heap.size _ L n HN.out.symm hpos HO.out rfl (.tmp 5) (.tmp 7) rfl rfl s.data.toList s.size (by rw [← Lib.size_eq]) ⟨w1.heap.size, 0, none⟩ _ rfl (strW_cells w1 s) (by omega) HB.out.size w HB.out ?_; intro g2 cap2 w2 hown2 hb2; have HO2 := Lib.hid hown2; have HB2 := Lib.hid hb2; clear hown2 hb2)
  go_ret
  have he : (encS s).length = n + s.size := by rw [encS, List.length_append, ← HL.out, ← HN.out, ← Lib.size_eq]
  refine ⟨g2, cap2, by rw [he]; rfl, ?_, HB2.out⟩
  rw [he, encS, ← HL.out]
  exact HO2.out
set_option maxHeartbeats 1000000 in
theorem rints_any (base g cap : Nat) (l : List Int) (hl : l.length ≤ 1000) (h64 : Ok64 l) (w : World) (hown : OwnI base (.slice (some ⟨g, 0, none⟩) l.length cap) l w) (hg : g < w.heap.size) :
    Calls Tryd.prog 117 #[.slice (some ⟨g, 0, none⟩) l.length cap] w (RetB (encInts l) w) := by
  have HI := Lib.hid hown
  clear hown
  go_enter Tryd.func117, Tryd.ntmps117
  go_wp2_with fail
  refine (rint_any (l.length : Int) (by omega) (by omega) _).mono ?_
  rintro e w1 ⟨g0, cap0, rfl, hown, hb⟩
  have HOwn := Lib.hid hown
  have HB := Lib.hid hb
  clear hown hb
  obtain ⟨m0, hm0⟩ : ∃ m0, m0 = (encInt (l.length : Int)).length := ⟨_, rfl⟩
  rw [← hm0] at HOwn ⊢
  have HM := Lib.hid hm0
  clear hm0
  go_wp2_with fail
  go_loopw [3, 4] (fun v c wr => ∃ (i : Nat) (g1 n1 cap1 : Nat), i ≤ l.length ∧ c = .int .i64 i ∧ v = .slice (some ⟨g1, 0, none⟩) n1 cap1 ∧ n1 = (encInt (l.length : Int) ++ (l.take i).flatMap encInt).length ∧ OwnB w.heap.size (.slice (some ⟨g1, 0, none⟩) n1 cap1) (encInt (l.length : Int) ++ (l.take i).flatMap encInt) wr ∧ Below w.heap.size w wr) (fun _ c _ => l.length - (intOf c).toNat)
  case atStart => exact ⟨0, g0, m0, cap0, Nat.zero_le _, rfl, rfl, by simp [HM.out], by simpa using HOwn.out, HB.out⟩
  case round =>
    obtain ⟨i, g1, n1, cap1, hi, rfl, rfl, hn1, hown, hb⟩ := hrel
    have HN := Lib.hid hn1
    have HO := Lib.hid hown
    clear hn1 hown HOwn HB
    by_cases hlt : i < l.length
    · have hx : l.getD i 0 ∈ l := by rw [List.getD_eq_getElem?_getD, List.getElem?_eq_getElem hlt]; exact List.getElem_mem hlt
      have hxb := h64 _ hx
      obtain ⟨x, hxx⟩ : ∃ x, x = l.getD i 0 := ⟨_, rfl⟩
      have hcx : wr.cell? ⟨g, i, none⟩ = some (.int .i64 x) := by rw [hb.cell (p := ⟨g, i, none⟩) hg, HI.out.cell i hlt, hxx]
      rw [← hxx] at hxb
      have HX := Lib.hid hxx
      clear hxx hx
      go_wp2_with fail
      refine (rint_any x hxb.1 hxb.2 _).mono ?_
      rintro e w2 ⟨g2, cap2, rfl, hown2, hb2⟩
      have hn1 : n1 ≤ 9 + 9 * 1000 := by
        have h1 := encInt_len (l.length : Int) (by omega)
        have h2 := flat_len (l.take i) (fun n hn => h64 n (List.mem_of_mem_take hn))
        have h3 : (l.take i).length ≤ 1000 := by rw [List.length_take]; omega
        rw [HN.out, List.length_append]; omega
      have hx9 := encInt_len x hxb
      have hb3 : Below w.heap.size w w2 := hb.trans (hb2.mono hb.size)
      have HO2 := Lib.hid (HO.out.later hb2)
      have HC := Lib.hid hown2.cells
      clear hown2 hb2
      go_wp2_with ((with_reducible show wpList _ _ _ ((⟨_, Op.call _, _, _, _, _⟩ : Oper) :: _) _ _); refine append_bytes w.heap.size _ _ n1 HN.out.symm HO2.out rfl (.tmp 14) (.tmp 19) rfl rfl (encInt x) ⟨g2, 0, none⟩ cap2 rfl HC.out (encInt_pos x) (by have := HN.out; omega) hb3.size w hb3 ?_; intro g3 cap3 w3 hown3 hb4; have HO3 := Lib.hid hown3; clear hown3)
      go_roundw
      case rel =>
        refine ⟨i + 1, g3, _, cap3, by omega, by go_num, rfl, ?_, ?_, hb4⟩
        · rw [take_flat l i hlt, ← List.append_assoc, List.length_append, HN.out, HX.out]
        · rw [take_flat l i hlt, ← List.append_assoc, ← HX.out]; exact HO3.out
      case measure => simp [intOf]; omega
    · obtain rfl : i = l.length := by omega
      have HO4 := HO.out
      have HN4 := HN.out
      rw [List.take_length] at HO4 HN4
      have H4 := Lib.hid HO4
      have H5 := Lib.hid HN4
      clear HO4 HN4
      go_wp2
      go_ret
      refine ⟨g1, cap1, ?_, ?_, hb⟩
      · rw [show (encInts l).length = n1 from H5.out.symm]; rfl
      · have := H4.out
        rw [H5.out] at this
        exact this
set_option maxHeartbeats 1000000 in
theorem rinput_any (gp : Nat) (s1 s2 : ByteArray) (h1 : s1.size ≤ 100000) (h2 : s2.size ≤ 100000) (w : World) (hg : gp < w.heap.size) (hc1 : w.cell? ⟨gp, 0, none⟩ = some (.string s1)) (hc2 : w.cell? ⟨gp, 1, none⟩ = some (.string s2)) :
    Calls Tryd.prog 123 #[.int .i64 8, .slice (some ⟨gp, 0, none⟩) 2 2] w (RetB (preS s1 s2 2) w) := by
  have HC1 := Lib.hid hc1
  have HC2 := Lib.hid hc2
  clear hc1 hc2
  go_enter Tryd.func123, Tryd.ntmps123
  go_wp2_with fail
  go_loopw [5, 6] (fun v c wr => ∃ (i : Nat) (g1 n1 cap1 : Nat), i ≤ 2 ∧ c = .int .i64 i ∧ v = .slice (some ⟨g1, 0, none⟩) n1 cap1 ∧ n1 = (preS s1 s2 i).length ∧ OwnB w.heap.size (.slice (some ⟨g1, 0, none⟩) n1 cap1) (preS s1 s2 i) wr ∧ Below w.heap.size w wr) (fun _ c _ => 2 - (intOf c).toNat)
  case atStart => exact ⟨0, w.heap.size, 1, 1, by omega, rfl, rfl, rfl, own_new w.heap.size w (Nat.le_refl _) 8, (Below.refl _ _).alloc (Nat.le_refl _) _⟩
  case round =>
    obtain ⟨i, g1, n1, cap1, hi, rfl, rfl, hn1, hown, hb⟩ := hrel
    have HN := Lib.hid hn1
    have HO := Lib.hid hown
    have hpl := preS_len s1 s2 h1 h2 i
    rw [← hn1] at hpl
    clear hn1 hown
    have hd1 := (hb.cell (p := ⟨gp, 0, none⟩) hg).trans HC1.out
    have hd2 := (hb.cell (p := ⟨gp, 1, none⟩) hg).trans HC2.out
    have HB := Lib.hid hb
    clear hb
    by_cases hlt : i < 2
    · obtain ⟨sx, hsx⟩ : ∃ sx, sx = if i = 0 then s1 else s2 := ⟨_, rfl⟩
      have hdx : wr.cell? ⟨gp, i, none⟩ = some (.string sx) := by
        rcases (show i = 0 ∨ i = 1 by omega) with rfl | rfl
        · rw [hsx]; exact hd1
        · rw [hsx]; exact hd2
      have hpre : preS s1 s2 (i + 1) = preS s1 s2 i ++ encS sx := by
        rcases (show i = 0 ∨ i = 1 by omega) with rfl | rfl <;> simp [preS, hsx]
      have hxs : sx.size ≤ 100000 := by rw [hsx]; split <;> assumption
      have hn0 : 0 < n1 := by
        rw [HN.out]
        rcases (show i = 0 ∨ i = 1 by omega) with rfl | rfl <;> simp [preS]
      have hel := encS_len sx hxs
      have HPre := Lib.hid hpre
      clear hsx hd1 hd2 hpre
      go_wp2_with fail
      refine (rbytes_any sx (by omega) _).mono ?_
      rintro e w2 ⟨g2, cap2, rfl, hown2, hb2⟩
      have HO2 := Lib.hid (HO.out.later hb2)
      have HC := Lib.hid hown2.cells
      have HB2 := Lib.hid (HB.out.trans (hb2.mono HB.out.size))
      clear hown2 hb2
      obtain ⟨E, hE⟩ : ∃ E, E = encS sx := ⟨_, rfl⟩
      rw [← hE] at hel HC
      obtain ⟨m, hm⟩ : ∃ m, m = E.length := ⟨_, rfl⟩
      rw [← hE, ← hm]
      rw [← hm] at hel
      have HE := Lib.hid hE
      have HM := Lib.hid hm
      clear hE hm
      go_wp2_with ((with_reducible show wpList _ _ _ ((⟨_, Op.call _, _, _, _, _⟩ : Oper) :: _) _ _); refine append_bytes_any w.heap.size _ (preS s1 s2 i) n1 HN.out.symm hn0 HO2.out rfl (.tmp 16) (.tmp 21) rfl rfl E m HM.out.symm ⟨g2, 0, none⟩ cap2 rfl HC.out (by omega) HB2.out.size w HB2.out ?_; intro g3 cap3 w3 hown3 hb4; have HO3 := Lib.hid hown3; have HB3 := Lib.hid hb4; clear hown3 hb4)
      go_roundw
      case rel =>
        refine ⟨i + 1, g3, _, cap3, by omega, by go_num, rfl, ?_, ?_, HB3.out⟩
        · rw [HPre.out, List.length_append, ← HE.out, ← HM.out, ← HN.out]
        · rw [HPre.out, ← HE.out]; exact HO3.out
      case measure => simp [intOf]; omega
    · obtain rfl : i = 2 := by omega
      go_wp2_with fail
      go_ret
      refine ⟨g1, cap1, by rw [← HN.out]; rfl, ?_, HB.out⟩
      rw [← HN.out]
      exact HO.out
end Go.Proofs.YtfkpeabkcdhcfaaDoor
