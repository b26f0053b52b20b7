/-
  Walk of the great split's maker: a split of very many parts.
-/
import Derived.Test.YtfkpeabkcdhcfaaDoorT14
import Derived.Test.YtfkpeabkcdhcfaaDoorV8
namespace Go.Proofs.YtfkpeabkcdhcfaaDoor
open Go.RowKit
set_option maxRecDepth 100000
def qN (l : List Int) : Nat := (60000 + atI l 1 5537).toNat
def qLo (l : List Int) : Int := atI l 2 3
def qHi (l : List Int) : Int := 3 + atI l 3 1048573
def qTotal (l : List Int) : Int := qN l * qLo l + atI l 4 1099511627776 % (qN l * (qHi l - qLo l) + 1)
theorem qN_bd (l : List Int) : 60000 ≤ qN l ∧ qN l ≤ 65536 ∧ ((qN l : Nat) : Int) = 60000 + atI l 1 5537 := by have h := atI_bd l 1 5537 (by omega); unfold qN; omega
theorem qLo_bd (l : List Int) : 0 ≤ qLo l ∧ qLo l ≤ 2 := by have h := atI_bd l 2 3 (by omega); unfold qLo; omega
theorem qHi_bd (l : List Int) : 3 ≤ qHi l ∧ qHi l ≤ 1048575 := by have h := atI_bd l 3 1048573 (by omega); unfold qHi; omega
theorem qSpan_bd (l : List Int) : 0 ≤ (qN l : Int) * (qHi l - qLo l) ∧ (qN l : Int) * (qHi l - qLo l) ≤ 68719476736 := by
  have h1 := qN_bd l
  have h2 := qLo_bd l
  have h3 := qHi_bd l
  refine ⟨Int.mul_nonneg (by omega) (by omega), ?_⟩
  calc (qN l : Int) * (qHi l - qLo l) ≤ 65536 * (qHi l - qLo l) := Int.mul_le_mul_of_nonneg_right (by omega) (by omega)
    _ ≤ 68719476736 := by omega
theorem qTotal_bd (l : List Int) : (qN l : Int) * qLo l ≤ qTotal l ∧ qTotal l ≤ qN l * qLo l + qN l * (qHi l - qLo l) ∧ 0 ≤ (qN l : Int) * qLo l ∧ (qN l : Int) * qLo l ≤ 131072 := by
  have h1 := qN_bd l
  have h2 := qLo_bd l
  have h0 := qSpan_bd l
  have h3 := Int.emod_nonneg (atI l 4 1099511627776) (b := qN l * (qHi l - qLo l) + 1) (by omega)
  have h4 := Int.emod_lt_of_pos (atI l 4 1099511627776) (b := qN l * (qHi l - qLo l) + 1) (by omega)
  have h5 : 0 ≤ (qN l : Int) * qLo l := Int.mul_nonneg (by omega) (by omega)
  have h6 : (qN l : Int) * qLo l ≤ 131072 := by
    calc (qN l : Int) * qLo l ≤ 65536 * qLo l := Int.mul_le_mul_of_nonneg_right (by omega) (by omega)
      _ ≤ 131072 := by omega
  unfold qTotal
  omega
theorem qTotal_ok (l : List Int) : InGreat (qLo l) (qHi l) 0 (qN l) (qTotal l) := by
  have h1 := qN_bd l
  have h2 := qLo_bd l
  have h3 := qHi_bd l
  have h4 := qTotal_bd l
  have e2 : (qN l : Int) * qHi l = qN l * qLo l + qN l * (qHi l - qLo l) := by rw [← Int.mul_add]; congr 1; omega
  exact ⟨⟨by omega, by omega, by omega, by omega, by omega, by omega⟩, Great.root h1.1 h1.2.1⟩
theorem qTotal_lt (l : List Int) : 0 ≤ qTotal l ∧ qTotal l ≤ 68719607808 := by
  have h0 := qSpan_bd l
  have h4 := qTotal_bd l
  omega
set_option maxHeartbeats 2000000 in
theorem great_any (v : Value) (l : List Int) (hl : l.length ≤ maxLen) (h64 : Int64s l) (w : World) (hr : ReadI v l w) :
    Calls Tryd.prog 56 #[v] w fun e w' => e = .returned (.agg #[.string sG, .slice none 0 0, .int .i64 (qTotal l), .int .i64 (qN l), .int .i64 (qLo l), .int .i64 (qHi l)]) ∧ Below w.heap.size w w' := by
  have k1 := fun W (hb : Below w.heap.size w W) => ref_at v l 1 5537 hl (by omega) (by constructor <;> omega) h64 W (hr.later hb)
  have k2 := fun W (hb : Below w.heap.size w W) => ref_at v l 2 3 hl (by omega) (by constructor <;> omega) h64 W (hr.later hb)
  have k3 := fun W (hb : Below w.heap.size w W) => ref_at v l 3 1048573 hl (by omega) (by constructor <;> omega) h64 W (hr.later hb)
  have k4 := fun W (hb : Below w.heap.size w W) => ref_at v l 4 1099511627776 hl (by omega) (by constructor <;> omega) h64 W (hr.later hb)
  have b1 := atI_bd l 1 5537 (by omega)
  have b4 := atI_bd l 4 1099511627776 (by omega)
  have hn0 := qN_bd l
  have hn : 60000 ≤ qN l ∧ qN l ≤ 65536 := ⟨hn0.1, hn0.2.1⟩
  have hlo := qLo_bd l
  have hhi := qHi_bd l
  have hsp := qSpan_bd l
  have htb := qTotal_bd l
  have e3 : atI l 3 1048573 = qHi l - 3 := by unfold qHi; omega
  have e1 : atI l 1 5537 = qN l - 60000 := by omega
  have htt : qTotal l = qN l * qLo l + atI l 4 1099511627776 % (qN l * (qHi l - qLo l) + 1) := rfl
  have e2 : atI l 2 3 = qLo l := rfl
  have hpos : ((qN l : Int) * (qHi l - qLo l) + 1 == 0) = false := by simp; omega
  have hrem0 := Int.tmod_eq_emod_of_nonneg (a := atI l 4 1099511627776) (b := qN l * (qHi l - qLo l) + 1) b4.1
  clear hn0
  rw [e1] at k1
  rw [e2] at k2
  rw [e3] at k3
  obtain ⟨y, hy⟩ : ∃ y, y = atI l 4 1099511627776 := ⟨_, rfl⟩
  obtain ⟨tot, ht⟩ : ∃ tot, tot = qTotal l := ⟨_, rfl⟩
  rw [← ht] at htt htb ⊢
  obtain ⟨N, hN⟩ : ∃ N, N = qN l := ⟨_, rfl⟩
  obtain ⟨lo, hlo'⟩ : ∃ lo, lo = qLo l := ⟨_, rfl⟩
  obtain ⟨hi, hhi'⟩ : ∃ hi, hi = qHi l := ⟨_, rfl⟩
  rw [← hN] at k1 hn hsp htb htt hrem0 hpos ⊢
  rw [← hlo'] at k2 hlo hsp htb htt hrem0 hpos ⊢
  rw [← hhi'] at k3 hhi hsp htb htt hrem0 hpos ⊢
  rw [← hy] at k4 b4 htt hrem0
  clear hy ht hN hlo' hhi' e1 e2 e3 b1
  have w1 : IntKind.i64.wrap (60000 + ((N : Int) - 60000)) = (N : Int) := by simp only [IntKind.wrap_i64]; omega
  have w2 : IntKind.i64.wrap (3 + (hi - 3)) = hi := by simp only [IntKind.wrap_i64]; omega
  have w3 : IntKind.i64.wrap ((N : Int) * lo) = (N : Int) * lo := by simp only [IntKind.wrap_i64]; omega
  have w4 : IntKind.i64.wrap (hi - lo) = hi - lo := by simp only [IntKind.wrap_i64]; omega
  have w5 : IntKind.i64.wrap ((N : Int) * (hi - lo)) = (N : Int) * (hi - lo) := by simp only [IntKind.wrap_i64]; omega
  have w6 : IntKind.i64.wrap ((N : Int) * (hi - lo) + 1) = (N : Int) * (hi - lo) + 1 := by simp only [IntKind.wrap_i64]; omega
  have hd0 : 0 < (N : Int) * (hi - lo) + 1 := by omega
  have hd1 := Int.emod_nonneg y (b := (N : Int) * (hi - lo) + 1) (by omega)
  have hd2 := Int.emod_lt_of_pos y hd0
  have w7 : IntKind.i64.wrap (y % ((N : Int) * (hi - lo) + 1)) = y % ((N : Int) * (hi - lo) + 1) := by simp only [IntKind.wrap_i64]; omega
  have w8 : IntKind.i64.wrap ((N : Int) * lo + y % ((N : Int) * (hi - lo) + 1)) = tot := by rw [← htt]; simp only [IntKind.wrap_i64]; omega
  have hne0 : ¬ (N : Int) * (hi - lo) + 1 = 0 := by omega
  clear htt hd1 hd2 hd0
  have K1 := Lib.hid (show ∀ W, Below w.heap.size w W → Calls Tryd.prog 58 #[v, .int .i64 1, .int .i64 5537] W fun e w'' => e = .returned (.int .i64 ((N : Int) - 60000)) ∧ W = w'' from k1)
  have K2 := Lib.hid (show ∀ W, Below w.heap.size w W → Calls Tryd.prog 58 #[v, .int .i64 2, .int .i64 3] W fun e w'' => e = .returned (.int .i64 lo) ∧ W = w'' from k2)
  have K3 := Lib.hid (show ∀ W, Below w.heap.size w W → Calls Tryd.prog 58 #[v, .int .i64 3, .int .i64 1048573] W fun e w'' => e = .returned (.int .i64 (hi - 3)) ∧ W = w'' from k3)
  have K4 := Lib.hid (show ∀ W, Below w.heap.size w W → Calls Tryd.prog 58 #[v, .int .i64 4, .int .i64 1099511627776] W fun e w'' => e = .returned (.int .i64 y) ∧ W = w'' from k4)
  clear k1 k2 k3 k4 hr h64
  go_enter Tryd.func56, Tryd.ntmps56
  have hb0 : Below w.heap.size w (w.alloc (.cells #[.string ⟨#[]⟩, .slice none 0 0, .int .i64 0, .int .i64 0, .int .i64 0, .int .i64 0] 43)) := (Below.refl _ _).alloc (Nat.le_refl _) _
  have HB0 := Lib.hid hb0
  clear hb0
  go_upto_region 2 with (first
    | (go_at_call 58; (with_reducible refine (K1.out _ (by first | exact HB0.out | exact HB0.out.drew)).mono ?_); rintro e w' ⟨rfl, rfl⟩)
    | (go_at_call 58; (with_reducible refine (K2.out _ (by first | exact HB0.out | exact HB0.out.drew)).mono ?_); rintro e w' ⟨rfl, rfl⟩)
    | (go_at_call 58; (with_reducible refine (K3.out _ (by first | exact HB0.out | exact HB0.out.drew)).mono ?_); rintro e w' ⟨rfl, rfl⟩))
  change Code.wp Tryd.prog _ _ _ ((w.alloc (.cells #[.string ⟨#[]⟩, .slice none 0 0, .int .i64 0, .int .i64 0, .int .i64 0, .int .i64 0] 43)).alloc (.cells #[.string ⟨#[103]⟩, .slice none 0 0, .int .i64 0, .int .i64 N, .int .i64 lo, .int .i64 hi] 43))
  have r1 : ((w.alloc (.cells #[.string ⟨#[]⟩, .slice none 0 0, .int .i64 0, .int .i64 0, .int .i64 0, .int .i64 0] 43)).alloc (.cells #[.string ⟨#[103]⟩, .slice none 0 0, .int .i64 0, .int .i64 N, .int .i64 lo, .int .i64 hi] 43)).heap[w.heap.size + 1]? = some (.cells #[.string ⟨#[103]⟩, .slice none 0 0, .int .i64 0, .int .i64 N, .int .i64 lo, .int .i64 hi] 43 (0, 0)) := heap_alloc2_new w _ _
  have r0 : ((w.alloc (.cells #[.string ⟨#[]⟩, .slice none 0 0, .int .i64 0, .int .i64 0, .int .i64 0, .int .i64 0] 43)).alloc (.cells #[.string ⟨#[103]⟩, .slice none 0 0, .int .i64 0, .int .i64 N, .int .i64 lo, .int .i64 hi] 43)).heap[w.heap.size]? = some (.cells #[.string ⟨#[]⟩, .slice none 0 0, .int .i64 0, .int .i64 0, .int .i64 0, .int .i64 0] 43 (0, 0)) := heap_alloc2_old w _ _
  have b1 := HB0.out.alloc HB0.out.size (.cells #[.string ⟨#[103]⟩, .slice none 0 0, .int .i64 0, .int .i64 N, .int .i64 lo, .int .i64 hi] 43)
  obtain ⟨W, hW⟩ : ∃ W, W = (w.alloc (.cells #[.string ⟨#[]⟩, .slice none 0 0, .int .i64 0, .int .i64 0, .int .i64 0, .int .i64 0] 43)).alloc (.cells #[.string ⟨#[103]⟩, .slice none 0 0, .int .i64 0, .int .i64 N, .int .i64 lo, .int .i64 hi] 43) := ⟨_, rfl⟩
  rw [← hW] at r0 r1 b1 ⊢
  clear hW
  have c2 : W.cell? ⟨w.heap.size + 1, 2, none⟩ = some (.int .i64 0) := cell_of_row _ _ _ _ _ _ r1
  have c3 : W.cell? ⟨w.heap.size + 1, 3, none⟩ = some (.int .i64 N) := cell_of_row _ _ _ _ _ _ r1
  have c4 : W.cell? ⟨w.heap.size + 1, 4, none⟩ = some (.int .i64 lo) := cell_of_row _ _ _ _ _ _ r1
  have c5 : W.cell? ⟨w.heap.size + 1, 5, none⟩ = some (.int .i64 hi) := cell_of_row _ _ _ _ _ _ r1
  have cf : W.frozen? ⟨w.heap.size + 1, 2, none⟩ = false := frozen_of_row _ _ _ _ _ r1
  have HB1 := Lib.hid b1
  have HR0 := Lib.hid r0
  have HR1 := Lib.hid r1
  have rS : (W.setCell ⟨w.heap.size + 1, 2, none⟩ (.int .i64 tot)).drew.heap[w.heap.size + 1]? = some (.cells #[.string ⟨#[103]⟩, .slice none 0 0, .int .i64 tot, .int .i64 N, .int .i64 lo, .int .i64 hi] 43 (0, 0)) := set2of6 W (w.heap.size + 1) _ _ _ _ _ _ _ 43 r1
  have s3 : (W.setCell ⟨w.heap.size + 1, 2, none⟩ (.int .i64 tot)).drew.cell? ⟨w.heap.size + 1, 3, none⟩ = some (.int .i64 N) := cell_of_row _ _ _ _ _ _ rS
  have s4 : (W.setCell ⟨w.heap.size + 1, 2, none⟩ (.int .i64 tot)).drew.cell? ⟨w.heap.size + 1, 4, none⟩ = some (.int .i64 lo) := cell_of_row _ _ _ _ _ _ rS
  have s5 : (W.setCell ⟨w.heap.size + 1, 2, none⟩ (.int .i64 tot)).drew.cell? ⟨w.heap.size + 1, 5, none⟩ = some (.int .i64 hi) := cell_of_row _ _ _ _ _ _ rS
  have HS := Lib.hid (show _ ∧ _ ∧ _ from ⟨s3, s4, s5⟩)
  have HRS := Lib.hid rS
  clear b1 r0 r1 rS s3 s4 s5
  go_region_held3 (fun w' => w'.cell? ⟨w.heap.size + 1, 3, none⟩ = some (.int .i64 N) ∧ w'.cell? ⟨w.heap.size + 1, 4, none⟩ = some (.int .i64 lo) ∧ w'.cell? ⟨w.heap.size + 1, 5, none⟩ = some (.int .i64 hi))
    (first
      | exact HS.out
      | go_keep)
    (first | (go_at_call 58; (with_reducible refine (K4.out _ (by first | exact HB1.out | exact HB1.out.drew)).mono ?_); rintro e w' ⟨rfl, rfl⟩))
  have rS2 : (W.setCell ⟨w.heap.size + 1, 2, none⟩ (.int .i64 tot)).drew.heap[w.heap.size]? = some (.cells #[.string ⟨#[]⟩, .slice none 0 0, .int .i64 0, .int .i64 0, .int .i64 0, .int .i64 0] 43 (0, 0)) := (Below.heap_setCell _ _ _ _ (by simp)).trans HR0.out
  have hbS : Below w.heap.size w (W.setCell ⟨w.heap.size + 1, 2, none⟩ (.int .i64 tot)).drew := (HB1.out.setCell (p := ⟨w.heap.size + 1, 2, none⟩) (by simp) _).drew
  have rS := HRS.out
  obtain ⟨V, hV⟩ : ∃ V, V = (W.setCell ⟨w.heap.size + 1, 2, none⟩ (.int .i64 tot)).drew := ⟨_, rfl⟩
  rw [← hV] at rS rS2 hbS ⊢
  clear hV HS HRS c2 c3 c4 c5 cf
  have c0 : V.cell? ⟨w.heap.size + 1, 0, none⟩ = some (.string ⟨#[103]⟩) := cell_of_row _ _ _ _ _ _ rS
  have c1 : V.cell? ⟨w.heap.size + 1, 1, none⟩ = some (.slice none 0 0) := cell_of_row _ _ _ _ _ _ rS
  have c2 : V.cell? ⟨w.heap.size + 1, 2, none⟩ = some (.int .i64 tot) := cell_of_row _ _ _ _ _ _ rS
  have c3 : V.cell? ⟨w.heap.size + 1, 3, none⟩ = some (.int .i64 N) := cell_of_row _ _ _ _ _ _ rS
  have c4 : V.cell? ⟨w.heap.size + 1, 4, none⟩ = some (.int .i64 lo) := cell_of_row _ _ _ _ _ _ rS
  have c5 : V.cell? ⟨w.heap.size + 1, 5, none⟩ = some (.int .i64 hi) := cell_of_row _ _ _ _ _ _ rS
  have HR := Lib.hid rS2
  have HB := Lib.hid hbS
  clear rS rS2 hbS
  go_wp2_with ((with_reducible show wpList _ _ _ ((⟨_, Op.store 43 _ _, _, _, _, _⟩ : Oper) :: _) _ _); refine wpList_store_row rfl 43 (.tmp 2) (.tmp 32) rfl (w.heap.size) #[.string ⟨#[103]⟩, .slice none 0 0, .int .i64 tot, .int .i64 N, .int .i64 lo, .int .i64 hi] rfl rfl 43 _ HR.out info43 rfl (by simp [Value.oneCell']) ?_)
  refine bodyPost_ret (v := .agg #[.string ⟨#[103]⟩, .slice none 0 0, .int .i64 tot, .int .i64 N, .int .i64 lo, .int .i64 hi]) (results_cell_row rfl _ _ (w.heap.size) _ _ _ _ rfl (setRow_heap _ _ _ _ _ _ HR.out) Tryd.underlying43 rfl info43) rfl ⟨rfl, below_setRow HB.out (by omega) _⟩
end Go.Proofs.YtfkpeabkcdhcfaaDoor
