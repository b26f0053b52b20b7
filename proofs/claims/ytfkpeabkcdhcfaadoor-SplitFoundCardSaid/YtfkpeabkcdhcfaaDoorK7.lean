/-
  What the cards of package split share: the constants that the row's list gives; how an argument opens; the row's last step; a world for the witness.
-/
import Derived.Test.YtfkpeabkcdhcfaaDoorCards
import Derived.Test.YtfkpeabkcdhcfaaDoorTie
import Derived.Test.YtfkpeabkcdhcfaaDoorT14
import Derived.WalkKit
import Derived.ProofKit
import Derived.OpenShut
import Derived.Carry
import Derived.ChangeSlices
import Derived.Deep.DeepHandedRow
import Derived.Lib.LaidTab
import Derived.DataShut
import Derived.ChangeMaps5
namespace Go.Proofs.YtfkpeabkcdhcfaaDoor
open Go.ChangeShapes Go.WideShapes Go.ChangeAt Go.RowKit
set_option maxRecDepth 100000
theorem own : ownKnob Tryd.prog.godebug = none := by kernel_rfl
theorem gTab : Tryd.prog.globalNamed "diorama/hash.constants" = some 0 := by kernel_rfl
theorem gTabType : (Tryd.prog.globals[0]?).map (·.type) = some 138 := by kernel_rfl
theorem cells138 : Tryd.prog.cellsOf 138 = 64 := by kernel_rfl
theorem cells117 : Tryd.prog.cellsOf 117 = 1 := by kernel_rfl
theorem cells3 : Tryd.prog.cellsOf 3 = 1 := by kernel_rfl
theorem laidOut : laidOutB Tryd.prog = true := by kernel_rfl
/-- the constants as numbers -/
def kz : List Int := ks.map fun x => (x.toNat : Int)
theorem holdK_of_tab {W : World} (h : Lib.TabIs Tryd.prog W "diorama/hash.constants" .u32 kz) : HoldK W ∧ 0 < W.heap.size := by
  have hc : ∀ i, i < kz.length → W.cell? ⟨0, i, none⟩ = some (.int .u32 (kz.getD i 0)) := fun i hi => h.cell gTab i hi
  refine ⟨fun j v hv => ?_, World.block_lt_of_cell? W _ (hc 0 (by decide))⟩
  rw [List.getElem?_map] at hv
  obtain ⟨x, hx, rfl⟩ := Option.map_eq_some_iff.1 hv
  have hj : j < ks.length := (List.getElem?_eq_some_iff.1 hx).1
  rw [Nat.zero_add, hc j (by simpa [kz] using hj)]
  simp [kz, hx, u32v]
theorem holdK_head {rest : List (String × DataW Unit)} {W : World} (h : laidMet Tryd.prog (("diorama/hash.constants", Lib.tabData .u32 kz) :: rest) W) : HoldK W ∧ 0 < W.heap.size :=
  holdK_of_tab (Lib.tabIs_of_head (rest := rest) gTab gTabType Tryd.underlying138 Tryd.underlying117 cells117 cells138 h)
section
variable {H : Type} {enc : TypeId × Value → H}
theorem open_arg_ints {r : Reach} {b0 : Nat} {v : Value} {d : DataW H} {p : List MemPlace} {W : World} (hval : Value.okWide Tryd.prog W r b0 22 v) (h : DataW.Trod enc Tryd.prog W 0 (fun _ => true) true 22 v d p) : ∃ l, ReadI v l W ∧ l.length ≤ maxLen ∧ Int64s l := by
  obtain ⟨fuel, hf⟩ := h
  obtain ⟨a0, n0, c0, rfl⟩ := okWide_slice Tryd.underlying22 hval
  rcases open_ints Tryd.underlying22 Tryd.underlying3 cells3 hf with ⟨hcs, _⟩ | ⟨a, len, cap, zs, hcs, _, hl, hm, hz, _, hcell, hwz⟩
  · have hv : Value.slice a0 n0 c0 = .slice none 0 0 := by simpa [Value.cells] using hcs
    exact ⟨[], .inl ⟨hv, rfl⟩, by simp, fun n hn => by cases hn⟩
  · have hv : Value.slice a0 n0 c0 = .slice (some a) len cap := by simpa [Value.cells] using hcs
    have hzc : zs.length = cap := by simpa using hz
    have hlen : (zs.take len).length = len := by rw [List.length_take]; omega
    refine ⟨zs.take len, .inr ⟨a, cap, by rw [hv, hlen], fun j u hj => ?_⟩, by rw [hlen]; omega, fun n hn => ?_⟩
    · rw [List.getElem?_map] at hj
      obtain ⟨x, hx, rfl⟩ := Option.map_eq_some_iff.1 hj
      have hjl : j < len := by have := (List.getElem?_eq_some_iff.1 hx).1; omega
      rw [hcell j (by omega)]
      rw [List.getElem?_take, if_pos hjl] at hx
      simp [List.getD_eq_getElem?_getD, hx]
    · have := (Lit.wf_int_iff .i64 n).1 (hwz n (List.mem_of_mem_take hn))
      simp only [IntKind.min, IntKind.max, IntKind.signed, IntKind.bits] at this
      unfold I64
      constructor <;> simp at this <;> omega
theorem open_arg_str {r : Reach} {b0 : Nat} {v : Value} {d : DataW H} {p : List MemPlace} {W : World} (hval : Value.okWide Tryd.prog W r b0 9 v) (h : DataW.Trod enc Tryd.prog W 0 (fun _ => true) true 9 v d p) : ∃ s, v = .string s ∧ s.size ≤ maxLen := by
  obtain ⟨s, h1, _, _, h2⟩ := Go.ChangeMaps.open_string Tryd.underlying9 hval h
  exact ⟨s, h1, h2⟩
theorem open_arg_int {r : Reach} {b0 : Nat} {v : Value} {d : DataW H} {p : List MemPlace} {W : World} (hval : Value.okWide Tryd.prog W r b0 3 v) (h : DataW.Trod enc Tryd.prog W 0 (fun _ => true) true 3 v d p) : ∃ n, v = .int .i64 n ∧ I64 n := by
  obtain ⟨n, rfl, _, _, hw⟩ := open_int Tryd.underlying3 hval h
  refine ⟨n, rfl, ?_⟩
  have := (Lit.wf_int_iff .i64 n).1 hw
  simp only [IntKind.min, IntKind.max, IntKind.signed, IntKind.bits] at this
  unfold I64
  constructor <;> simp at this <;> omega
theorem trodAll_len {W : World} {b : Nat} {sp : Nat → Bool} {hd : Bool} : ∀ {ts : List TypeId} {vs : List Value} {ds : List (DataW H)} {ps : List MemPlace}, DataW.TrodAll enc Tryd.prog W b sp hd ts vs ds ps → ds.length = ts.length
  | [], _, _, _, h => by
    obtain ⟨rfl, rfl, rfl⟩ := trodAll_nil h
    rfl
  | t :: ts, _, _, _, h => by
    obtain ⟨v, vs1, d, ds1, a, b, rfl, rfl, rfl, _, h2⟩ := trodAll_cons h
    simp [trodAll_len h2]
theorem trodAll_stays {W W' : World} {sp : Nat → Bool} (hb : Below W.heap.size W W') : ∀ {ts : List TypeId} {vs : List Value} {ds : List (DataW H)} {ps : List MemPlace}, (∀ t ∈ ts, Tryd.prog.readableRec t = true ∧ t < Tryd.prog.types.size) →
    DataW.TrodAll enc Tryd.prog W 0 (fun _ => true) true ts vs ds ps → (∀ x ∈ ps, x.block < W.heap.size) → (∀ x ∈ ps, sp x.block = true) → DataW.TrodAll enc Tryd.prog W' 0 sp true ts vs ds ps
  | [], _, _, _, _, h, _, _ => by
    obtain ⟨rfl, rfl, rfl⟩ := trodAll_nil h
    exact trodAll_mk0
  | t :: ts, _, _, _, ht, h, hlt, hsp => by
    obtain ⟨v, vs1, d, ds1, a, b, rfl, rfl, rfl, h1, h2⟩ := trodAll_cons h
    have ht0 := ht t (by simp)
    exact trodAll_cons_mk (WideElems.Trod_stays laidOut ht0.1 ht0.2 h1 (fun x hx => hb.same (hlt x (by simp [hx]))) (fun x hx => hsp x (by simp [hx])))
      (trodAll_stays hb (fun t' ht' => ht t' (by simp [ht'])) h2 (fun x hx => hlt x (by simp [hx])) (fun x hx => hsp x (by simp [hx])))
/-- the row's last step: the law has returned true, and nothing that was there has changed -/
theorem law_post {f : Func} {s : ChangeSpec} {apart : Bool} {W W' : World} {args : Array Value} {ds gs : List (DataW H)} {before : List MemPlace} (hrt : f.resultTypes = #[4]) (hvs : s.vars = [])
    (hfn : ∀ ds' : List (DataW H), ds'.length = f.params.toList.length → (s.fn H ds').results = [.lit (.bool true)] ∧ (s.fn H ds').args = ds' ∧ (s.fn H ds').vars = [])
    (hro : ∀ t ∈ f.params.toList, Tryd.prog.readableRec t = true ∧ t < Tryd.prog.types.size)
    (hW : DataW.Whole enc Tryd.prog f.params.toList s.vars apart W args.toList ds gs before) (hb : Below W.heap.size W W') :
    s.post enc Tryd.prog f apart true false false W args (.bool true) W' := by
  have hlt : ∀ p ∈ before, p.block < W.heap.size := fun p hp => hW.lt p hp
  have hold : ∀ p ∈ before, (fun b => decide (b < W.heap.size)) p.block = true := fun p hp => by simpa using hlt p hp
  have hW0 := hW
  obtain ⟨p, q, hA, hV, hpq, hz, hn⟩ := hW
  rw [hvs] at hV
  obtain ⟨rfl, rfl⟩ := trodVars_none hV
  have hlen : ds.length = f.params.toList.length := trodAll_len hA
  obtain ⟨hr1, hr2, hr3⟩ := hfn ds hlen
  rw [List.append_nil] at hpq
  subst hpq
  have hargs : ∀ sp : Nat → Bool, (∀ x ∈ before, sp x.block = true) → DataW.TrodAll enc Tryd.prog W' 0 sp true f.params.toList args.toList (s.fn H (ds ++ [])).args before := fun sp hsp => by
    rw [List.append_nil, hr2]
    exact trodAll_stays hb hro hA hlt hsp
  have hvars : ∀ sp : Nat → Bool, DataW.TrodVars enc Tryd.prog W' sp s.vars (s.fn H (ds ++ [])).vars [] := fun sp => by
    rw [List.append_nil, hr3, hvs]
    exact rfl
  have hres : ∀ (b : Nat) (sp : Nat → Bool) (hd : Bool), DataW.TrodAll enc Tryd.prog W' b sp hd f.resultTypes.toList ((Value.bool true).resultList f.resultTypes.size) (s.fn H (ds ++ [])).results [] := fun b sp hd => by
    rw [List.append_nil, hr1, hrt]
    exact trodAll_cons_mk (shut_bool Tryd.underlying4 _) trodAll_mk0
  have hok : ∀ (j : Nat) (t : TypeId) (r : Value), f.resultTypes[j]? = some t → ((Value.bool true).resultList f.resultTypes.size)[j]? = some r → Value.okWide Tryd.prog W' .any 0 t r :=
    ok_one hrt rfl (okWide_bool_mk Tryd.underlying4 _)
  refine ⟨ds, [], before, [], before, [], hW0, hres _ _ _, hargs _ hold, hvars _, World.keptBut_mono (fun x hx => ⟨hx, ?_⟩) (hb.frame (· ∈ before)), fun _ => ?_⟩
  · exact Or.inr (Or.inl hx)
  · refine ⟨hok, _, _, ([] ++ before) ++ [], ⟨[] ++ before, [], trodAll_append (hargs _ (fun _ _ => rfl)) (hres _ _ _), hvars _, rfl, ?_, ?_⟩, ?_⟩
    · intro b off hp
      have hin : MemPlace.cell b off ∈ before := by simpa using hp
      rw [hb.frozen (hlt _ hin)]
      exact hz b off (by simpa using hin)
    · intro ha
      have := hn ha
      simpa using this
    · intro x hx _
      simpa using hx
end
section
variable {H : Type} {enc : TypeId × Value → H}
theorem open_arg_cap {r : Reach} {b0 : Nat} {v : Value} {d : DataW H} {p : List MemPlace} {W : World} (hval : Value.okWide Tryd.prog W r b0 22 v) (h : DataW.Trod enc Tryd.prog W 0 (fun _ => true) true 22 v d p) : CapOk v := by
  obtain ⟨fuel, hf⟩ := h
  obtain ⟨a0, n0, c0, rfl⟩ := okWide_slice Tryd.underlying22 hval
  rcases open_ints Tryd.underlying22 Tryd.underlying3 cells3 hf with ⟨hcs, _⟩ | ⟨a, len, cap, zs, hcs, _, hl, hm, hz, _, hcell, hwz⟩
  · have hv : Value.slice a0 n0 c0 = .slice none 0 0 := by simpa [Value.cells] using hcs
    intro ad n c h
    rw [hv] at h
    simp only [Value.slice.injEq] at h
    omega
  · have hv : Value.slice a0 n0 c0 = .slice (some a) len cap := by simpa [Value.cells] using hcs
    intro ad n c h
    rw [hv] at h
    simp only [Value.slice.injEq] at h
    omega
end
/-- a block turned into a table's cells -/
def layK : Obj → Obj
  | .cells _ t frozen => .cells (ks.map u32v).toArray t frozen
  | o => o
/-- a world for the witness: the settled one, the tables holding what their initialisers lay -/
noncomputable def laidWorld (os : Os) : World :=
  { World.holding Tryd.prog os ⟨#[], #[], []⟩ with heap := ((World.holding Tryd.prog os ⟨#[], #[], []⟩).heap.modify 0 layK).modify 1 layK }
end Go.Proofs.YtfkpeabkcdhcfaaDoor
