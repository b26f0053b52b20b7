/-
  The first words of the draws of great splits: many nodes at once.
-/
import Derived.Test.YtfkpeabkcdhcfaaDoorV5
namespace Go.Proofs.YtfkpeabkcdhcfaaDoor
/-- the low byte, and the byte above it, of each lane's number -/
noncomputable def vLo (m8 a : Nat) : Nat := Nat.land a m8
noncomputable def vHi (m8 a : Nat) : Nat := Nat.land (Nat.shiftRight a 8) m8
noncomputable def vHh (m8 a : Nat) : Nat := Nat.land (Nat.shiftRight a 16) m8
theorem pk_byte (n s : Nat) (hs : s ≤ 56) (f : Nat → Nat) (hf : ∀ i, i < n → f i < 2 ^ 64) : Nat.land (Nat.shiftRight (pk n f) s) (pk n fun _ => 255) = pk n fun q => f q / 2 ^ s % 256 := by
  apply Nat.eq_of_testBit_eq
  intro b
  show ((pk n f >>> s) &&& pk n (fun _ => 255)).testBit b = _
  rw [pk_bit n _ (fun i _ => Nat.lt_of_lt_of_le (Nat.mod_lt _ (by decide)) (by decide)), Nat.testBit_and, Nat.testBit_shiftRight, pk_bit n (fun _ => 255) (fun _ _ => by decide), pk_bit n f hf]
  have hm : ∀ r, Nat.testBit 255 r = decide (r < 8) := fun r => Nat.testBit_two_pow_sub_one 8 r
  have hv : ∀ x r : Nat, Nat.testBit (x / 2 ^ s % 256) r = (decide (r < 8) && Nat.testBit x (s + r)) := fun x r => by
    rw [show (256 : Nat) = 2 ^ 8 from rfl, Nat.testBit_mod_two_pow, Nat.testBit_div_two_pow, Nat.add_comm]
  rw [hm, hv]
  by_cases hb : b % 64 < 8
  · rw [show (s + b) / 64 = b / 64 by omega, show (s + b) % 64 = s + b % 64 by omega]
    cases decide (b / 64 < n) <;> simp [Bool.and_comm]
  · rw [decide_eq_false hb]; simp
/-- the bytes of a number of a class: 1: it is 0; 2: under 256; 3: under 65536; 4: under 2^24 -/
def eG (k x : Nat) : List Nat := match k with
  | 1 => [128]
  | 2 => [129, x]
  | 3 => [130, x / 256, x % 256]
  | _ => [131, x / 65536, x / 256 % 256, x % 256]
def InG (k x : Nat) : Prop := match k with
  | 1 => x = 0
  | 2 => 0 < x ∧ x < 256
  | 3 => 256 ≤ x ∧ x < 65536
  | 4 => 65536 ≤ x ∧ x < 16777216
  | _ => False
theorem inG_lt (k x : Nat) (h : InG k x) : x < 16777216 := by
  match k, h with
  | 1, h => have h' : x = 0 := h; omega
  | 2, h => have h' : 0 < x ∧ x < 256 := h; omega
  | 3, h => have h' : 256 ≤ x ∧ x < 65536 := h; omega
  | 4, h => have h' : 65536 ≤ x ∧ x < 16777216 := h; omega
theorem enc_cls (k x : Nat) (h : InG k x) : encInt (x : Int) = (eG k x).map UInt8.ofNat ∧ (eG k x).length = k ∧ 1 ≤ k ∧ k ≤ 4 := by
  have enc : ∀ j, nd x = j → encInt (x : Int) = (UInt8.ofNat (128 + j) ^^^ 0) :: digs x j 0 j := fun j hj => by
    unfold encInt
    rw [if_pos (by omega), Int.toNat_natCast]
    unfold encOf
    rw [hj]
  match k, h with
  | 1, h =>
    obtain rfl : x = 0 := h
    exact ⟨enc_small 0 (by omega), rfl, by omega, by omega⟩
  | 2, h =>
    refine ⟨?_, rfl, by omega, by omega⟩
    rw [enc_small x h.2]
    have hb : Nat.beq x 0 = false := by
      have := h.1
      rcases x with _ | x
      · omega
      · rfl
    unfold eN
    rw [hb]; rfl
  | 3, h =>
    refine ⟨?_, rfl, by omega, by omega⟩
    rw [enc 2 (nd_unique 2 x (by have := h.2; omega) (.inr (by have := h.1; show 256 ^ 1 ≤ x; omega)))]
    have e : UInt8.ofNat x = UInt8.ofNat (x % 256) := by
      apply UInt8.toNat_inj.1
      rw [UInt8.toNat_ofNat', UInt8.toNat_ofNat']; omega
    simp [digs, List.range_succ, eG, e]
  | 4, h =>
    refine ⟨?_, rfl, by omega, by omega⟩
    rw [enc 3 (nd_unique 3 x (by have := h.2; omega) (.inr (by have := h.1; show 256 ^ 2 ≤ x; omega)))]
    have e : UInt8.ofNat x = UInt8.ofNat (x % 256) := by
      apply UInt8.toNat_inj.1
      rw [UInt8.toNat_ofNat', UInt8.toNat_ofNat']; omega
    have e2 : UInt8.ofNat (x / 256) = UInt8.ofNat (x / 256 % 256) := by
      apply UInt8.toNat_inj.1
      rw [UInt8.toNat_ofNat', UInt8.toNat_ofNat']; omega
    simp [digs, List.range_succ, eG, e, e2]
noncomputable def vE (o m8 k a : Nat) : List Nat := cond (Nat.beq k 1) [Nat.mul 128 o] (cond (Nat.beq k 2) [Nat.mul 129 o, a] (cond (Nat.beq k 3) [Nat.mul 130 o, vHi m8 a, vLo m8 a] [Nat.mul 131 o, vHh m8 a, vHi m8 a, vLo m8 a]))
theorem lanes_E {n o m8 k a : Nat} {f : Nat → Nat} (ho : o = pk n fun _ => 1) (h8 : m8 = pk n fun _ => 255) (ha : a = pk n f) (hf : ∀ q, InG k (f q)) : Lanes n (vE o m8 k a) fun q => encInt (f q : Nat) := by
  have hlt : ∀ q, f q < 16777216 := fun q => inG_lt k (f q) (hf q)
  have hk := (enc_cls k (f 0) (hf 0)).2.2
  have cst : ∀ c, c < 256 → Lanes n [Nat.mul c o] fun _ => [UInt8.ofNat c] := fun c hc => Lanes.const ho [c] (by simpa using hc)
  have lo : Lanes n [vLo m8 a] fun q => [UInt8.ofNat (f q % 256)] := Lanes.one (by
    have := pk_byte n 0 (by omega) f (fun i _ => Nat.lt_trans (hlt i) (by decide))
    unfold vLo
    rw [h8, ha]
    refine (show _ = _ from this).trans (pk_congr _ _ _ fun q _ => ?_)
    rw [UInt8.toNat_ofNat']; simp)
  have hi : Lanes n [vHi m8 a] fun q => [UInt8.ofNat (f q / 256 % 256)] := Lanes.one (by
    have := pk_byte n 8 (by omega) f (fun i _ => Nat.lt_trans (hlt i) (by decide))
    unfold vHi
    rw [h8, ha]
    refine (show _ = _ from this).trans (pk_congr _ _ _ fun q _ => ?_)
    rw [UInt8.toNat_ofNat']; simp)
  have hh : Lanes n [vHh m8 a] fun q => [UInt8.ofNat (f q / 65536 % 256)] := Lanes.one (by
    have := pk_byte n 16 (by omega) f (fun i _ => Nat.lt_trans (hlt i) (by decide))
    unfold vHh
    rw [h8, ha]
    refine (show _ = _ from this).trans (pk_congr _ _ _ fun q _ => ?_)
    rw [UInt8.toNat_ofNat']; simp)
  unfold vE
  rcases (show k = 1 ∨ k = 2 ∨ k = 3 ∨ k = 4 by omega) with rfl | rfl | rfl | rfl
  · exact (cst 128 (by omega)).same fun q => (enc_cls 1 (f q) (hf q)).1.symm
  · have h2 : Lanes n [a] fun q => [UInt8.ofNat (f q)] := Lanes.one (by
      rw [ha]
      refine pk_congr _ _ _ fun q _ => ?_
      have := (hf q).2
      rw [UInt8.toNat_ofNat']; omega)
    exact ((cst 129 (by omega)).append h2).same fun q => (enc_cls 2 (f q) (hf q)).1.symm
  · refine ((cst 130 (by omega)).append (hi.append lo)).same fun q => ?_
    have hq := (hf q).2
    rw [(enc_cls 3 (f q) (hf q)).1, show f q / 256 % 256 = f q / 256 by omega]; rfl
  · refine ((cst 131 (by omega)).append (hh.append (hi.append lo))).same fun q => ?_
    have hq := (hf q).2
    rw [(enc_cls 4 (f q) (hf q)).1, show f q / 65536 % 256 = f q / 65536 by omega]; rfl
theorem vE_len (o m8 k a : Nat) (h1 : 1 ≤ k) (h2 : k ≤ 4) : (vE o m8 k a).length = k := by
  rcases (show k = 1 ∨ k = 2 ∨ k = 3 ∨ k = 4 by omega) with rfl | rfl | rfl | rfl <;> rfl
noncomputable def gMl (ka kn t : Nat) : Nat := Nat.add 8 (Nat.add ka (Nat.add kn (eN t).length))
noncomputable def gMsg (o m8 ka kn a nn t : Nat) : List Nat :=
  List.append (vC o [8, 129, 1, 103, 129, Nat.sub (gMl ka kn t) 6, 129, 3]) (List.append (vE o m8 ka a) (List.append (vE o m8 kn nn) (vC o (List.append (eN t) (vPad (gMl ka kn t))))))
/-- which lanes' words are near 2^32 at a try -/
noncomputable def gNear (n ka kn a nn t c : Nat) : Nat := vFar (Nat.mul 4294967295 (vOnes n)) (vOnes n) c (gMsg (vOnes n) (Nat.mul 255 (vOnes n)) ka kn a nn t)
/-- no lane's words are near 2^32 at both of the first two tries -/
noncomputable def gOk (n ka kn a nn c : Nat) : Bool := or (Nat.beq (gNear n ka kn a nn 0 c) 0) (Nat.beq (Nat.land (gNear n ka kn a nn 0 c) (gNear n ka kn a nn 1 c)) 0)
def sG : ByteArray := ⟨#[103]⟩
theorem gNear_pk {n ka kn c : Nat} {fa fn : Nat → Nat} (ha : ∀ q, InG ka (fa q)) (hn : ∀ q, InG kn (fn q)) (hc : c ≤ 4294967296) (t : Nat) (ht : t < 2) :
    ∃ H : Nat → UInt32, gNear n ka kn (pk n fa) (pk n fn) t c = pk n (fun q => ((H q).toNat + c) &&& 4294967296) ∧ ∀ q, wordOf sG [(fa q : Int), (fn q : Int)] (t : Nat) / 65536 = (H q).toNat := by
  have ho := vOnes_eq n
  have hm : Nat.mul 4294967295 (vOnes n) = pk n fun _ => 4294967295 := by
    show 4294967295 * vOnes n = _
    rw [ho, pk_mul]
  have h8 : Nat.mul 255 (vOnes n) = pk n fun _ => 255 := by
    show 255 * vOnes n = _
    rw [ho, pk_mul]
  have hka := (enc_cls ka (fa 0) (ha 0)).2.2
  have hkn := (enc_cls kn (fn 0) (hn 0)).2.2
  have htl := eN_len t
  have hml : gMl ka kn t ≤ 55 := by show 8 + (ka + (kn + (eN t).length)) ≤ 55; omega
  have hml' : gMl ka kn t = 8 + (ka + (kn + (eN t).length)) := rfl
  have l1 := Lanes.const ho [8, 129, 1, 103, 129, Nat.sub (gMl ka kn t) 6, 129, 3] (by
    intro x hx
    simp only [List.mem_cons, List.not_mem_nil, or_false] at hx
    have : Nat.sub (gMl ka kn t) 6 = gMl ka kn t - 6 := rfl
    omega)
  have l2 := lanes_E ho h8 rfl ha
  have l3 := lanes_E ho h8 rfl hn
  have l4 := Lanes.const ho (List.append (eN t) (vPad (gMl ka kn t))) (by
    intro x hx
    rcases List.mem_append.1 (show x ∈ eN t ++ vPad (gMl ka kn t) from hx) with h | h
    · exact eN_lt t (by omega) x h
    · exact pad_lt _ hml x h)
  have hall : Lanes n (gMsg (vOnes n) (Nat.mul 255 (vOnes n)) ka kn (pk n fa) (pk n fn) t) _ := l1.append (l2.append (l3.append l4))
  have hlen : (gMsg (vOnes n) (Nat.mul 255 (vOnes n)) ka kn (pk n fa) (pk n fn) t).length = 64 := by
    have e1 : ∀ (o : Nat) (l : List Nat), (vC o l).length = l.length := fun o l => by
      induction l with
      | nil => rfl
      | cons c l ih => show (Nat.mul c o :: vC o l).length = _; rw [List.length_cons, ih, List.length_cons]
    show (vC _ _ ++ (vE _ _ _ _ ++ (vE _ _ _ _ ++ vC _ _))).length = 64
    rw [List.length_append, List.length_append, List.length_append, e1, e1, vE_len _ _ _ _ hka.1 hka.2, vE_len _ _ _ _ hkn.1 hkn.2]
    show 8 + (ka + (kn + (eN t ++ vPad (gMl ka kn t)).length)) = 64
    rw [List.length_append, pad_len _ hml]
    omega
  refine ⟨fun q => (compress (bytesAt ([8, 129, 1, 103, 129, Nat.sub (gMl ka kn t) 6, 129, 3].map UInt8.ofNat ++ (encInt (fa q : Nat) ++ (encInt (fn q : Nat) ++ (List.append (eN t) (vPad (gMl ka kn t))).map UInt8.ofNat)))) iv).a, ?_, fun q => ?_⟩
  · unfold gNear vFar
    rw [vShaL_eq hm ho hall (by exact hlen)]
    show Nat.land (vw n _ + c * vOnes n) (4294967296 * vOnes n) = _
    unfold vw
    rw [ho, pk_mul, pk_mul, pk_add, pk_and]
    · exact pk_congr n _ _ fun q _ => by rw [Nat.mul_one, Nat.mul_one]
    · intro i _
      have := (compress (bytesAt ([8, 129, 1, 103, 129, Nat.sub (gMl ka kn t) 6, 129, 3].map UInt8.ofNat ++ (encInt (fa i : Nat) ++ (encInt (fn i : Nat) ++ (List.append (eN t) (vPad (gMl ka kn t))).map UInt8.ofNat)))) iv).a.toNat_lt
      show (compress _ iv).a.toNat + c * 1 < 2 ^ 64
      omega
    · intro i _; decide
  · have ea := enc_cls ka (fa q) (ha q)
    have en := enc_cls kn (fn q) (hn q)
    have et := enc_small t (by omega)
    have hints : encInts ([(fa q : Int), (fn q : Int)] ++ [((t : Nat) : Int)]) = [129, 3].map UInt8.ofNat ++ (encInt (fa q : Nat) ++ (encInt (fn q : Nat) ++ (eN t).map UInt8.ofNat)) := by
      unfold encInts
      rw [show ([(fa q : Int), (fn q : Int)] ++ [((t : Nat) : Int)]).length = 3 from rfl, show ((3 : Nat) : Int) = ((3 : Nat) : Int) from rfl, enc_small 3 (by omega), ← et]
      simp
      rfl
    have hil : (encInts ([(fa q : Int), (fn q : Int)] ++ [((t : Nat) : Int)])).length = gMl ka kn t - 6 := by
      rw [hints]
      simp only [List.length_append, List.length_map, ea.1, en.1, ea.2.1, en.2.1]
      show 2 + (ka + (kn + (eN t).length)) = _
      omega
    have hmsg : preS sG ⟨(encInts ([(fa q : Int), (fn q : Int)] ++ [((t : Nat) : Int)])).toArray⟩ 2 = [8, 129, 1, 103, 129, Nat.sub (gMl ka kn t) 6, 129, 3].map UInt8.ofNat ++ (encInt (fa q : Nat) ++ (encInt (fn q : Nat) ++ (eN t).map UInt8.ofNat)) := by
      show 8 :: (encS sG ++ (encInt (((encInts ([(fa q : Int), (fn q : Int)] ++ [((t : Nat) : Int)])).toArray.size : Nat) : Int) ++ (encInts ([(fa q : Int), (fn q : Int)] ++ [((t : Nat) : Int)])).toArray.toList)) = _
      rw [List.size_toArray, hil, hints, enc_small _ (by omega)]
      have hb : eN (gMl ka kn t - 6) = [129, gMl ka kn t - 6] := by
        unfold eN
        obtain ⟨m, hm'⟩ : ∃ m, gMl ka kn t - 6 = m + 1 := ⟨gMl ka kn t - 7, by omega⟩
        rw [hm']; rfl
      have hs : encS sG = [129, 1, 103].map UInt8.ofNat := by
        show encInt ((1 : Nat) : Int) ++ [103] = _
        rw [enc_small 1 (by decide)]; rfl
      rw [hb, hs]
      rfl
    have hml2 : (preS sG ⟨(encInts ([(fa q : Int), (fn q : Int)] ++ [((t : Nat) : Int)])).toArray⟩ 2).length = gMl ka kn t := by
      rw [hmsg]
      simp only [List.length_append, List.length_map, ea.1, en.1, ea.2.1, en.2.1]
      show 8 + (ka + (kn + (eN t).length)) = _
      omega
    rw [word_hi, of8_one _ _ (by rw [hml2]; exact hml), hml2, hmsg, pad_small _ hml]
    refine congrArg (fun B => (compress (bytesAt B) iv).a.toNat) ?_
    show _ = [8, 129, 1, 103, 129, Nat.sub (gMl ka kn t) 6, 129, 3].map UInt8.ofNat ++ (encInt (fa q : Nat) ++ (encInt (fn q : Nat) ++ (eN t ++ vPad (gMl ka kn t)).map UInt8.ofNat))
    simp
theorem gOk_word {n ka kn c : Nat} {fa fn : Nat → Nat} (ha : ∀ q, InG ka (fa q)) (hn : ∀ q, InG kn (fn q)) (hc : c ≤ 4294967296) (h : gOk n ka kn (pk n fa) (pk n fn) c = true) (q : Nat) (hq : q < n) :
    ∃ t : Nat, t ≤ 1 ∧ wordOf sG [(fa q : Int), (fn q : Int)] (t : Nat) / 65536 + c < 4294967296 := by
  obtain ⟨H0, e0, w0⟩ := gNear_pk (n := n) ha hn hc 0 (by omega)
  obtain ⟨H1, e1, w1⟩ := gNear_pk (n := n) ha hn hc 1 (by omega)
  have bit : ∀ (H : Nat → UInt32) (z : Nat), z &&& (((H q).toNat + c) &&& 4294967296) = 0 → z &&& 4294967296 ≠ 0 → (H q).toNat + c < 4294967296 := fun H z h1 h2 => by
    have hlt := (H q).toNat_lt
    rcases Nat.lt_or_ge ((H q).toNat + c) 4294967296 with h3 | h3
    · exact h3
    · exfalso
      apply h2
      have h32 := Nat.testBit_of_two_pow_le_and_two_pow_add_one_gt (n := (H q).toNat + c) (i := 32) h3 (by omega)
      have e : ((H q).toNat + c) &&& 4294967296 = 4294967296 := by
        apply Nat.eq_of_testBit_eq
        intro i
        rw [Nat.testBit_and, show (4294967296 : Nat) = 2 ^ 32 from rfl, Nat.testBit_two_pow]
        by_cases hi : 32 = i
        · subst hi; rw [h32]; simp
        · rw [decide_eq_false hi]; simp
      rw [e] at h1
      exact h1
  have zero : ∀ F : Nat → Nat, (∀ i, i < n → F i < 2 ^ 64) → pk n F = 0 → F q = 0 := fun F hF hz => by
    apply Nat.eq_of_testBit_eq
    intro i
    rw [Nat.zero_testBit]
    by_cases hi : i < 64
    · have := pk_bit n F hF (64 * q + i)
      rw [hz, Nat.zero_testBit, show (64 * q + i) / 64 = q by omega, show (64 * q + i) % 64 = i by omega, decide_eq_true hq, Bool.true_and] at this
      exact this.symm
    · exact Nat.testBit_lt_two_pow (Nat.lt_of_lt_of_le (hF q hq) (Nat.pow_le_pow_right (by decide) (by omega)))
  have lt : ∀ (H : Nat → UInt32) i, i < n → (((H i).toNat + c) &&& 4294967296) < 2 ^ 64 := fun H i _ => Nat.lt_of_le_of_lt Nat.and_le_right (by decide)
  unfold gOk at h
  rcases (Bool.or_eq_true _ _).mp h with h | h
  · have hz := zero _ (lt H0) (e0.symm.trans (Nat.eq_of_beq_eq_true h))
    refine ⟨0, by omega, ?_⟩
    rw [w0]
    exact bit H0 4294967296 (by rw [hz]; rfl) (by decide)
  · have hz0 := Nat.eq_of_beq_eq_true h
    rw [e0, e1, pk_and n _ _ (lt H0) (lt H1)] at hz0
    have hz := zero _ (fun i hi => Nat.lt_of_le_of_lt Nat.and_le_left (lt H0 i hi)) hz0
    by_cases h1 : ((H0 q).toNat + c) &&& 4294967296 = 0
    · refine ⟨0, by omega, ?_⟩
      rw [w0]
      exact bit H0 4294967296 (by rw [h1]; rfl) (by decide)
    · refine ⟨1, by omega, ?_⟩
      rw [w1]
      refine bit H1 (((H0 q).toNat + c) &&& 4294967296) hz ?_
      rw [Nat.and_assoc]
      exact h1
/-- a family of nodes: R numbers of parts from n0 + 1 on; for each of them C first parts, from i times one less than that number, and a0, on -/
noncomputable def gCh (n0 R C i a0 ka kn c : Nat) : Bool :=
  gOk (Nat.mul C R) ka kn
    (Nat.add (Nat.add (Nat.mul i (Nat.mul (vOnes C) (vSum (Nat.mul 64 C) (fun r => Nat.add n0 r) R))) (Nat.mul a0 (vOnes (Nat.mul C R)))) (Nat.mul (vSum 64 (fun d => d) C) (vSum (Nat.mul 64 C) (fun _ => 1) R)))
    (Nat.add (Nat.mul (vOnes C) (vSum (Nat.mul 64 C) (fun r => Nat.add n0 r) R)) (vOnes (Nat.mul C R))) c
theorem gCh_word {n0 R C i a0 ka kn c : Nat} (hC : 0 < C) (hR : 0 < R) (hn : ∀ r, r < R → InG kn (n0 + r + 1)) (ha : ∀ r d, r < R → d < C → InG ka (i * (n0 + r) + a0 + d)) (hc : c ≤ 4294967296) (h : gCh n0 R C i a0 ka kn c = true) (r d : Nat) (hr : r < R) (hd : d < C) :
    ∃ t : Nat, t ≤ 1 ∧ wordOf sG [((i * (n0 + r) + a0 + d : Nat) : Int), ((n0 + r + 1 : Nat) : Int)] (t : Nat) / 65536 + c < 4294967296 := by
  have e1 : vOnes C * vSum (64 * C) (fun r => n0 + r) R = pk (C * R) fun q => n0 + (q / C) % R := by
    rw [vOnes_eq, ← pk_row C hC (fun r => n0 + r) R]
    refine pk_congr _ _ _ fun q hq => ?_
    rw [Nat.mod_eq_of_lt (Nat.div_lt_of_lt_mul hq)]
  have e2 : vSum 64 (fun d => d) C * vSum (64 * C) (fun _ => 1) R = pk (C * R) fun q => q % C := by
    rw [vSum_pk, ← pk_col C hC (fun d => d) R]
  have eA : (i * (vOnes C * vSum (64 * C) (fun r => n0 + r) R) + a0 * vOnes (C * R)) + vSum 64 (fun d => d) C * vSum (64 * C) (fun _ => 1) R = pk (C * R) fun q => i * (n0 + (q / C) % R) + a0 + q % C := by
    rw [e1, e2, vOnes_eq, pk_mul, pk_mul, pk_add, pk_add]
    exact pk_congr _ _ _ fun q _ => by rw [Nat.mul_one]
  have eN : vOnes C * vSum (64 * C) (fun r => n0 + r) R + vOnes (C * R) = pk (C * R) fun q => n0 + (q / C) % R + 1 := by
    rw [e1, vOnes_eq, pk_add]
  have h' : gOk (C * R) ka kn ((i * (vOnes C * vSum (64 * C) (fun r => n0 + r) R) + a0 * vOnes (C * R)) + vSum 64 (fun d => d) C * vSum (64 * C) (fun _ => 1) R) (vOnes C * vSum (64 * C) (fun r => n0 + r) R + vOnes (C * R)) c = true := h
  rw [eA, eN] at h'
  have hq : C * r + d < C * R := by
    have h1 : C * r + C ≤ C * R := by rw [← Nat.mul_succ]; exact Nat.mul_le_mul_left _ hr
    omega
  have e3 : (C * r + d) / C % R = r := by rw [Nat.mul_add_div hC, Nat.div_eq_of_lt hd, Nat.add_zero, Nat.mod_eq_of_lt hr]
  have e4 : (C * r + d) % C = d := by rw [Nat.mul_add_mod, Nat.mod_eq_of_lt hd]
  have key := gOk_word (n := C * R) (fa := fun q => i * (n0 + (q / C) % R) + a0 + q % C) (fn := fun q => n0 + (q / C) % R + 1) (fun q => ha _ _ (Nat.mod_lt _ hR) (Nat.mod_lt _ hC)) (fun q => hn _ (Nat.mod_lt _ hR)) hc h' (C * r + d) hq
  rw [e3, e4] at key
  exact key
/-- a level of the trees: the nodes from number lo on, k of them -/
noncomputable def gLv (n0 R c lo k : Nat) : Bool := vAll (fun i => gCh n0 R (Nat.succ (Nat.mul 2 i)) i 0 3 3 c) lo k
/-- where the blocks of first parts begin -/
def gAt (k : Nat) : Nat := cond (Nat.blt k 21) (Nat.add 256 (Nat.mul 2968 k)) 62568
noncomputable def gHi (n0 kn c lo k : Nat) : Bool := vAll (fun j => gCh n0 1 2968 0 (gAt j) 3 kn c) lo k
/-- all first parts of a number of parts -/
structure GFar (n0 kn c : Nat) : Prop where
  z : gCh n0 1 1 0 0 1 kn c = true
  s : gCh n0 1 255 0 1 2 kn c = true
  h0 : gHi n0 kn c 0 8 = true
  h1 : gHi n0 kn c 8 8 = true
  h2 : gHi n0 kn c 16 6 = true
theorem gFar_word {n0 kn c : Nat} (hn : InG kn (n0 + 1)) (hc : c ≤ 4294967296) (h : GFar n0 kn c) (a : Nat) (ha : a < 65536) : ∃ t : Nat, t ≤ 1 ∧ wordOf sG [((a : Nat) : Int), ((n0 + 1 : Nat) : Int)] (t : Nat) / 65536 + c < 4294967296 := by
  have hn' : ∀ r, r < 1 → InG kn (n0 + r + 1) := by
    intro r hr
    obtain rfl : r = 0 := by omega
    exact hn
  rcases (show a = 0 ∨ (0 < a ∧ a < 256) ∨ 256 ≤ a by omega) with rfl | h1 | h1
  · have := gCh_word (by omega) (by omega) hn' (fun r d hr hd => by show 0 * _ + 0 + d = 0; omega) hc h.z 0 0 (by omega) (by omega)
    simpa using this
  · have := gCh_word (by omega) (by omega) hn' (fun r d hr hd => by show 0 < 0 * _ + 1 + d ∧ 0 * _ + 1 + d < 256; omega) hc h.s 0 (a - 1) (by omega) (by omega)
    rw [show 0 * (n0 + 0) + 1 + (a - 1) = a by omega] at this
    exact this
  · obtain ⟨k, hk, hk1, hk2⟩ : ∃ k, k < 22 ∧ gAt k ≤ a ∧ a < gAt k + 2968 := by
      by_cases h3 : a < 62568
      · refine ⟨(a - 256) / 2968, by omega, ?_, ?_⟩
        all_goals
          have hb : Nat.blt ((a - 256) / 2968) 21 = true := by rw [Nat.blt_eq]; omega
          unfold gAt
          rw [hb]
          simp only [cond]
          show _
        · show 256 + 2968 * ((a - 256) / 2968) ≤ a; omega
        · show a < 256 + 2968 * ((a - 256) / 2968) + 2968; omega
      · exact ⟨21, by omega, by show 62568 ≤ a; omega, by show a < 62568 + 2968; omega⟩
    have hg : ∀ k, k < 22 → 256 ≤ gAt k ∧ gAt k + 2968 ≤ 65536 := by decide
    have hgk := hg k hk
    have hch : gCh n0 1 2968 0 (gAt k) 3 kn c = true := by
      rcases (show k < 8 ∨ (8 ≤ k ∧ k < 16) ∨ 16 ≤ k by omega) with h3 | h3 | h3
      · have := vAll_at _ 0 8 h.h0 k h3; rw [Nat.zero_add] at this; exact this
      · have := vAll_at _ 8 8 h.h1 (k - 8) (by omega); rw [show 8 + (k - 8) = k by omega] at this; exact this
      · have := vAll_at _ 16 6 h.h2 (k - 16) (by omega); rw [show 16 + (k - 16) = k by omega] at this; exact this
    have := gCh_word (by omega) (by omega) hn' (fun r d hr hd => by show 256 ≤ 0 * _ + gAt k + d ∧ 0 * _ + gAt k + d < 65536; omega) hc hch 0 (a - gAt k) (by omega) (by omega)
    rw [show 0 * (n0 + 0) + gAt k + (a - gAt k) = a by omega] at this
    exact this
end Go.Proofs.YtfkpeabkcdhcfaaDoor
