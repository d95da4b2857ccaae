/- The law of texts that differ in bits side by side. -/
import Derived.Test.YtdolipgngaljcaaCrE
namespace Go.Cr
open Go Go.Gw Go.Proofs.Sa.D

def bitW (b : Bool) : W := if b then 1#32 else 0#32
/-- The state behind k bits, from bit n on. -/
def run (s : W) (f : Nat → Bool) : Nat → Nat → W
  | _, 0 => s
  | n, k + 1 => run (bit1 (s ^^^ bitW (f n))) f (n + 1) k
def word (f : Nat → Bool) : Nat → Nat → W
  | _, 0 => 0#32
  | n, k + 1 => bitW (f n) ^^^ (word f (n + 1) k <<< 1)

theorem word_get (f : Nat → Bool) : ∀ (k n i : Nat), i < 32 → (word f n k).getLsbD i = (decide (i < k) && f (n + i))
  | 0, n, i, hi => by simp [word]
  | k + 1, n, i, hi => by
    simp only [word, BitVec.getLsbD_xor, BitVec.getLsbD_shiftLeft]
    cases i with
    | zero => cases h : f n <;> simp [bitW]
    | succ i =>
      have := word_get f k (n + 1) i (by omega)
      have hb : (bitW (f n)).getLsbD (i + 1) = false := by cases f n <;> simp [bitW, BitVec.getLsbD_one]
      simp only [hb, Nat.add_sub_cancel, this, Bool.false_bne]
      have e : n + 1 + i = n + (i + 1) := by omega
      rw [e]
      simp [hi]

theorem run_word (f : Nat → Bool) : ∀ (k n : Nat) (s : W), k ≤ 32 → run s f n k = bitn k (s ^^^ word f n k)
  | 0, n, s, _ => by simp [run, word, bitn]
  | k + 1, n, s, hk => by
    simp only [run, word, bitn]
    rw [run_word f k (n + 1) _ (by omega), ← BitVec.xor_assoc, bit1_xor (s ^^^ bitW (f n)) (word f (n + 1) k <<< 1)]
    congr 2
    have hlow : (word f (n + 1) k <<< 1).getLsbD 0 = false := by simp
    unfold bit1
    rw [hlow]
    apply BitVec.eq_of_getLsbD_eq
    intro i hi
    simp only [BitVec.getLsbD_xor, BitVec.getLsbD_ushiftRight, BitVec.getLsbD_shiftLeft]
    have h0 : (if (false = true) then poly else 0#32).getLsbD i = false := by simp
    rw [h0]
    by_cases h : 1 + i < 32
    · simp [h]
    · have : i = 31 := by omega
      subst this
      rw [word_get f k (n + 1) 31 (by omega)]
      have : ¬ (31 < k) := by omega
      simp [this]

theorem run_xor (f g : Nat → Bool) : ∀ (k n : Nat) (s t : W), run s f n k ^^^ run t g n k = run (s ^^^ t) (fun p => f p ^^ g p) n k
  | 0, n, s, t => rfl
  | k + 1, n, s, t => by
    simp only [run]
    rw [run_xor f g k (n + 1)]
    congr 1
    rw [← bit1_xor]
    congr 1
    have : bitW (f n) ^^^ bitW (g n) = bitW (f n ^^ g n) := by cases f n <;> cases g n <;> decide
    rw [← this]
    simp only [BitVec.xor_assoc]
    rw [xlc (bitW (f n)) t]

theorem run_congr {f g : Nat → Bool} : ∀ (k n : Nat) (s : W), (∀ p, n ≤ p → p < n + k → f p = g p) → run s f n k = run s g n k
  | 0, _, _, _ => rfl
  | k + 1, n, s, h => by
    simp only [run]
    rw [h n (by omega) (by omega)]
    exact run_congr k (n + 1) _ fun p h1 h2 => h p (by omega) (by omega)

theorem run_add (f : Nat → Bool) : ∀ (j k n : Nat) (s : W), run s f n (j + k) = run (run s f n j) f (n + j) k
  | 0, k, n, s => by simp [run]
  | j + 1, k, n, s => by
    rw [show j + 1 + k = (j + k) + 1 by omega]
    simp only [run]
    rw [run_add f j k (n + 1)]
    congr 1
    omega

theorem run_none {f : Nat → Bool} : ∀ (k n : Nat) (s : W), (∀ p, n ≤ p → p < n + k → f p = false) → run s f n k = bitn k s
  | 0, _, _, _ => rfl
  | k + 1, n, s, h => by
    simp only [run, bitn]
    rw [h n (by omega) (by omega)]
    have : s ^^^ bitW false = s := by simp [bitW]
    rw [this]
    exact run_none k (n + 1) _ fun p h1 h2 => h p (by omega) (by omega)

/-- Bits within 32 side by side: nothing comes of them only if there are none. -/
theorem run_window {f : Nat → Bool} {at' N : Nat} (h1 : ∀ p, p < at' → f p = false) (h2 : ∀ p, at' + 32 ≤ p → f p = false) (hat : at' ≤ N) (h : run 0#32 f 0 N = 0#32) : ∀ p, p < N → f p = false := by
  have e0 : run 0#32 f 0 at' = 0#32 := by rw [run_none at' 0 _ fun p _ hp => h1 p (by omega), bitn_zero]
  obtain ⟨k, d, hk, hkd, hkN⟩ : ∃ k d, k ≤ 32 ∧ at' + k + d = N ∧ (k = 32 ∨ d = 0) := by
    by_cases hc : at' + 32 ≤ N
    · exact ⟨32, N - at' - 32, by omega, by omega, .inl rfl⟩
    · exact ⟨N - at', 0, by omega, by omega, .inr rfl⟩
  have e1 : run 0#32 f 0 N = run (run (run 0#32 f 0 at') f at' k) f (at' + k) d := by
    rw [← hkd, Nat.add_assoc, run_add, run_add]
    simp
  rw [e1, e0, run_none d _ _ (by
    intro p hp1 hp2
    rcases hkN with hk | hd
    · exact h2 p (by omega)
    · omega)] at h
  have h3 := bitn_inj d h
  rw [run_word f k at' _ hk] at h3
  have h4 := bitn_inj k h3
  rw [BitVec.zero_xor] at h4
  intro p hp
  by_cases ha : p < at'
  · exact h1 p ha
  · by_cases hb : p < at' + k
    · have := congrArg (fun w : W => w.getLsbD (p - at')) h4
      simp only [word_get f k at' (p - at') (by omega)] at this
      simp [show p - at' < k by omega, show at' + (p - at') = p by omega] at this
      exact this
    · rcases hkN with hk | hd
      · exact h2 p (by omega)
      · omega

/-- The bits of a text. -/
def bitOf (b : List (BitVec 8)) (p : Nat) : Bool := (b.getD (p / 8) 0#8).getLsbD (p % 8)

theorem next_run (r : W) (c : BitVec 8) (f : Nat → Bool) (n : Nat) (h : ∀ i, i < 8 → f (n + i) = c.getLsbD i) : next r c = run r f n 8 := by
  rw [run_word f 8 n r (by decide)]
  unfold next
  congr 2
  apply BitVec.eq_of_getLsbD_eq
  intro i hi
  rw [word_get f 8 n i hi, BitVec.getLsbD_setWidth]
  by_cases h8 : i < 8
  · simp [hi, h8, h i h8]
  · have h0 : c.getLsbD i = false := BitVec.getLsbD_of_ge _ _ (by omega)
    simp [h8, h0]

theorem fold_run : ∀ (b : List (BitVec 8)) (r : W) (f : Nat → Bool) (n : Nat), (∀ p, p < 8 * b.length → f (n + p) = bitOf b p) → fold r b = run r f n (8 * b.length)
  | [], r, f, n, _ => rfl
  | c :: b, r, f, n, h => by
    have e : 8 * (c :: b).length = 8 + 8 * b.length := by simp; omega
    rw [e, run_add, ← next_run r c f n (fun i hi => by
      rw [h i (by rw [e]; omega)]
      simp [bitOf, show i / 8 = 0 by omega, show i % 8 = i by omega])]
    show fold (next r c) b = _
    exact fold_run b _ f (n + 8) fun p hp => by
      rw [Nat.add_assoc, h (8 + p) (by rw [e]; omega)]
      simp [bitOf, show (8 + p) / 8 = p / 8 + 1 by omega, show (8 + p) % 8 = p % 8 by omega]

theorem bits_eq {b c : List (BitVec 8)} (hl : b.length = c.length) (h : ∀ p, p < 8 * b.length → bitOf b p = bitOf c p) : b = c := by
  apply List.ext_getElem hl
  intro i h1 h2
  apply BitVec.eq_of_getLsbD_eq
  intro q hq
  have := h (8 * i + q) (by omega)
  simpa [bitOf, show (8 * i + q) / 8 = i by omega, show (8 * i + q) % 8 = q by omega, List.getD, h1, h2] using this

/-- Texts that differ in up to 32 bits side by side have one sum only if they are one text. -/
theorem sum_unlike {b c : List (BitVec 8)} {at' : Nat} (hl : b.length = c.length) (hat : at' ≤ 8 * b.length) (h : ∀ p, p < 8 * b.length → (p < at' ∨ at' + 32 ≤ p) → bitOf b p = bitOf c p) : sum b = sum c ↔ b = c := by
  constructor
  · intro hs
    have hf : fold ones b ^^^ fold ones c = 0#32 := by
      have : fold ones b = fold ones c := by
        have := congrArg (· ^^^ ones) hs
        simpa [sum, BitVec.xor_assoc] using this
      rw [this, BitVec.xor_self]
    rw [fold_run b ones (bitOf b) 0 (fun p _ => by simp), fold_run c ones (bitOf c) 0 (fun p _ => by simp), ← hl, run_xor, BitVec.xor_self] at hf
    -- outside the text nothing
    have hg : run 0#32 (fun p => decide (p < 8 * b.length) && (bitOf b p ^^ bitOf c p)) 0 (8 * b.length) = 0#32 := by
      refine Eq.trans (run_congr _ _ _ fun p _ hp => ?_) hf
      simp [show p < 8 * b.length by omega]
    have := run_window (at' := at') (fun p hp => by
      by_cases hb : p < 8 * b.length
      · simp [h p hb (.inl hp)]
      · simp [hb]) (fun p hp => by
      by_cases hb : p < 8 * b.length
      · simp [h p hb (.inr hp)]
      · simp [hb]) hat hg
    refine bits_eq hl fun p hp => ?_
    have h' := this p hp
    simp only [hp, decide_true, Bool.true_and] at h'
    cases hb : bitOf b p <;> cases hc : bitOf c p <;> simp_all
  · intro e; rw [e]

/-- Bytes held against one another. -/
theorem bytes_loop (a b : List Int) (hl : a.length = b.length) (ha : a.length ≤ 4611686018427387904) : ∀ (d k i : Nat), i + d = a.length → d < k → a.take i = b.take i →
    keep_Bytes_l0 a b k (i : Int) = some (if a = b then .inl () else .inr false) := by
  intro d
  induction d with
  | zero =>
    intro k i hi hk ht
    obtain ⟨k, rfl⟩ : ∃ m, k = m + 1 := ⟨k - 1, by omega⟩
    unfold keep_Bytes_l0
    rw [if_neg (by simp; omega)]
    rw [List.take_of_length_le (by omega), List.take_of_length_le (by omega)] at ht
    rw [if_pos ht]
  | succ d ih =>
    intro k i hi hk ht
    obtain ⟨k, rfl⟩ : ∃ m, k = m + 1 := ⟨k - 1, by omega⟩
    unfold keep_Bytes_l0
    have hw : IntKind.i64.wrap ((i : Int) + 1) = ((i + 1 : Nat) : Int) := by rw [i64_small (by omega) (by omega)]; rfl
    have hia : i < a.length := by omega
    have hib : i < b.length := by omega
    have ga : a.getD (i : Int).toNat 0 = a[i] := by simp [List.getD, hia]
    have gb : b.getD (i : Int).toNat 0 = b[i] := by simp [List.getD, hib]
    rw [if_pos (by simp; omega), if_pos (by omega), if_pos (by omega), ga, gb]
    by_cases he : a[i] = b[i]
    · rw [if_neg (by simp [he]), hw]
      exact ih k (i + 1) (by omega) (by omega) (by rw [List.take_succ_eq_append_getElem hia, List.take_succ_eq_append_getElem hib, ht, he])
    · rw [if_pos (by simp [he]), if_neg (by intro e; subst e; exact he rfl)]

theorem bytes_eq (a b : List Int) (hl : a.length = b.length) (ha : a.length ≤ 4611686018427387904) : keep_Bytes a b = some (decide (a = b)) := by
  unfold keep_Bytes
  have h : keep_Bytes_l0 a b (((↑(List.length a) : Int) - (0 : Int)).toNat + 1) (0 : Int) = some (if a = b then .inl () else .inr false) := bytes_loop a b hl ha a.length _ 0 (by omega) (by simp) rfl
  rw [if_neg (by simp [hl]), h]
  by_cases he : a = b
  · simp [he]
  · simp [he]

theorem U_inj {n : Nat} {x y : BitVec n} (h : U x = U y) : x = y := by
  apply BitVec.eq_of_toNat_eq
  exact_mod_cast h
theorem mapU_inj {a b : List (BitVec 8)} : a.map U = b.map U ↔ a = b := by
  constructor
  · intro h
    exact List.map_inj_right (fun x y h => U_inj h) |>.1 h
  · intro h; rw [h]

/-- The loop that turns bits. -/
theorem turn_loop (b : List (BitVec 8)) (at_1 : Int) (bits : W) (at' : Nat) (hl : b.length ≤ 400) (hat : at' < 8 * b.length)
    (hv : IntKind.i64.wrap ((IntKind.u64.wrap at_1).tmod (IntKind.u64.wrap (IntKind.i64.wrap ((8 : Int) * (↑(List.length (b.map (U (n := 8)))) : Int))))) = (at' : Int)) :
    ∀ (d k i : Nat) (c : List (BitVec 8)), i + d = 32 → d < k → c.length = b.length → (∀ p, p < 8 * b.length → (p < at' ∨ at' + 32 ≤ p) → bitOf c p = bitOf b p) →
    ∃ c' : List (BitVec 8), law03_CrcUnlike_l0 (b.map U) at_1 (U bits) k (c.map U) (i : Int) = some (c'.map U) ∧ c'.length = b.length ∧ ∀ p, p < 8 * b.length → (p < at' ∨ at' + 32 ≤ p) → bitOf c' p = bitOf b p := by
  intro d
  induction d with
  | zero =>
    intro k i c hi hk hc hp
    obtain ⟨k, rfl⟩ : ∃ m, k = m + 1 := ⟨k - 1, by omega⟩
    unfold law03_CrcUnlike_l0
    rw [if_neg (by simp; omega)]
    exact ⟨c, rfl, hc, hp⟩
  | succ d ih =>
    intro k i c hi hk hc hp
    obtain ⟨k, rfl⟩ : ∃ m, k = m + 1 := ⟨k - 1, by omega⟩
    unfold law03_CrcUnlike_l0
    rw [hv]
    have h8 : IntKind.i64.wrap ((8 : Int) * (↑(List.length (b.map (U (n := 8)))) : Int)) = ((8 * b.length : Nat) : Int) := by rw [List.length_map, i64_small (by omega) (by omega)]; push_cast; rfl
    have hai : IntKind.i64.wrap ((at' : Int) + (i : Int)) = ((at' + i : Nat) : Int) := by rw [i64_small (by omega) (by omega)]; push_cast; rfl
    have hw : IntKind.i64.wrap ((i : Int) + 1) = ((i + 1 : Nat) : Int) := by rw [i64_small (by omega) (by omega)]; rfl
    rw [h8, hai, hw, if_pos (by simp; omega)]
    by_cases hin : at' + i < 8 * b.length
    · rw [if_pos (by simp; omega)]
      have hu : IntKind.u64.wrap (i : Int) = (i : Int) := u64_small (by omega) (by omega)
      rw [hu, if_pos (by omega)]
      have hs : shr .u32 (U bits) (i : Int) = U (bits >>> i) := shr32 bits i (by omega)
      have h1 : (1 : Int) = U (1#32) := by decide
      have hdiv : IntKind.i64.wrap (((at' + i : Nat) : Int).tdiv 8) = (((at' + i) / 8 : Nat) : Int) := by
        rw [Int.tdiv_eq_ediv_of_nonneg (by omega), i64_small (by omega) (by omega)]; push_cast; rfl
      have hmod : IntKind.u64.wrap (IntKind.i64.wrap (((at' + i : Nat) : Int).tmod 8)) = (((at' + i) % 8 : Nat) : Int) := by
        rw [Int.tmod_eq_emod_of_nonneg (by omega), i64_small (by omega) (by omega), u64_small (by omega) (by omega)]; push_cast; rfl
      have hmod' : IntKind.u64.wrap (((at' + i : Nat) : Int).tmod 8) = (((at' + i) % 8 : Nat) : Int) := by
        rw [Int.tmod_eq_emod_of_nonneg (by omega), u64_small (by omega) (by omega)]; push_cast; rfl
      split
      · rw [hdiv, if_pos (by rw [List.length_map]; omega)]
        first
          | rw [hmod]
          | rw [hmod']
        rw [if_pos (by omega)]
        have hj : (at' + i) / 8 < c.length := by omega
        have hg : (c.map U).getD (((at' + i) / 8 : Nat) : Int).toNat 0 = U c[(at' + i) / 8] := by rw [Int.toNat_natCast]; exact getD_U c _ hj
        have hsh : shl .u8 (1 : Int) (((at' + i) % 8 : Nat) : Int) = U ((1#8) <<< ((at' + i) % 8)) := by
          have : (1 : Int) = U (1#8) := by decide
          rw [this]
          exact shl_U (k := .u8) rfl _ _ _ (Int.toNat_natCast _) (by simp [IntKind.bits]; omega)
        rw [hg, hsh, bxor8, Int.toNat_natCast, ← List.map_set]
        refine ih k (i + 1) _ (by omega) (by omega) (by simpa using hc) fun p hp1 hp2 => ?_
        rw [← hp p hp1 hp2]
        unfold bitOf
        by_cases hpj : p / 8 = (at' + i) / 8
        · rw [hpj]
          simp only [List.getD, List.getElem?_set, hj, if_true, Option.getD_some, List.getElem?_eq_getElem, BitVec.getLsbD_xor, BitVec.getLsbD_shiftLeft]
          have hne : p % 8 ≠ (at' + i) % 8 := by omega
          have : (decide (p % 8 < 8) && !decide (p % 8 < (at' + i) % 8) && (1#8).getLsbD (p % 8 - (at' + i) % 8)) = false := by
            rw [BitVec.getLsbD_one]
            by_cases hlt : p % 8 < (at' + i) % 8
            · simp [hlt]
            · have : ¬ (p % 8 - (at' + i) % 8 = 0) := by omega
              simp [this]
          rw [this, Bool.xor_false]
        · simp only [List.getD, List.getElem?_set, if_neg (Ne.symm hpj)]
      · exact ih k (i + 1) c (by omega) (by omega) hc hp
    · rw [if_neg (by simp; omega)]
      exact ⟨c, rfl, hc, hp⟩

theorem CrcUnlike : ∀ (a0 : List Int) (a1 : Int) (a2 : Int), (∀ x ∈ a0, (Lit.int .u8 x).wf = true) → (Lit.int .i64 a1).wf = true → (Lit.int .u32 a2).wf = true → law03_CrcUnlike a0 a1 a2 = some true := by
  intro a0 a1 a2 h0 h1 h2
  obtain ⟨b, rfl⟩ := areU h0
  obtain ⟨bits, rfl⟩ : ∃ bits : W, a2 = U bits := isU (k := .u32) rfl h2
  unfold law03_CrcUnlike
  by_cases hl0 : b.length < 1
  · rw [if_pos (by simp; omega)]
  rw [if_neg (by simp; omega)]
  by_cases hl : b.length > 400
  · rw [if_pos (by simp; omega)]
  rw [if_neg (by simp; omega), twin _ (by simp [maxN]; omega)]
  have h8 : IntKind.i64.wrap ((8 : Int) * (↑(List.length (b.map (U (n := 8)))) : Int)) = ((8 * b.length : Nat) : Int) := by rw [List.length_map, i64_small (by omega) (by omega)]; push_cast; rfl
  have hu8 : IntKind.u64.wrap ((8 * b.length : Nat) : Int) = ((8 * b.length : Nat) : Int) := u64_small (by omega) (by omega)
  have hmn : 0 ≤ IntKind.u64.wrap a1 := by rw [wrap_U rfl]; exact Int.emod_nonneg _ (by decide)
  obtain ⟨at', hat, hv⟩ : ∃ at' : Nat, at' < 8 * b.length ∧ IntKind.i64.wrap ((IntKind.u64.wrap a1).tmod (IntKind.u64.wrap (IntKind.i64.wrap ((8 : Int) * (↑(List.length (b.map (U (n := 8)))) : Int))))) = (at' : Int) := by
    rw [h8, hu8, Int.tmod_eq_emod_of_nonneg hmn]
    have q1 := Int.emod_nonneg (IntKind.u64.wrap a1) (show ((8 * b.length : Nat) : Int) ≠ 0 by omega)
    have q2 := Int.emod_lt_of_pos (IntKind.u64.wrap a1) (show (0 : Int) < ((8 * b.length : Nat) : Int) by omega)
    refine ⟨(IntKind.u64.wrap a1 % ((8 * b.length : Nat) : Int)).toNat, by omega, ?_⟩
    rw [i64_small (by omega) (by omega)]
    omega
  obtain ⟨c', hc1, hc2, hc3⟩ := turn_loop b a1 bits at' (by omega) hat hv 32 (((32 : Int) - (0 : Int)).toNat + 1) 0 b (by omega) (by decide) rfl (fun p _ _ => rfl)
  rw [show (((0 : Nat) : Int)) = (0 : Int) from rfl] at hc1
  simp only [Option.bind_some]
  rw [if_pos (by rw [h8, hu8]; omega), hc1]
  have hun := sum_unlike (b := b) (c := c') (at' := at') hc2.symm (by omega) fun p hp1 hp2 => (hc3 p hp1 hp2).symm
  have hb := bytes_eq (b.map U) (c'.map U) (by simp [hc2]) (by simp; omega)
  simp only [Option.bind_some, sum_eq b (by omega), sum_eq c' (by omega), hb]
  rw [if_pos (by
    rw [beq_iff_eq, Bool.eq_iff_iff, beq_iff_eq, decide_eq_true_eq, mapU_inj, ← hun]
    exact ⟨fun h => U_inj h, fun h => by rw [h]⟩)]
  simp only [wakes, Option.bind_some]
end Go.Cr
