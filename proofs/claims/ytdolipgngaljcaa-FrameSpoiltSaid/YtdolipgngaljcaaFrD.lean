/- FrameSpoilt. -/
import Derived.Test.YtdolipgngaljcaaFrC
namespace Go.Fr
open Go Go.Gw Go.Wd Go.Cr Go.Proofs.Sa.D
/-- one bit turned -/
theorem bit_turn (c : List (BitVec 8)) (q : Nat) (hq : q < 8 * c.length) (p : Nat) :
    bitOf (c.set (q / 8) (c[q / 8]'(by omega) ^^^ ((1#8) <<< (q % 8)))) p = if p = q then !(bitOf c p) else bitOf c p := by
  have hj : q / 8 < c.length := by omega
  unfold bitOf
  by_cases hpj : p / 8 = q / 8
  · rw [hpj]
    simp only [List.getD, List.getElem?_set, hj, if_true, Option.getD_some, List.getElem?_eq_getElem, BitVec.getLsbD_xor, BitVec.getLsbD_shiftLeft]
    by_cases hne : p % 8 = q % 8
    · have hpq : p = q := by omega
      rw [if_pos hpq, hne]
      have : (decide (q % 8 < 8) && !decide (q % 8 < q % 8) && (1#8).getLsbD (q % 8 - q % 8)) = true := by
        rw [Nat.sub_self]
        simp
        omega
      rw [this, Bool.xor_true]
    · have hpq : p ≠ q := fun e => hne (by rw [e])
      rw [if_neg hpq]
      have : (decide (p % 8 < 8) && !decide (p % 8 < q % 8) && (1#8).getLsbD (p % 8 - q % 8)) = false := by
        rw [BitVec.getLsbD_one]
        by_cases hlt : p % 8 < q % 8
        · simp [hlt]
        · have : ¬ (p % 8 - q % 8 = 0) := by omega
          simp [this]
      rw [this, Bool.xor_false]
  · have hpq : p ≠ q := fun e => hpj (by rw [e])
    rw [if_neg hpq]
    simp only [List.getD, List.getElem?_set, if_neg (Ne.symm hpj)]
theorem set_behind (H l : List Int) (j : Nat) (v : Int) : (H ++ l).set (H.length + j) v = H ++ l.set j v := by
  rw [List.set_append_right _ _ (by omega)]; congr 2; omega
theorem spoil_loop (k0 : Int) (H : List Int) (hH : H.length = 7) (b : List (BitVec 8)) (at_1 : Int) (bits : W) (at' : Nat) (hl : b.length ≤ 300) (hat : at' < 8 * b.length)
    (hv : IntKind.i64.wrap ((IntKind.u64.wrap at_1).tmod (IntKind.u64.wrap (IntKind.i64.wrap ((8 : Int) * (↑(List.length (b.map (U (n := 8)))) : Int))))) = (at' : Int)) :
    ∀ (d i : Nat) (t : Bool) (c : List (BitVec 8)), i + d = 32 → c.length = b.length → (∀ p, p < 8 * b.length → (p < at' ∨ at' + i ≤ p) → bitOf c p = bitOf b p) →
      ((t = false ∧ c = b) ∨ (t = true ∧ ∃ p, p < at' + i ∧ p < 8 * b.length ∧ bitOf c p ≠ bitOf b p)) →
    ∃ (t' : Bool) (c' : List (BitVec 8)), law15_FrameSpoilt_l0 k0 (b.map U) at_1 (U bits) (d + 1) (H ++ c.map U) t (i : Int) = some (H ++ c'.map U, t') ∧ c'.length = b.length ∧ (∀ p, p < 8 * b.length → (p < at' ∨ at' + 32 ≤ p) → bitOf c' p = bitOf b p) ∧
      ((t' = false ∧ c' = b) ∨ (t' = true ∧ c' ≠ b)) := by
  have fin : ∀ (t : Bool) (c : List (BitVec 8)) (i : Nat), ((t = false ∧ c = b) ∨ (t = true ∧ ∃ p, p < at' + i ∧ p < 8 * b.length ∧ bitOf c p ≠ bitOf b p)) → ((t = false ∧ c = b) ∨ (t = true ∧ c ≠ b)) := by
    rintro t c i (h | ⟨h, p, _, _, hp⟩)
    · exact .inl h
    · exact .inr ⟨h, fun e => hp (by rw [e])⟩
  intro d
  induction d with
  | zero =>
    intro i t c hi hc hp ht
    have : i = 32 := by omega
    subst this
    exact ⟨t, c, by rw [law15_FrameSpoilt_l0, if_neg (by decide)], hc, hp, fin t c _ ht⟩
  | succ d ih =>
    intro i t c hi hc hp ht
    have h8 : IntKind.i64.wrap ((8 : Int) * (↑(List.length (b.map (U (n := 8)))) : Int)) = ((8 * b.length : Nat) : Int) := by rw [List.length_map, i64_small (by omega) (by omega)]; push_cast; rfl
    have hai : IntKind.i64.wrap ((at' : Int) + (i : Int)) = ((at' + i : Nat) : Int) := by rw [i64_small (by omega) (by omega)]; push_cast; rfl
    have hw : IntKind.i64.wrap ((i : Int) + 1) = ((i + 1 : Nat) : Int) := by rw [i64_small (by omega) (by omega)]; rfl
    rw [law15_FrameSpoilt_l0, hv, h8, hai, hw, if_pos (decide_eq_true (by omega))]
    by_cases hin : at' + i < 8 * b.length
    · rw [if_pos (decide_eq_true (by omega))]
      have hu : IntKind.u64.wrap (i : Int) = (i : Int) := u64_small (by omega) (by omega)
      rw [hu, if_pos (by omega)]
      have hs : shr .u32 (U bits) (i : Int) = U (bits >>> i) := shr32 bits i (by omega)
      have hdiv : IntKind.i64.wrap (((at' + i : Nat) : Int).tdiv 8) = (((at' + i) / 8 : Nat) : Int) := by
        rw [Int.tdiv_eq_ediv_of_nonneg (by omega), i64_small (by omega) (by omega)]; push_cast; rfl
      have hmod : IntKind.u64.wrap (((at' + i : Nat) : Int).tmod 8) = (((at' + i) % 8 : Nat) : Int) := by
        rw [Int.tmod_eq_emod_of_nonneg (by omega), u64_small (by omega) (by omega)]; push_cast; rfl
      have h7 : IntKind.i64.wrap ((7 : Int) + (((at' + i) / 8 : Nat) : Int)) = ((H.length + (at' + i) / 8 : Nat) : Int) := by rw [i64_small (by omega) (by omega)]; omega
      rw [hdiv, hmod, h7]
      split
      · have hj : (at' + i) / 8 < c.length := by omega
        have hlen : (H ++ c.map (U (n := 8))).length = H.length + c.length := by rw [List.length_append, List.length_map]
        have x : (((H.length + (at' + i) / 8 : Nat) : Int)).toNat = H.length + (at' + i) / 8 := rfl
        have hg : (H ++ c.map U).getD (H.length + (at' + i) / 8) 0 = U c[(at' + i) / 8] := by
          rw [getD_at]; exact getD_U c _ hj
        have hsh : shl .u8 (1 : Int) (((at' + i) % 8 : Nat) : Int) = U ((1#8) <<< ((at' + i) % 8)) := by
          have : (1 : Int) = U (1#8) := by decide
          rw [this]
          exact shl_U (k := .u8) rfl _ _ _ (Int.toNat_natCast _) (by simp [IntKind.bits]; omega)
        rw [hlen, if_pos ⟨by omega, by omega⟩, if_pos (by omega), x, hg, hsh, bxor8, set_behind, ← List.map_set]
        have hbt := bit_turn c (at' + i) (by omega)
        refine ih (i + 1) true _ (by omega) (by simpa using hc) (fun p hp1 hp2 => ?_) (.inr ⟨rfl, at' + i, by omega, hin, ?_⟩)
        · rw [hbt p, if_neg (by omega)]
          exact hp p hp1 (by omega)
        · rw [hbt, if_pos rfl, hp _ hin (.inr (Nat.le_refl _))]
          simp
      · refine ih (i + 1) t c (by omega) hc (fun p hp1 hp2 => hp p hp1 (by omega)) ?_
        rcases ht with h | ⟨h, p, h1, h2, h3⟩
        · exact .inl h
        · exact .inr ⟨h, p, by omega, h2, h3⟩
    · rw [if_neg (by simp; omega)]
      exact ⟨t, c, rfl, hc, fun p hp1 hp2 => hp p hp1 (by omega), fin t c _ ht⟩
theorem sb_inj {x y : Int} (hx : 0 ≤ x) (hx' : x < 4294967296) (hy : 0 ≤ y) (hy' : y < 4294967296) (h : sb x = sb y) : x = y := by
  unfold sb at h
  simp only [List.cons.injEq, and_true] at h
  rw [shr_u _ x 24 16777216 (by decide) (by decide), shr_u _ y 24 16777216 (by decide) (by decide), shr_u _ x 16 65536 (by decide) (by decide), shr_u _ y 16 65536 (by decide) (by decide), shr_u _ x 8 256 (by decide) (by decide), shr_u _ y 8 256 (by decide) (by decide),
    wrap8, wrap8, wrap8, wrap8, wrap8, wrap8, wrap8, wrap8] at h
  omega
theorem bitOf_app (h c : List (BitVec 8)) (p : Nat) : bitOf (h ++ c) p = if p < 8 * h.length then bitOf h p else bitOf c (p - 8 * h.length) := by
  unfold bitOf
  by_cases hp : p < 8 * h.length
  · rw [if_pos hp]
    have : p / 8 < h.length := by omega
    simp only [List.getD, List.getElem?_append_left this]
  · rw [if_neg hp]
    have h1 : h.length ≤ p / 8 := by omega
    have h2 : (p - 8 * h.length) / 8 = p / 8 - h.length := by omega
    have h3 : (p - 8 * h.length) % 8 = p % 8 := by omega
    simp only [List.getD, List.getElem?_append_right h1, h2, h3]
theorem FrameSpoilt (k : Int) (d : List Int) (a1 a2 : Int) (_w0 : (Lit.int .i64 k).wf = true) (hB : ∀ x ∈ d, (Lit.int .u8 x).wf = true) (_w1 : (Lit.int .i64 a1).wf = true) (h2 : (Lit.int .u32 a2).wf = true) : law15_FrameSpoilt k d a1 a2 = some true := by
  obtain ⟨b, rfl⟩ := areU hB
  obtain ⟨bits, rfl⟩ : ∃ bits : W, a2 = U bits := isU (k := .u32) rfl h2
  unfold law15_FrameSpoilt
  rcases rec_cases k (b.map U) with ⟨c, hc, hr⟩ | ⟨hk, hl, hr⟩
  · rw [hr, obs, if_pos hc]
  rw [hr, obs, if_neg (by decide)]
  have bl : (b.map (U (n := 8))).length = b.length := List.length_map _
  by_cases h1 : b.length < 1
  · rw [if_pos (decide_eq_true (by omega))]
  rw [if_neg (by simp; omega)]
  by_cases h3 : b.length > 300
  · rw [if_pos (decide_eq_true (by omega))]
  rw [if_neg (by simp; omega)]
  have hp := put0 hk hB hl
  have h8 : IntKind.i64.wrap ((8 : Int) * (↑(List.length (b.map (U (n := 8)))) : Int)) = ((8 * b.length : Nat) : Int) := by rw [List.length_map, i64_small (by omega) (by omega)]; push_cast; rfl
  have hu8 : IntKind.u64.wrap ((8 * b.length : Nat) : Int) = ((8 * b.length : Nat) : Int) := u64_small (by omega) (by omega)
  obtain ⟨at', hat, hv⟩ : ∃ at' : Nat, at' < 8 * b.length ∧ IntKind.i64.wrap ((IntKind.u64.wrap a1).tmod (IntKind.u64.wrap (IntKind.i64.wrap ((8 : Int) * (↑(List.length (b.map (U (n := 8)))) : Int))))) = (at' : Int) := by
    rw [h8, hu8]; exact mod_u a1 _ (by omega) (by omega)
  -- the frame: seven bytes, the data
  have hfr : frm k (b.map U) = (hd k (b.map (U (n := 8))).length ++ sb (crcN (hd k (b.map (U (n := 8))).length ++ b.map U))) ++ b.map U := by unfold frm; rw [List.append_assoc]
  have hH : (hd k (b.map (U (n := 8))).length ++ sb (crcN (hd k (b.map (U (n := 8))).length ++ b.map U))).length = 7 := rfl
  obtain ⟨t', c', hc1, hc2, hc3, hc4⟩ := spoil_loop k _ hH b a1 bits at' (by omega) hat hv 32 0 false b (by omega) rfl (fun p _ _ => rfl) (.inl ⟨rfl, rfl⟩)
  rw [← hfr] at hc1
  have cl : (c'.map (U (n := 8))).length = (b.map (U (n := 8))).length := by rw [List.length_map, List.length_map, hc2]
  have cB : Byt (c'.map U) := fun x hx => by
    obtain ⟨y, _, rfl⟩ := List.mem_map.1 hx
    rw [wf8]
    have := y.isLt
    simp only [U]; omega
  -- what is got of what was turned
  have hg : frame_Get (hd k (b.map (U (n := 8))).length ++ sb (crcN (hd k (b.map (U (n := 8))).length ++ b.map U)) ++ c'.map U) 0 =
      some (if crcN (hd k (b.map (U (n := 8))).length ++ c'.map U) = crcN (hd k (b.map (U (n := 8))).length ++ b.map U) then (k, c'.map U, ((7 + b.length : Nat) : Int), 0) else (0, [], 0, 6)) := by
    have eB : Byt (hd k (b.map (U (n := 8))).length ++ sb (crcN (hd k (b.map (U (n := 8))).length ++ b.map U)) ++ c'.map U) := ((hd_byt _ _).app (sb_byt _)).app cB
    have el : (hd k (b.map (U (n := 8))).length ++ sb (crcN (hd k (b.map (U (n := 8))).length ++ b.map U)) ++ c'.map U).length = 7 + b.length := by rw [List.length_append, hH, cl, bl]
    refine (get_n eB (by omega) 0 (by omega)).trans (congrArg some ?_)
    have r1 := (crc_ok ((hd_byt k (b.map (U (n := 8))).length).app hB) (by simp [hd]; omega)).2.2
    have r2 := (crc_ok ((hd_byt k (b.map (U (n := 8))).length).app cB) (by simp [hd]; omega)).2.2
    have g0 : (hd k (b.map (U (n := 8))).length ++ sb (crcN (hd k (b.map (U (n := 8))).length ++ b.map U)) ++ c'.map U).getD 0 0 = k := kin_wrap hk
    have g1 : (hd k (b.map (U (n := 8))).length ++ sb (crcN (hd k (b.map (U (n := 8))).length ++ b.map U)) ++ c'.map U).getD (0 + 1) 0 = IntKind.u8.wrap (shr .i64 (b.map (U (n := 8))).length 8) := rfl
    have g2 : (hd k (b.map (U (n := 8))).length ++ sb (crcN (hd k (b.map (U (n := 8))).length ++ b.map U)) ++ c'.map U).getD (0 + 2) 0 = IntKind.u8.wrap (b.map (U (n := 8))).length := rfl
    have lb := len_bytes (b.map (U (n := 8))).length hl
    unfold Gn
    rw [g0, g1, g2, lb, el, if_neg (by omega), if_pos hk, if_neg (by omega)]
    have t1 : ((hd k (b.map (U (n := 8))).length ++ sb (crcN (hd k (b.map (U (n := 8))).length ++ b.map U)) ++ c'.map U).take (0 + 7 + (b.map (U (n := 8))).length)).drop (0 + 7) = c'.map U := by
      rw [List.take_of_length_le (by omega)]; exact List.drop_left' hH
    have t2 : ((hd k (b.map (U (n := 8))).length ++ sb (crcN (hd k (b.map (U (n := 8))).length ++ b.map U)) ++ c'.map U).take (0 + 7 + (b.map (U (n := 8))).length)).drop 0 = hd k (b.map (U (n := 8))).length ++ (sb (crcN (hd k (b.map (U (n := 8))).length ++ b.map U)) ++ c'.map U) := by
      rw [List.take_of_length_le (by omega), List.drop_zero, List.append_assoc]
    rw [t1, t2]
    have e3 : ((0 + 7 + (b.map (U (n := 8))).length : Nat) : Int) = ((7 + b.length : Nat) : Int) := by rw [bl]
    rw [e3]
    unfold frm
    rw [cl]
    by_cases he : crcN (hd k (b.map (U (n := 8))).length ++ c'.map U) = crcN (hd k (b.map (U (n := 8))).length ++ b.map U)
    · rw [if_pos he, he, if_pos rfl]
    · rw [if_neg he, if_neg]
      intro h
      have h' := List.append_cancel_left h
      exact he (sb_inj r2.1 r2.2 r1.1 r1.2 (List.append_cancel_right h'))
  -- unlike sums of unlike data
  have hun : crcN (hd k (b.map (U (n := 8))).length ++ c'.map U) = crcN (hd k (b.map (U (n := 8))).length ++ b.map U) ↔ c' = b := by
    obtain ⟨h, hh⟩ := areU (hd_byt k (b.map (U (n := 8))).length)
    have h3' : h.length = 3 := by
      have e := congrArg List.length hh
      rw [show (hd k (b.map (U (n := 8))).length).length = 3 from rfl] at e
      simpa using e.symm
    rw [hh, ← List.map_append, ← List.map_append]
    have q : ∀ l : List (BitVec 8), l.length ≤ 900000 → crcN (l.map U) = U (sum l) := fun l hl => by unfold crcN; rw [sum_eq l (by omega)]; rfl
    rw [q _ (by rw [List.length_append]; omega), q _ (by rw [List.length_append]; omega)]
    have su := sum_unlike (b := h ++ c') (c := h ++ b) (at' := 24 + at') (by rw [List.length_append, List.length_append, hc2]) (by rw [List.length_append]; omega) (fun p hp1 hp2 => by
      rw [bitOf_app, bitOf_app]
      by_cases hp : p < 8 * h.length
      · rw [if_pos hp, if_pos hp]
      · rw [if_neg hp, if_neg hp]
        rw [List.length_append] at hp1
        exact hc3 _ (by omega) (by omega))
    constructor
    · intro e
      exact List.append_cancel_left (su.1 (U_inj e))
    · rintro rfl; rfl
  have e7 : IntKind.i64.wrap ((7 : Int) + ((b.map (U (n := 8))).length : Int)) = ((frm k (b.map U)).length : Int) := by rw [i64s _ (by omega) (by omega), frm_len]; omega
  have c0 : ((8 * b.length : Nat) : Int) ≠ 0 := by omega
  have hc1 : law15_FrameSpoilt_l0 k (b.map U) a1 (U bits) (((32 : Int) - (0 : Int)).toNat + 1) (frm k (b.map U)) false 0 = _ := hc1
  rw [hp, obs]
  simp only [bne_n, e7, h8, hu8, if_pos c0, hc1, obs, hg]
  have el : (hd k (b.map (U (n := 8))).length ++ sb (crcN (hd k (b.map (U (n := 8))).length ++ b.map U)) ++ c'.map U).length = 7 + b.length := by rw [List.length_append, hH, cl, bl]
  have bk := bytes_ok (b.map U) (b.map U) (by omega)
  rw [decide_eq_true rfl] at bk
  rcases hc4 with ⟨rfl, rfl⟩ | ⟨rfl, hne⟩
  · rw [if_pos (hun.2 rfl)]
    simp only [el, beq_n, bk, obs, wakes15, Bool.not_false]
    rfl
  · rw [if_neg (fun e => hne (hun.1 e))]
    simp only [wakes15, obs]
    rfl
end Go.Fr
