/- FrameSum, FrameEnds, FrameRest, FrameNoughts. -/
import Derived.Test.YtdolipgngaljcaaFrB
namespace Go.Fr
open Go Go.Gw Go.Wd Go.Proofs.Sa.D
theorem mod_u (x : Int) (n : Nat) (h0 : 0 < n) (h1 : n < 1000000) : ∃ m : Nat, m < n ∧ IntKind.i64.wrap ((IntKind.u64.wrap x).tmod (n : Int)) = (m : Int) := Sh.modN x n h0 h1
theorem i64n (n : Nat) (h : n < 1000000) : IntKind.i64.wrap (n : Int) = (n : Int) := i64s _ (by omega) (by omega)
theorem beq_n (n : Int) : (n == n) = true := by simp
theorem bne_n (n : Int) : (n != n) = false := by simp
theorem put0 {k : Int} {d : List Int} (hk : Kin k) (hd : Byt d) (hl : d.length ≤ 2000) : frame_Put [] k d = some (frm k d, 0) := by
  have := put_ok (b := []) hk hd hl (by simp)
  rwa [List.nil_append] at this
theorem FrameSum (k : Int) (d : List Int) (_w0 : (Lit.int .i64 k).wf = true) (hB : ∀ x ∈ d, (Lit.int .u8 x).wf = true) : law15_FrameSum k d = some true := by
  unfold law15_FrameSum
  rcases rec_cases k d with ⟨c, hc, hr⟩ | ⟨hk, hl, hr⟩
  · rw [hr, obs, if_pos hc]
  rw [hr, obs, if_neg (by decide)]
  by_cases h3 : d.length > 300
  · rw [if_pos (decide_eq_true (by omega))]
  rw [if_neg (by simp; omega)]
  have hp := put0 hk hB hl
  have e7 : IntKind.i64.wrap ((7 : Int) + (d.length : Int)) = ((frm k d).length : Int) := by rw [i64s _ (by omega) (by omega), frm_len]; omega
  have hn : 7 ≤ (frm k d).length := by rw [frm_len]; omega
  have c1 : 0 ≤ (0 : Int) ∧ (0 : Int) ≤ 3 ∧ (3 : Int) ≤ ((frm k d).length : Int) := by omega
  have q0 : 0 ≤ (0 : Int) ∧ (0 : Int) < ((frm k d).length : Int) := by omega
  have q1 : 0 ≤ (1 : Int) ∧ (1 : Int) < ((frm k d).length : Int) := by omega
  have q2 : 0 ≤ (2 : Int) ∧ (2 : Int) < ((frm k d).length : Int) := by omega
  have q3 : 0 ≤ (3 : Int) ∧ (3 : Int) < ((frm k d).length : Int) := by omega
  have q4 : 0 ≤ (4 : Int) ∧ (4 : Int) < ((frm k d).length : Int) := by omega
  have q5 : 0 ≤ (5 : Int) ∧ (5 : Int) < ((frm k d).length : Int) := by omega
  have q6 : 0 ≤ (6 : Int) ∧ (6 : Int) < ((frm k d).length : Int) := by omega
  have q7 : 0 ≤ (7 : Int) ∧ (7 : Int) ≤ ((frm k d).length : Int) ∧ ((frm k d).length : Int) ≤ ((frm k d).length : Int) := by omega
  have t3 : ((frm k d).take 3).drop 0 = hd k d.length := rfl
  have t7 : ((frm k d).take (((frm k d).length : Int)).toNat).drop 7 = d := by rw [Int.toNat_natCast, List.take_length]; rfl
  have tw := Sh.twin (hd k d.length) (by simp [hd])
  have cm : (hd k d.length ++ d).length ≤ maxN := by simp [hd]; unfold maxN; omega
  have hc := (crc_ok ((hd_byt k d.length).app hB) (by simp [hd]; omega)).1
  have b0 : (frm k d).getD 0 0 = k := by have := byte0 k d []; rw [List.append_nil, kin_wrap hk] at this; exact this
  have b1 : (frm k d).getD 1 0 = IntKind.u8.wrap (shr .i64 d.length 8) := rfl
  have b2 : (frm k d).getD 2 0 = IntKind.u8.wrap d.length := rfl
  have b3 : (frm k d).getD 3 0 = IntKind.u8.wrap (shr .u32 (crcN (hd k d.length ++ d)) (24 : Int)) := rfl
  have b4 : (frm k d).getD 4 0 = IntKind.u8.wrap (shr .u32 (crcN (hd k d.length ++ d)) (16 : Int)) := rfl
  have b5 : (frm k d).getD 5 0 = IntKind.u8.wrap (shr .u32 (crcN (hd k d.length ++ d)) (8 : Int)) := rfl
  have b6 : (frm k d).getD 6 0 = IntKind.u8.wrap (crcN (hd k d.length ++ d)) := rfl
  have kw : IntKind.i64.wrap k = k := by rcases hk with rfl | rfl <;> decide
  have jn : bor .i64 (shl .i64 (IntKind.i64.wrap (IntKind.u8.wrap (shr .i64 (d.length : Int) 8))) (8 : Int)) (IntKind.i64.wrap (IntKind.u8.wrap (d.length : Int))) = (d.length : Int) := by
    have h1 := wf8.1 (wf_wrap8 (shr .i64 (d.length : Int) 8))
    have h2 := wf8.1 (wf_wrap8 (d.length : Int))
    have j := join2 (IntKind.u8.wrap (shr .i64 (d.length : Int) 8)).toNat (IntKind.u8.wrap (d.length : Int)).toNat (by omega) (by omega)
    rw [Int.toNat_of_nonneg h1.1, Int.toNat_of_nonneg h2.1, len_bytes _ hl] at j
    exact j
  have bk := bytes_ok d d (by omega)
  rw [decide_eq_true rfl] at bk
  rw [hp, obs]
  simp only [bne_n, e7, if_pos c1, t3, tw, obs, if_pos cm, hc, if_pos q0, if_pos q1, if_pos q2, if_pos q3, if_pos q4, if_pos q5, if_pos q6, if_pos q7, b0, b1, b2, b3, b4, b5, b6, kw, jn, beq_n, t7, bk, wakes15]
  rfl
theorem FrameEnds (a0 a1 : Int) (_w0 : (Lit.int .i64 a0).wf = true) (_w1 : (Lit.int .i64 a1).wf = true) : law15_FrameEnds a0 a1 = some true := by
  unfold law15_FrameEnds
  obtain ⟨m, hm, hk⟩ := mod_u a0 2 (by decide) (by decide)
  have hk : IntKind.i64.wrap ((IntKind.u64.wrap a0).tmod (2 : Int)) = (m : Int) := hk
  have e2 : IntKind.i64.wrap ((2000 : Int) + (m : Int)) = ((2000 + m : Nat) : Int) := by rw [i64s _ (by omega) (by omega)]; omega
  have x2 : (((2000 + m : Nat) : Int)).toNat = 2000 + m := rfl
  rw [hk, e2, x2, if_pos ⟨by omega, by unfold maxN; omega⟩]
  have hk1 : Kin 1 := .inl rfl
  have zl : (List.replicate (2000 + m) (0 : Int)).length = 2000 + m := List.length_replicate
  have zb : Byt (List.replicate (2000 + m) (0 : Int)) := Byt.rep _
  generalize List.replicate (2000 + m) (0 : Int) = z at *
  have main : ∀ (r3 : Int) (a2 : List Int), frame_Put [] 1 z = some (a2, r3) →
      (decide ((m : Int) > 0) = true ∧ r3 = 2 ∧ a2 = []) ∨ (¬ decide ((m : Int) > 0) = true ∧ r3 = 0 ∧ ∃ x : List Int, x.length = 2000 ∧ frame_Get a2 0 = some (1, x, (a2.length : Int), 0)) := by
    intro r3 a2 hp
    by_cases h0 : m = 0
    · right
      rw [put0 hk1 zb (by omega)] at hp
      simp only [Option.some.injEq, Prod.mk.injEq] at hp
      obtain ⟨rfl, rfl⟩ := hp
      refine ⟨by simp; omega, rfl, z, by omega, ?_⟩
      have g := get_n (frm_byt 1 zb) (by rw [frm_len]; omega) 0 (by omega)
      have g2 := gn_frame [] [] (d := z) hk1 (by omega)
      rw [List.nil_append, List.append_nil] at g2
      have e : ((([] : List Int).length + 7 + z.length : Nat) : Int) = ((frm 1 z).length : Int) := by rw [frm_len]; simp; omega
      rw [e] at g2
      exact g.trans (congrArg some g2)
    · left
      rw [put_long hk1 (by omega)] at hp
      simp only [Option.some.injEq, Prod.mk.injEq] at hp
      obtain ⟨rfl, rfl⟩ := hp
      exact ⟨decide_eq_true (by omega), rfl, rfl⟩
  obtain ⟨a2, r3, hp⟩ : ∃ a2 r3, frame_Put [] 1 z = some (a2, r3) := by
    by_cases h0 : m = 0
    · exact ⟨_, _, put0 hk1 zb (by omega)⟩
    · exact ⟨_, _, put_long hk1 (by omega)⟩
  obtain ⟨a6, r7, hp2, hcase⟩ : ∃ a6 r7, frame_Put [] a1 [] = some (a6, r7) ∧ ((Kin a1 ∧ r7 = 0) ∨ (¬ Kin a1 ∧ r7 = 1 ∧ a6 = [])) := by
    by_cases h : Kin a1
    · exact ⟨_, _, put0 h Byt.nil (by simp), .inl ⟨h, rfl⟩⟩
    · exact ⟨_, _, put_bad h, .inr ⟨h, rfl, rfl⟩⟩
  rw [hp, obs]
  simp only
  rw [hp2, obs]
  simp only
  have fin : (if decide ((m : Int) > 0) = true then if (r3 == 2) = true then if ((a2.length : Int) == 0) = true then law15_wakes.bind (fun b20 => some b20) else some false else some false
      else (frame_Get a2 0).bind (fun (r24, a25, r26, r27) => if (r3 == 0) = true then if (r27 == 0) = true then if (r26 == (a2.length : Int)) = true then if ((a25.length : Int) == 2000) = true then law15_wakes.bind (fun b34 => some b34) else some false else some false else some false else some false)) = some true := by
    rcases main r3 a2 hp with ⟨h1, rfl, rfl⟩ | ⟨h1, rfl, x, hx, hg⟩
    · rw [if_pos h1, wakes15, obs]; rfl
    · rw [if_neg h1, hg, obs, wakes15]
      simp only [beq_n, obs, hx]
      rfl
  rcases hcase with ⟨hk2, rfl⟩ | ⟨hk2, rfl, rfl⟩
  · rcases hk2 with rfl | rfl
    · rw [if_pos (by decide), if_neg (by decide), if_neg (by decide)]; exact fin
    · rw [if_neg (by decide), if_neg (by decide), if_neg (by decide)]; exact fin
  · have n1 : ¬ (a1 == (1 : Int)) = true := by unfold Kin at hk2; simp; omega
    have n2 : (a1 == (2 : Int)) = false := by unfold Kin at hk2; simp; omega
    rw [if_neg n1, n2, if_neg (by decide), if_pos (by decide), if_neg (by decide), if_neg (by decide)]; exact fin
theorem FrameRest (a : List Int) (k : Int) (d c : List Int) (hA : ∀ x ∈ a, (Lit.int .u8 x).wf = true) (_w0 : (Lit.int .i64 k).wf = true) (hB : ∀ x ∈ d, (Lit.int .u8 x).wf = true) (hC : ∀ x ∈ c, (Lit.int .u8 x).wf = true) : law15_FrameRest a k d c = some true := by
  unfold law15_FrameRest
  by_cases ha : a.length > 300
  · rw [if_pos (decide_eq_true (by omega))]
  rw [if_neg (by simp; omega)]
  by_cases hc : c.length > 300
  · rw [if_pos (decide_eq_true (by omega))]
  rw [if_neg (by simp; omega)]
  by_cases h3 : d.length > 300
  · rw [if_pos (decide_eq_true (by omega))]
  rw [if_neg (by simp; omega)]
  rcases rec_cases k d with ⟨c, hc, hr⟩ | ⟨hk, hl, hr⟩
  · rw [hr, obs, if_pos hc]
  rw [hr, obs, if_neg (by decide)]
  have hp := put_ok (b := a) hk hB hl (by omega)
  have bl : (a ++ frm k d).length = a.length + 7 + d.length := by rw [List.length_append, frm_len]; omega
  have bB : Byt (a ++ frm k d) := Byt.app hA (frm_byt k hB)
  have g1 : frame_Get (a ++ frm k d ++ c) (a.length : Int) = some (k, d, ((a ++ frm k d).length : Int), 0) := by
    rw [get_n (bB.app hC) (by rw [List.length_append]; omega) _ (by rw [List.length_append]; omega), List.append_assoc, gn_frame a c hk hl, bl]
  have g2 : frame_Get (frm k d) 0 = some (k, d, ((7 + d.length : Nat) : Int), 0) := by
    have g := gn_frame [] [] (d := d) hk hl
    rw [List.nil_append, List.append_nil] at g
    have e : ((([] : List Int).length + 7 + d.length : Nat) : Int) = ((7 + d.length : Nat) : Int) := by simp
    rw [e] at g
    exact (get_n (frm_byt k hB) (by rw [frm_len]; omega) 0 (by omega)).trans (congrArg some g)
  have e1 : IntKind.i64.wrap (((a ++ frm k d).length : Int) + 1) = (((a ++ frm k d).length : Int) + 1) := i64s _ (by omega) (by omega)
  have g3 : frame_Get (a ++ frm k d) (((a ++ frm k d).length : Int) + 1) = some (0, [], 0, 1) := by
    rw [get_ok bB (by omega)]; unfold G; rw [if_neg (by omega)]
  have g4 : frame_Get (a ++ frm k d) (-1) = some (0, [], 0, 1) := by
    rw [get_ok bB (by omega)]; unfold G; rw [if_neg (by omega)]
  have e2 : IntKind.i64.wrap (((a ++ frm k d).length : Int) - (a.length : Int)) = ((7 + d.length : Nat) : Int) := by rw [i64s _ (by omega) (by omega)]; omega
  have c0 : ¬ decide (((a ++ frm k d).length : Int) < (a.length : Int)) = true := by simp; omega
  have c1 : 0 ≤ (0 : Int) ∧ (0 : Int) ≤ (a.length : Int) ∧ (a.length : Int) ≤ ((a ++ frm k d).length : Int) := by omega
  have c2 : 0 ≤ (a.length : Int) ∧ (a.length : Int) ≤ ((a ++ frm k d).length : Int) ∧ ((a ++ frm k d).length : Int) ≤ ((a ++ frm k d).length : Int) := by omega
  have c3 : (a ++ frm k d ++ c).length ≤ maxN := by rw [List.length_append]; unfold maxN; omega
  have t1 : ((a ++ frm k d).take ((a.length : Int)).toNat).drop 0 = a := by rw [Int.toNat_natCast, List.drop_zero, List.take_left' rfl]
  have t2 : ((a ++ frm k d).take (((a ++ frm k d).length : Int)).toNat).drop ((a.length : Int)).toNat = frm k d := by rw [Int.toNat_natCast, Int.toNat_natCast, List.take_length, List.drop_left' rfl]
  have bk := bytes_ok a a (by omega)
  rw [decide_eq_true rfl] at bk
  rw [hp, obs]
  simp only [bne_n, if_neg c0, if_pos c1, if_pos c2, t1, bk, obs, Sh.twin (a ++ frm k d) (by omega), if_pos c3, g1, t2, g2, e1, g3, g4, e2, beq_n, recs1 k d (by omega), wakes15, Bool.not_true]
  rfl
theorem FrameNoughts (k : Int) (d : List Int) (a2 : Int) (k' : Int) (d' : List Int) (_w0 : (Lit.int .i64 k).wf = true) (hB : ∀ x ∈ d, (Lit.int .u8 x).wf = true) (_w1 : (Lit.int .i64 a2).wf = true) (_w2 : (Lit.int .i64 k').wf = true) (hC : ∀ x ∈ d', (Lit.int .u8 x).wf = true) :
    law15_FrameNoughts k d a2 k' d' = some true := by
  unfold law15_FrameNoughts
  rcases rec_cases k d with ⟨c, hc, hr⟩ | ⟨hk, hl, hr⟩
  · rw [hr, obs, if_pos hc]
  rw [hr, obs, if_neg (by decide)]
  rcases rec_cases k' d' with ⟨c, hc, hr⟩ | ⟨hk', hl', hr'⟩
  · rw [hr, obs, if_pos hc]
  rw [hr', obs, if_neg (by decide)]
  by_cases h3 : d.length > 300
  · rw [if_pos (decide_eq_true (by omega))]
  rw [if_neg (by simp; omega)]
  by_cases h4 : d'.length > 300
  · rw [if_pos (decide_eq_true (by omega))]
  rw [if_neg (by simp; omega)]
  obtain ⟨m, hm, hv⟩ := mod_u a2 50 (by decide) (by decide)
  have hv : IntKind.i64.wrap ((IntKind.u64.wrap a2).tmod (50 : Int)) = (m : Int) := hv
  have e1 : IntKind.i64.wrap ((1 : Int) + (m : Int)) = ((1 + m : Nat) : Int) := by rw [i64s _ (by omega) (by omega)]; omega
  have x1 : (((1 + m : Nat) : Int)).toNat = 1 + m := rfl
  have fl1 : (frm k d).length = d.length + 7 := frm_len k d
  have fl2 : (frm k' d').length = d'.length + 7 := frm_len k' d'
  have zl : (List.replicate (1 + m) (0 : Int)).length = 1 + m := List.length_replicate
  have zb : Byt (List.replicate (1 + m) (0 : Int)) := Byt.rep _
  have z0 : (List.replicate (1 + m) (0 : Int)).getD 0 0 = 0 := by simp only [List.getD, List.getElem?_replicate]; rw [if_pos (by omega)]; rfl
  rw [hv, e1, x1]
  generalize List.replicate (1 + m) (0 : Int) = z at *
  have hp1 := put0 hk hB hl
  have hp2 := put_ok (b := frm k d ++ z) hk' hC hl' (by rw [List.length_append]; omega)
  have bl : (frm k d ++ z ++ frm k' d').length = d.length + 7 + (1 + m) + (d'.length + 7) := by rw [List.length_append, List.length_append]; omega
  have bB : Byt (frm k d ++ z ++ frm k' d') := ((frm_byt k hB).app zb).app (frm_byt k' hC)
  have gz : Gn (frm k d ++ z ++ frm k' d') (frm k d).length = (0, [], 0, 3) := by
    apply gn_zero
    rw [List.append_assoc]
    have := getD_at (frm k d) (z ++ frm k' d') 0
    rw [Nat.add_zero] at this
    rw [this]
    have hz : 0 < z.length := by omega
    have : (z ++ frm k' d').getD 0 0 = z.getD 0 0 := by simp only [List.getD, List.getElem?_append_left hz]
    rw [this, z0]
  have hf : fl [(k, d)] = frm k d := by simp [fl]
  have hs : frame_Split (frm k d ++ z ++ frm k' d') = some ([(k, d)], ((frm k d).length : Int)) := by
    have := split_ok (b := frm k d ++ z ++ frm k' d') (c := z ++ frm k' d') (l := [(k, d)]) bB (by omega) (by rw [hf, List.append_assoc]) (by intro r hr; simp only [List.mem_singleton] at hr; subst hr; exact ⟨hk, hl, hB⟩) (by
      rw [hf, gz]; intro q hq; subst hq; decide)
    rw [hf] at this
    exact this
  have g1 : frame_Get (frm k d ++ z ++ frm k' d') ((frm k d).length : Int) = some (0, [], 0, 3) := by
    rw [get_n bB (by omega) _ (by omega), gz]
  have g2 : frame_Get (frm k d ++ z ++ frm k' d') (((frm k d).length + (1 + m) : Nat) : Int) = some (k', d', ((frm k d ++ z ++ frm k' d').length : Int), 0) := by
    have zl2 : (frm k d).length + (1 + m) = (frm k d ++ z).length := by rw [List.length_append]; omega
    rw [get_n bB (by omega) _ (by omega), zl2]
    have g := gn_frame (frm k d ++ z) [] (d := d') hk' hl'
    rw [List.append_nil] at g
    rw [g, show (frm k d ++ z).length + 7 + d'.length = (frm k d ++ z ++ frm k' d').length by rw [List.length_append (as := frm k d ++ z)]; omega]
  have e2 : IntKind.i64.wrap (((frm k d).length : Int) + ((1 + m : Nat) : Int)) = (((frm k d).length + (1 + m) : Nat) : Int) := by rw [i64s _ (by omega) (by omega)]; omega
  have c1 : 0 < ((1 + m : Nat) : Int) ∧ ((frm k d).length : Int) + ((1 + m : Nat) : Int) ≤ (↑maxN : Int) := ⟨by omega, by unfold maxN; omega⟩
  rw [hp1, obs]
  simp only [bne_n, Sh.twin (frm k d) (by omega), obs, if_pos c1, hp2, hs, g1, e2, g2, beq_n, recs1 k d (by omega), recs1 k' d' (by omega), wakes15]
  rfl
end Go.Fr
