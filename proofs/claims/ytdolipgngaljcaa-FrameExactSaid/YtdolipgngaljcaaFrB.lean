/- Frames: got where one stands; parted. -/
import Derived.Test.YtdolipgngaljcaaFrA
namespace Go.Fr
open Go Go.Gw Go.Wd Go.Proofs.Sa.D
theorem obs {α β : Type} (a : α) (f : α → Option β) : (some a).bind f = f a := by rw [Option.bind_some]
theorem getD_at (a l : List Int) (j : Nat) : (a ++ l).getD (a.length + j) 0 = l.getD j 0 := by
  simp [List.getD, List.getElem?_append_right]
theorem byte0 (k : Int) (d c : List Int) : (frm k d ++ c).getD 0 0 = IntKind.u8.wrap k := rfl
theorem byte1 (k : Int) (d c : List Int) : (frm k d ++ c).getD 1 0 = IntKind.u8.wrap (shr .i64 d.length 8) := rfl
theorem byte2 (k : Int) (d c : List Int) : (frm k d ++ c).getD 2 0 = IntKind.u8.wrap d.length := rfl
theorem kin_wrap {k : Int} (h : Kin k) : IntKind.u8.wrap k = k := by rcases h with rfl | rfl <;> decide
theorem len_bytes (n : Nat) (h : n ≤ 2000) : (IntKind.u8.wrap (shr .i64 (n : Int) 8)).toNat * 256 + (IntKind.u8.wrap (n : Int)).toNat = n := by
  rw [shr_u _ _ _ 256 (by decide) (by decide), wrap8, wrap8]; omega
/-- A FRAME IS GOT FROM WHERE IT STANDS -/
theorem gn_frame (a c : List Int) {k : Int} {d : List Int} (hk : Kin k) (hl : d.length ≤ 2000) : Gn (a ++ (frm k d ++ c)) a.length = (k, d, ((a.length + 7 + d.length : Nat) : Int), 0) := by
  have g0 : (a ++ (frm k d ++ c)).getD a.length 0 = k := by have := getD_at a (frm k d ++ c) 0; rw [Nat.add_zero] at this; rw [this, byte0, kin_wrap hk]
  have g1 : (a ++ (frm k d ++ c)).getD (a.length + 1) 0 = _ := (getD_at a (frm k d ++ c) 1).trans (byte1 k d c)
  have g2 : (a ++ (frm k d ++ c)).getD (a.length + 2) 0 = _ := (getD_at a (frm k d ++ c) 2).trans (byte2 k d c)
  have hlen : (a ++ (frm k d ++ c)).length = a.length + (d.length + 7 + c.length) := by rw [List.length_append, List.length_append, frm_len]
  have t1 : ((a ++ (frm k d ++ c)).take (a.length + 7 + d.length)).drop a.length = frm k d := by
    rw [show a.length + 7 + d.length = a.length + (frm k d).length by rw [frm_len]; omega, List.take_length_add_append, List.drop_left, List.take_left]
  have t2 : ((a ++ (frm k d ++ c)).take (a.length + 7 + d.length)).drop (a.length + 7) = d := by
    rw [← List.drop_drop, t1]; rfl
  unfold Gn
  rw [hlen, g0, g1, g2, len_bytes _ hl, t1, t2, if_neg (by omega), if_pos hk, if_neg (by omega), if_pos rfl]
theorem gn_end (b : List Int) (i : Nat) (h : b.length < i + 7) : Gn b i = (0, [], 0, 3) := by
  unfold Gn; rw [if_pos (by omega)]
theorem gn_zero (b : List Int) (i : Nat) (h : b.getD i 0 = 0) : Gn b i = (0, [], 0, 3) := by
  unfold Gn
  rw [h]
  split
  · rfl
  · rw [if_neg (by unfold Kin; decide)]
/-- records that may be framed -/
def Ok (l : List (Int × List Int)) : Prop := ∀ r ∈ l, Kin r.1 ∧ r.2.length ≤ 2000 ∧ Byt r.2
def fl (l : List (Int × List Int)) : List Int := (l.map fun r => frm r.1 r.2).flatten
theorem fl_cons (r : Int × List Int) (l : List (Int × List Int)) : fl (r :: l) = frm r.1 r.2 ++ fl l := rfl
theorem fl_app (l m : List (Int × List Int)) : fl (l ++ m) = fl l ++ fl m := by simp [fl]
theorem fl_len (l : List (Int × List Int)) : 7 * l.length ≤ (fl l).length := by
  induction l with
  | nil => simp
  | cons r l ih => rw [fl_cons, List.length_append, frm_len, List.length_cons]; omega
theorem fl_byt {l : List (Int × List Int)} (h : Ok l) : Byt (fl l) := by
  induction l with
  | nil => exact Byt.nil
  | cons r l ih => rw [fl_cons]; exact (frm_byt _ (h r (by simp)).2.2).app (ih fun q hq => h q (List.mem_cons_of_mem _ hq))
theorem split_l0 {b : List Int} (hB : Byt b) (hb : b.length ≤ 100000) : ∀ (l pre : List (Int × List Int)) (c : List Int) (k : Nat), b = fl pre ++ (fl l ++ c) → Ok l → (∀ q, Gn b (fl (pre ++ l)).length = q → q.2.2.2 ≠ 0) → l.length < k → (pre ++ l).length ≤ 100000 →
    frame_Split_l0 b k pre ((fl pre).length : Int) = some (.inr (pre ++ l, ((fl (pre ++ l)).length : Int))) := by
  intro l
  induction l with
  | nil =>
    intro pre c k he _ hs hk hm
    obtain ⟨k, rfl⟩ : ∃ g, k = g + 1 := ⟨k - 1, by omega⟩
    rw [List.append_nil] at hs ⊢
    have hi : (fl pre).length ≤ b.length := by rw [he, List.length_append]; omega
    rw [frame_Split_l0, get_n hB hb _ hi]
    generalize hq : Gn b (fl pre).length = q
    have := hs q hq
    obtain ⟨r3, a4, r5, r6⟩ := q
    rw [obs]
    simp only at this ⊢
    rw [if_pos (by simpa using this)]
  | cons r l ih =>
    intro pre c k he ho hs hk hm
    obtain ⟨k, rfl⟩ : ∃ g, k = g + 1 := ⟨k - 1, by omega⟩
    have hi : (fl pre).length ≤ b.length := by rw [he, List.length_append]; omega
    obtain ⟨h1, h2, h3⟩ := ho r (by simp)
    have hg : Gn b (fl pre).length = (r.1, r.2, (((fl pre).length + 7 + r.2.length : Nat) : Int), 0) := by
      rw [he, fl_cons, List.append_assoc]; exact gn_frame _ _ h1 h2
    have hl : (((fl pre).length + 7 + r.2.length : Nat) : Int) = ((fl (pre ++ [r])).length : Int) := by
      rw [fl_app, List.length_append]; simp [fl, frm_len]; omega
    have e1 : pre ++ r :: l = (pre ++ [r]) ++ l := by simp
    have ih' := ih (pre ++ [r]) c k (by rw [he, fl_app, fl_cons]; simp [fl]) (fun q hq => ho q (List.mem_cons_of_mem _ hq)) (by rw [← e1]; exact hs) (by simp at hk; omega) (by rw [← e1]; exact hm)
    rw [frame_Split_l0, get_n hB hb _ hi, hg, obs]
    simp only
    rw [if_neg (by decide), hl, e1, if_pos (by rw [List.length_append] at hm ⊢; simp at hm ⊢; unfold maxR; omega)]
    exact ih'
/-- WHAT BYTES ARE PARTED INTO -/
theorem split_ok {b c : List Int} {l : List (Int × List Int)} (hB : Byt b) (hb : b.length ≤ 100000) (he : b = fl l ++ c) (ho : Ok l) (hs : ∀ q, Gn b (fl l).length = q → q.2.2.2 ≠ 0) : frame_Split b = some (l, ((fl l).length : Int)) := by
  have h1 := fl_len l
  have h2 : (fl l).length ≤ b.length := by rw [he, List.length_append]; omega
  have h := split_l0 hB hb l [] c (b.length + 1) (by simpa [fl] using he) ho (by simpa using hs) (by omega) (by simp; omega)
  unfold frame_Split
  exact (congrArg (fun z => Option.bind z _) h).trans rfl
theorem recs_l0 (l : List (Int × List Int)) (hl : l.length ≤ 900000) (hd : ∀ r ∈ l, r.2.length ≤ 900000) : ∀ (d i : Nat), i + d = l.length → keep_Recs_l0 l l (d + 1) (i : Int) = some (.inl ()) := by
  intro d
  induction d with
  | zero => intro i hi; rw [keep_Recs_l0, if_neg (by simp; omega)]
  | succ d ih =>
    intro i hi
    have hil : i < l.length := by omega
    have g : l.getD (i : Int).toNat (0, []) = l[i] := by simp [List.getD, hil]
    rw [keep_Recs_l0, if_pos (decide_eq_true (by omega)), if_pos ⟨by omega, by omega⟩, if_pos ⟨by omega, by omega⟩, if_neg (by simp), g, bytes_ok _ _ (hd _ (List.getElem_mem hil)), obs, decide_eq_true rfl, if_neg (by decide), Sh.next i (by omega)]
    exact ih (i + 1) (by omega)
theorem recs_same (l : List (Int × List Int)) (hl : l.length ≤ 900000) (hd : ∀ r ∈ l, r.2.length ≤ 900000) : keep_Recs l l = some true := by
  have h := recs_l0 l hl hd l.length 0 (by omega)
  have e : (((↑(List.length l) : Int) - (0 : Int)).toNat + 1) = l.length + 1 := by omega
  unfold keep_Recs
  rw [if_neg (by simp), e]
  exact (congrArg (fun z => Option.bind z _) h).trans rfl
theorem recs1 (k : Int) (d : List Int) (h : d.length ≤ 900000) : keep_Recs [(k, d)] [(k, d)] = some true := recs_same _ (by simp) (by simpa using h)
theorem rec_cases (k : Int) (d : List Int) : (∃ c : Int, (c != 0) = true ∧ ref14_Rec k d = some c) ∨ (Kin k ∧ d.length ≤ 2000 ∧ ref14_Rec k d = some 0) := by
  by_cases hk : Kin k
  · by_cases hl : d.length ≤ 2000
    · exact .inr ⟨hk, hl, rec_ok hk hl⟩
    · exact .inl ⟨2, by decide, rec_long hk (by omega)⟩
  · exact .inl ⟨1, by decide, rec_bad hk⟩
set_option maxRecDepth 100000 in
theorem wakes15 : law15_wakes = some true := by kernel_rfl
end Go.Fr
