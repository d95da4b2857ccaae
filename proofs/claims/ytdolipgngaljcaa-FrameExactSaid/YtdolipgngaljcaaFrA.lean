/- Frames in plain words: what is sealed, put, got. -/
import Derived.Test.YtdolipgngaljcaaCrF
import Derived.Test.YtdolipgngaljcaaShE
namespace Go.Fr
open Go Go.Gw Go.Wd Go.Proofs.Sa.D
/-- numbers that are bytes -/
def Byt (l : List Int) : Prop := ∀ x ∈ l, (Lit.int .u8 x).wf = true
theorem wf8 {x : Int} : (Lit.int .u8 x).wf = true ↔ 0 ≤ x ∧ x < 256 := by
  simp [Lit.wf, IntKind.min, IntKind.max, IntKind.signed, IntKind.bits]; omega
theorem wrap8 (x : Int) : IntKind.u8.wrap x = x % 256 := by simp [IntKind.wrap, IntKind.signed, IntKind.bits]
theorem wf_wrap8 (x : Int) : (Lit.int .u8 (IntKind.u8.wrap x)).wf = true := by rw [wf8, wrap8]; omega
theorem Byt.app {a b : List Int} (ha : Byt a) (hb : Byt b) : Byt (a ++ b) := fun x hx => by
  rcases List.mem_append.1 hx with h | h
  · exact ha x h
  · exact hb x h
theorem Byt.left {a b : List Int} (h : Byt (a ++ b)) : Byt a := fun x hx => h x (List.mem_append_left _ hx)
theorem Byt.right {a b : List Int} (h : Byt (a ++ b)) : Byt b := fun x hx => h x (List.mem_append_right _ hx)
theorem Byt.take {a : List Int} (h : Byt a) (n : Nat) : Byt (a.take n) := fun x hx => h x (List.mem_of_mem_take hx)
theorem Byt.drop {a : List Int} (h : Byt a) (n : Nat) : Byt (a.drop n) := fun x hx => h x (List.mem_of_mem_drop hx)
theorem Byt.nil : Byt [] := fun x hx => by cases hx
theorem Byt.rep (n : Nat) : Byt (List.replicate n 0) := fun x hx => by rw [List.eq_of_mem_replicate hx]; decide
theorem Byt.get {a : List Int} (h : Byt a) (i : Nat) : 0 ≤ a.getD i 0 ∧ a.getD i 0 < 256 := by
  by_cases hi : i < a.length
  · have := wf8.1 (h _ (List.getElem_mem hi))
    simpa [List.getD, hi] using this
  · simp [List.getD, List.getElem?_eq_none (Nat.le_of_not_lt hi)]
/-- the sum of bytes -/
def crcN (l : List Int) : Int := (crc_Sum l).getD 0
theorem crc_ok {l : List Int} (h : Byt l) (hl : l.length ≤ 900000) : crc_Sum l = some (crcN l) ∧ ref01_Crc l = some (crcN l) ∧ 0 ≤ crcN l ∧ crcN l < 4294967296 := by
  obtain ⟨b, rfl⟩ := Cr.areU h
  have e := Cr.sum_eq b (by simp at hl; omega)
  have e' := Cr.page_eq b (by simp at hl; omega)
  have c : crcN (b.map Cr.U) = Cr.U (Cr.sum b) := by unfold crcN; rw [e]; rfl
  refine ⟨by rw [c]; exact e, by rw [c]; exact e', ?_⟩
  rw [c]
  have := (Cr.sum b).isLt
  simp only [Cr.U]
  omega
def hd (k n : Int) : List Int := [IntKind.u8.wrap k, IntKind.u8.wrap (shr .i64 n (8 : Int)), IntKind.u8.wrap n]
def sb (s : Int) : List Int := [IntKind.u8.wrap (shr .u32 s (24 : Int)), IntKind.u8.wrap (shr .u32 s (16 : Int)), IntKind.u8.wrap (shr .u32 s (8 : Int)), IntKind.u8.wrap s]
/-- a frame -/
def frm (k : Int) (d : List Int) : List Int := hd k d.length ++ (sb (crcN (hd k d.length ++ d)) ++ d)
theorem hd_byt (k n : Int) : Byt (hd k n) := fun x hx => by
  simp only [hd, List.mem_cons, List.not_mem_nil, or_false] at hx
  rcases hx with rfl | rfl | rfl <;> exact wf_wrap8 _
theorem sb_byt (s : Int) : Byt (sb s) := fun x hx => by
  simp only [sb, List.mem_cons, List.not_mem_nil, or_false] at hx
  rcases hx with rfl | rfl | rfl | rfl <;> exact wf_wrap8 _
theorem frm_byt (k : Int) {d : List Int} (h : Byt d) : Byt (frm k d) := (hd_byt _ _).app ((sb_byt _).app h)
theorem frm_len (k : Int) (d : List Int) : (frm k d).length = d.length + 7 := by unfold frm hd sb; simp
theorem sealed_ok (k : Int) {d : List Int} (h : Byt d) (hl : d.length ≤ 100000) : frame_sealed k d = some (frm k d) := by
  have c1 := concat_ok [hd k d.length, d] (by simp [hd]; omega) (by simp)
  have c2 := concat_ok [hd k d.length, sb (crcN (hd k d.length ++ d)), d] (by simp [hd, sb]; omega) (by simp)
  have f1 : [hd k d.length, d].flatten = hd k d.length ++ d := by simp
  have f2 : [hd k d.length, sb (crcN (hd k d.length ++ d)), d].flatten = frm k d := by simp [frm]
  rw [f1] at c1
  rw [f2] at c2
  have hc := (crc_ok ((hd_byt k d.length).app h) (by simp [hd]; omega)).1
  unfold frame_sealed
  refine (congrArg (fun z => Option.bind z _) c1).trans ?_
  rw [Option.bind_some, hc, Option.bind_some]
  exact (congrArg (fun z => Option.bind z _) c2).trans rfl
theorem frame_ok (k : Int) {d : List Int} (h : Byt d) (hl : d.length ≤ 100000) : ref14_Frame k d = some (frm k d) := by
  have hc := (crc_ok ((hd_byt k d.length).app h) (by simp [hd]; omega)).2.1
  unfold ref14_Frame
  refine (congrArg (fun z => Option.bind z _) (Sh.twin (hd k d.length) (by simp [hd]))).trans ?_
  rw [Option.bind_some, if_pos (by simp [hd]; unfold maxN; omega), hc, Option.bind_some, if_pos (by simp; unfold maxN; omega), if_pos (by simp; unfold maxN; omega)]
  simp [frm, hd, sb]
def Kin (k : Int) : Prop := k = 1 ∨ k = 2
instance (k : Int) : Decidable (Kin k) := by unfold Kin; infer_instance
theorem known_ok (k : Int) : frame_known k = some (decide (Kin k)) := by
  unfold frame_known Kin
  by_cases h : k = 1
  · subst h; rfl
  · rw [if_neg (by simpa using h)]; simp [h]; rfl
theorem put_ok {k : Int} {b d : List Int} (hk : Kin k) (h : Byt d) (hl : d.length ≤ 2000) (hb : b.length ≤ 100000) : frame_Put b k d = some (b ++ frm k d, 0) := by
  have c := concat_ok [b, frm k d] (by simp [frm_len]; omega) (by simp)
  have f : [b, frm k d].flatten = b ++ frm k d := by simp
  rw [f] at c
  unfold frame_Put
  rw [known_ok, Option.bind_some, if_neg (by simp [hk]), if_neg (by simp; omega), sealed_ok k h (by omega), Option.bind_some, c, Option.bind_some]
theorem put_bad {k : Int} {b d : List Int} (hk : ¬ Kin k) : frame_Put b k d = some ([], 1) := by
  unfold frame_Put
  rw [known_ok, Option.bind_some, if_pos (by simp [hk])]
theorem put_long {k : Int} {b d : List Int} (hk : Kin k) (hl : 2000 < d.length) : frame_Put b k d = some ([], 2) := by
  unfold frame_Put
  rw [known_ok, Option.bind_some, if_neg (by simp [hk]), if_pos (by simp; omega)]
theorem rec_ok {k : Int} {d : List Int} (hk : Kin k) (hl : d.length ≤ 2000) : ref14_Rec k d = some 0 := by
  unfold ref14_Rec
  rcases hk with rfl | rfl
  · rw [if_neg (by decide), if_neg (by simp; omega)]
  · rw [if_pos (by decide), if_neg (by decide), if_neg (by simp; omega)]
theorem rec_bad {k : Int} {d : List Int} (hk : ¬ Kin k) : ref14_Rec k d = some 1 := by
  unfold ref14_Rec Kin at *
  rw [if_pos (by simp; omega), if_pos (by simp; omega)]
theorem rec_long {k : Int} {d : List Int} (hk : Kin k) (hl : 2000 < d.length) : ref14_Rec k d = some 2 := by
  unfold ref14_Rec
  rcases hk with rfl | rfl
  · rw [if_neg (by decide), if_pos (by simp; omega)]
  · rw [if_pos (by decide), if_neg (by decide), if_pos (by simp; omega)]
theorem equal_l0 (a b : List Int) (hl : a.length = b.length) (ha : a.length ≤ 900000) : ∀ (d i : Nat), i + d = a.length → a.take i = b.take i →
    slices_Equal_byte_byte_l0 a b (d + 1) (i : Int) = some (if a = b then .inl () else .inr false) := by
  intro d
  induction d with
  | zero =>
    intro i hi ht
    rw [slices_Equal_byte_byte_l0, if_neg (by simp; omega)]
    rw [List.take_of_length_le (by omega), List.take_of_length_le (by omega)] at ht
    rw [if_pos ht]
  | succ d ih =>
    intro i hi ht
    have hia : i < a.length := by omega
    have hib : i < b.length := by omega
    have ga : a.getD (i : Int).toNat 0 = a[i] := by simp [List.getD, hia]
    have gb : b.getD (i : Int).toNat 0 = b[i] := by simp [List.getD, hib]
    rw [slices_Equal_byte_byte_l0, if_pos (decide_eq_true (by omega)), if_pos ⟨by omega, by omega⟩, if_pos ⟨by omega, by omega⟩, ga, gb, Sh.next i (by omega)]
    by_cases he : a[i] = b[i]
    · rw [if_neg (by simp [he])]
      exact ih (i + 1) (by omega) (by rw [List.take_succ_eq_append_getElem hia, List.take_succ_eq_append_getElem hib, ht, he])
    · rw [if_pos (by simp [he]), if_neg (by intro e; subst e; exact he rfl)]
theorem equal_ok (a b : List Int) (ha : a.length ≤ 900000) : slices_Equal_byte_byte a b = some (decide (a = b)) := by
  unfold slices_Equal_byte_byte
  by_cases hl : a.length = b.length
  · have h := equal_l0 a b hl ha a.length 0 (by omega) rfl
    have e : (((↑(List.length a) : Int) - (0 : Int)).toNat + 1) = a.length + 1 := by omega
    rw [if_neg (by simp; omega), e]
    refine (congrArg (fun z => Option.bind z _) h).trans ?_
    by_cases he : a = b
    · simp [he]
    · simp [he]
  · have he : ¬ a = b := fun e => hl (by rw [e])
    rw [if_pos (by simp; omega), decide_eq_false he]
theorem bytes_ok (a b : List Int) (ha : a.length ≤ 900000) : keep_Bytes a b = some (decide (a = b)) := by
  by_cases hl : a.length = b.length
  · exact Cr.bytes_eq a b hl (by omega)
  · have he : ¬ a = b := fun e => hl (by rw [e])
    unfold keep_Bytes
    rw [if_pos (by simp; omega), decide_eq_false he]
/-- a length out of two bytes -/
theorem join2 (x y : Nat) (hx : x < 256) (hy : y < 256) : bor .i64 (shl .i64 (IntKind.i64.wrap (x : Int)) (8 : Int)) (IntKind.i64.wrap (y : Int)) = ((x * 256 + y : Nat) : Int) := by
  have e1 : IntKind.i64.wrap (x : Int) = (x : Int) := i64s _ (by omega) (by omega)
  have e2 : IntKind.i64.wrap (y : Int) = (y : Int) := i64s _ (by omega) (by omega)
  have e3 : shl .i64 (x : Int) (8 : Int) = ((x * 256 : Nat) : Int) := by
    rw [shl_u _ _ _ 256 (by decide)]
    rw [i64s _ (by omega) (by omega)]; omega
  rw [e1, e2, e3]
  have h := Nat.shiftLeft_add_eq_or_of_lt (i := 8) (b := y) (by simpa using hy) x
  rw [Nat.shiftLeft_eq] at h
  have h' : x * 256 ||| y = x * 256 + y := by simpa using h.symm
  unfold bor
  have n1 : (BitVec.ofInt IntKind.i64.bits ((x * 256 : Nat) : Int)).toNat = x * 256 := by
    rw [BitVec.ofInt_natCast, BitVec.toNat_ofNat]; simp [IntKind.bits]; omega
  have n2 : (BitVec.ofInt IntKind.i64.bits ((y : Nat) : Int)).toNat = y := by
    rw [BitVec.ofInt_natCast, BitVec.toNat_ofNat]; simp [IntKind.bits]; omega
  rw [BitVec.toNat_or, n1, n2, h']
  exact i64s _ (by omega) (by omega)
/-- what is got from a place within -/
def Gn (b : List Int) (i : Nat) : Int × List Int × Int × Int :=
  if b.length - i < 7 then (0, [], 0, 3)
  else if Kin (b.getD i 0) then
    if 2000 < (b.getD (i + 1) 0).toNat * 256 + (b.getD (i + 2) 0).toNat ∨ b.length - i - 7 < (b.getD (i + 1) 0).toNat * 256 + (b.getD (i + 2) 0).toNat then (0, [], 0, 3)
    else if frm (b.getD i 0) ((b.take (i + 7 + ((b.getD (i + 1) 0).toNat * 256 + (b.getD (i + 2) 0).toNat))).drop (i + 7)) = (b.take (i + 7 + ((b.getD (i + 1) 0).toNat * 256 + (b.getD (i + 2) 0).toNat))).drop i then
      (b.getD i 0, (b.take (i + 7 + ((b.getD (i + 1) 0).toNat * 256 + (b.getD (i + 2) 0).toNat))).drop (i + 7), ((i + 7 + ((b.getD (i + 1) 0).toNat * 256 + (b.getD (i + 2) 0).toNat) : Nat) : Int), 0)
    else (0, [], 0, 6)
  else (0, [], 0, 3)
def G (b : List Int) (at' : Int) : Int × List Int × Int × Int := if 0 ≤ at' ∧ at' ≤ (b.length : Int) then Gn b at'.toNat else (0, [], 0, 1)
set_option maxHeartbeats 4000000 in
theorem get_n {b : List Int} (hB : Byt b) (hb : b.length ≤ 100000) (i : Nat) (hi : i ≤ b.length) : frame_Get b (i : Int) = some (Gn b i) := by
  have s0 : IntKind.i64.wrap ((b.length : Int) - (i : Int)) = ((b.length - i : Nat) : Int) := by rw [i64s _ (by omega) (by omega)]; omega
  unfold frame_Get Gn
  rw [if_neg (by simp), if_neg (by simp; omega), s0]
  by_cases h7 : b.length - i < 7
  · rw [if_pos (decide_eq_true (by omega)), if_pos h7]
  rw [if_neg (by simp; omega), if_neg h7]
  have s7 : IntKind.i64.wrap (((b.length - i : Nat) : Int) - 7) = ((b.length - i - 7 : Nat) : Int) := by rw [i64s _ (by omega) (by omega)]; omega
  have x0 : ((i : Int)).toNat = i := rfl
  have p1 : IntKind.i64.wrap ((i : Int) + 1) = ((i + 1 : Nat) : Int) := Sh.next i (by omega)
  have p2 : IntKind.i64.wrap ((i : Int) + 2) = ((i + 2 : Nat) : Int) := by rw [i64s _ (by omega) (by omega)]; omega
  have p7 : IntKind.i64.wrap ((i : Int) + 7) = ((i + 7 : Nat) : Int) := by rw [i64s _ (by omega) (by omega)]; omega
  have x1 : (((i + 1 : Nat) : Int)).toNat = i + 1 := rfl
  have x2 : (((i + 2 : Nat) : Int)).toNat = i + 2 := rfl
  have x7 : (((i + 7 : Nat) : Int)).toNat = i + 7 := rfl
  obtain ⟨g0, g0'⟩ := hB.get i
  obtain ⟨g1, g1'⟩ := hB.get (i + 1)
  obtain ⟨g2, g2'⟩ := hB.get (i + 2)
  have w0 : IntKind.i64.wrap (b.getD i 0) = b.getD i 0 := i64s _ (by omega) (by omega)
  have j := join2 (b.getD (i + 1) 0).toNat (b.getD (i + 2) 0).toNat (by omega) (by omega)
  rw [Int.toNat_of_nonneg g1, Int.toNat_of_nonneg g2] at j
  rw [if_pos ⟨by omega, by omega⟩, x0, w0, known_ok, Option.bind_some]
  by_cases hk' : ¬ Kin (b.getD i 0)
  · rw [if_pos (show (!decide (Kin (b.getD i 0))) = true by rw [decide_eq_false hk']; rfl), if_neg hk']
  have hk : Kin (b.getD i 0) := Decidable.not_not.1 hk'
  rw [if_neg (show ¬ (!decide (Kin (b.getD i 0))) = true by rw [decide_eq_true hk]; decide), if_pos hk, p1, p2, x1, x2, if_pos ⟨by omega, by omega⟩, if_pos ⟨by omega, by omega⟩, j, p7, x7]
  have hn' : (b.getD (i + 1) 0).toNat * 256 + (b.getD (i + 2) 0).toNat < 65536 := by omega
  clear g0 g0' g1 g1' g2 g2' w0 j s0
  generalize (b.getD (i + 1) 0).toNat * 256 + (b.getD (i + 2) 0).toNat = n at *
  by_cases h2 : 2000 < n
  · have c1 : decide ((n : Int) > 2000) = true := decide_eq_true (by omega)
    have c2 : 2000 < n ∨ b.length - i - 7 < n := .inl h2
    rw [if_pos c1, if_pos c2]
  rw [if_neg (by simp; omega)]
  rw [s7]
  by_cases h3 : b.length - i - 7 < n
  · have c1 : decide ((n : Int) > ((b.length - i - 7 : Nat) : Int)) = true := decide_eq_true (by omega)
    have c2 : 2000 < n ∨ b.length - i - 7 < n := .inr h3
    rw [if_pos c1, if_pos c2]
  have pn : IntKind.i64.wrap (((i + 7 : Nat) : Int) + (n : Int)) = ((i + 7 + n : Nat) : Int) := by rw [i64s _ (by omega) (by omega)]; omega
  have xn : (((i + 7 + n : Nat) : Int)).toNat = i + 7 + n := rfl
  have c3 : ¬ decide ((n : Int) > ((b.length - i - 7 : Nat) : Int)) = true := by simp; omega
  have c4 : ¬ (2000 < n ∨ b.length - i - 7 < n) := by omega
  have c5 : 0 ≤ (i : Int) ∧ (i : Int) < (b.length : Int) := ⟨by omega, by omega⟩
  have c6 : 0 ≤ ((i + 7 : Nat) : Int) ∧ ((i + 7 : Nat) : Int) ≤ ((i + 7 + n : Nat) : Int) ∧ ((i + 7 + n : Nat) : Int) ≤ (b.length : Int) := ⟨by omega, by omega, by omega⟩
  rw [if_neg c3, if_neg c4, if_pos c5, pn, xn, if_pos c6]
  generalize hd' : (b.take (i + 7 + n)).drop (i + 7) = d
  have hdl : d.length = n := by rw [← hd']; simp; omega
  have hdb : Byt d := by rw [← hd']; exact (hB.take _).drop _
  have c7 : 0 ≤ (i : Int) ∧ (i : Int) ≤ ((i + 7 + n : Nat) : Int) ∧ ((i + 7 + n : Nat) : Int) ≤ (b.length : Int) := ⟨by omega, by omega, by omega⟩
  rw [clone_ok d (by omega), Option.bind_some, sealed_ok _ hdb (by omega), Option.bind_some, if_pos c7, equal_ok _ _ (by rw [frm_len]; omega), Option.bind_some]
  by_cases he : frm (b.getD i 0) d = (b.take (i + 7 + n)).drop i
  · rw [if_neg (show ¬ (!decide (frm (b.getD i 0) d = (b.take (i + 7 + n)).drop i)) = true by rw [decide_eq_true he]; decide), if_pos he]
  · rw [if_pos (show (!decide (frm (b.getD i 0) d = (b.take (i + 7 + n)).drop i)) = true by rw [decide_eq_false he]; rfl), if_neg he]
theorem get_ok {b : List Int} (hB : Byt b) (hb : b.length ≤ 100000) (at' : Int) : frame_Get b at' = some (G b at') := by
  unfold G
  by_cases h0 : at' < 0
  · rw [if_neg (by omega)]
    unfold frame_Get
    rw [if_pos (decide_eq_true h0)]
  by_cases h1 : (b.length : Int) < at'
  · rw [if_neg (by omega)]
    unfold frame_Get
    rw [if_neg (by simp; omega), if_pos (decide_eq_true (by omega))]
  obtain ⟨i, rfl⟩ := Int.eq_ofNat_of_zero_le (show 0 ≤ at' by omega)
  rw [if_pos ⟨by omega, by omega⟩]
  exact get_n hB hb i (by omega)
end Go.Fr
