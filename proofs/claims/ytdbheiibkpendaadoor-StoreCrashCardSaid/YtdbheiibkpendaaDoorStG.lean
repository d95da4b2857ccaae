/- What a crash keeps of one file; StoreCrash. -/
import Derived.Test.YtdbheiibkpendaaDoorMStA
namespace Go.St
open Go Go.Gw Go.Dk Go.Fr Go.Proofs.Se.D
set_option linter.unusedSimpArgs false
set_option linter.unusedVariables false
theorem Jhx : ∃ H, Xt = some (.ptr 1 0, .ptr 1 0, [], 0, [], H) ∧ JJ 0 H (.ptr 1 0) (On 131072 (Qu [⟨[], []⟩]) 0) := by
 obtain ⟨H, e0, h0⟩ := JjP 131072 (by decide) (by decide)
 obtain ⟨H1, e1, h1⟩ := Jd1 (show JJ 0 H (.ptr 1 0) (On 131072 [] 0) from h0)
 refine ⟨H1, ?_, h1⟩
 unfold Xt
 rw [e0, Option.bind_some]
 simp only
 rw [e1, Option.bind_some]
 simp only
 rw [if_neg (by decide), if_neg (by decide)]
theorem Jly (x m : Int) (h : 1 ≤ m) (h2 : m ≤ 1000) : IntKind.u64.wrap (IntKind.i64.wrap m) ≠ 0 ∧ ∃ t : Nat, IntKind.i64.wrap ((IntKind.u64.wrap x).tmod (IntKind.u64.wrap (IntKind.i64.wrap m))) = (t : Int) ∧ (t : Int) < m := by
 have e1 : IntKind.i64.wrap m = m := QO _ (by omega) (by omega)
 have e2 : IntKind.u64.wrap m = m := Cr.u64_small (by omega) (by omega)
 rw [e1, e2]
 have h3 : (IntKind.u64.wrap x).tmod m = (IntKind.u64.wrap x) % m := Int.tmod_eq_emod_of_nonneg (Jl0 x)
 have h4 := Int.emod_nonneg (IntKind.u64.wrap x) (show m ≠ 0 by omega)
 have h5 := Int.emod_lt_of_pos (IntKind.u64.wrap x) (show 0 < m by omega)
 refine ⟨by omega, ((IntKind.u64.wrap x) % m).toNat, ?_, ?_⟩
 ·rw [h3, QO _ (by omega) (by omega)]; omega
 ·omega
theorem JiF (l : List R) (hb : ∀ r ∈ l, Byt r.2) (hn : l.length ≤ 1000) (s k : Int) : ∀ (j i : Nat) (sz : Int), i + j = l.length → 0 ≤ sz → sz ≤ 2007 * i →
  Vi l s k (j + 1) sz (i : Int) = some (.inr true) ∨ (Ok (l.drop i) ∧ Vi l s k (j + 1) sz (i : Int) = some (.inl (sz + ((fl (l.drop i)).length : Int)))) := by
 intro j
 induction j with
 | zero =>
  intro i sz hi h0 h1
  refine .inr ⟨?_, ?_⟩
  ·rw [List.drop_eq_nil_of_le (by omega)]; intro r hr; cases hr
  ·rw [Vi, if_neg (by simp; omega), List.drop_eq_nil_of_le (by omega)]; simp [fl]
 | succ j ih =>
  intro i sz hi h0 h1
  have hi' : i < l.length := by omega
  have eg : l.getD (i : Int).toNat (0, []) = l[i] := by simp [List.getD, hi']
  rw [Vi, if_pos (by simp; omega), if_pos (by omega), eg]
  rcases Jg7 l[i].1 l[i].2 with ⟨c, hc, e⟩ | ⟨hk, hl, e⟩
  ·left; rw [e, Option.bind_some, if_pos hc]
  ·rw [e, Option.bind_some, if_neg (by decide), QO (sz + 7) (by omega) (by omega), QO (sz + 7 + _) (by omega) (by omega), QO ((i : Int) + 1) (by omega) (by omega)]
   rcases ih (i + 1) (sz + 7 + (l[i].2.length : Int)) (by omega) (by omega) (by omega) with g | ⟨g1, g2⟩
   ·left; exact g
   ·right
    rw [List.drop_eq_getElem_cons hi']
    refine ⟨fun r hr => ?_, ?_⟩
    ·rcases List.mem_cons.1 hr with rfl | hr
     ·exact ⟨hk, hl, hb _ (List.getElem_mem _)⟩
     ·exact g1 r hr
    ·rw [Jae, List.length_append, WB]
     refine g2.trans ?_
     congr 2
     omega
structure CI (l : List R) (i m : Nat) (H : AH) (d : MV) (ends dirty : List Int) (f : Fl) : Prop where
 h : JJ i H d (On 131072 (Qu [f]) 0)
 fs : f.s = fl (l.take m)
 fp : f.ps = ((l.take i).drop m).map fun r => frm r.1 r.2
 mi : m ≤ i
 il : i ≤ l.length
 d0 : ∀ x ∈ dirty, x = 0
 d1 : f.ps ≠ [] → 0 ∈ dirty
 el : ends.length = 2 * i
 dl : dirty.length ≤ i
theorem Ji2 (l : List R) : fl l = (l.map fun r => frm r.1 r.2).flatten := rfl
theorem CI.all {l : List R} {i m : Nat} {H : AH} {d : MV} {ends dirty : List Int} {f : Fl} (c : CI l i m H d ends dirty f) : f.all = fl (l.take i) := by
 rw [Fl.all, c.fs, c.fp, ← Ji2, ← Jej]
 congr 1
 rw [show l.take m = (l.take i).take m by rw [List.take_take, Nat.min_eq_left c.mi], List.take_append_drop]
theorem CI.sync {l : List R} {i m : Nat} {H : AH} {d : MV} {ends dirty : List Int} {f : Fl} (c : CI l i m H d ends dirty f) (n : Nat) : ∃ H', Vf H d n 0 dirty = some (0, 0, [], H') ∧ CI l i i H' d ends [] f.settle := by
 obtain ⟨H', e, h'⟩ := Jfh (Z := [f]) c.h n 0 (dirty := dirty) (fun x hx => by rw [c.d0 x hx]; simp) (fun j g hj hg => by
  match j with
  | 0 => simp at hj; subst hj; exact c.d1 hg
  | j + 1 => simp at hj)
 refine ⟨H', e, ⟨h', ?_, ?_, Nat.le_refl _, c.il, (fun x hx => by cases hx), (fun hx => absurd rfl hx), c.el, by simp⟩⟩
 ·exact c.all
 ·have : (l.take i).drop i = [] := List.drop_eq_nil_of_le (by rw [List.length_take]; omega)
  rw [this]; rfl
theorem CI.append {l : List R} {i m : Nat} {H : AH} {d : MV} {ends dirty : List Int} {f : Fl} (c : CI l i m H d ends dirty f) (ho : Ok l) (hi : i < l.length) (hl : (fl l).length ≤ 4096) (hn : l.length ≤ 1000) :
  ∃ H' x f', Jv H d ends 0 dirty l[i].1 l[i].2 = some (0, ends ++ x, 0, ins dirty 0, H') ∧ CI l (i + 1) m H' d (ends ++ x) (ins dirty 0) f' := by
 have hr := ho _ (List.getElem_mem hi)
 have e1 : (fl (l.take i)).length + (7 + l[i].2.length) ≤ (fl l).length := by
  have e : fl l = fl (l.take i) ++ fl (l.drop i) := by rw [← Jej, List.take_append_drop]
  rw [e, List.drop_eq_getElem_cons hi, Jae, List.length_append, List.length_append, WB]; omega
 have ea : f.all.length < 4096 := by rw [c.all]; omega
 have et : tot ([] ++ [f]) = f.all.length := by simp [tot]
 obtain ⟨H', x, Z', f', e, lx, h', hp⟩ := XD (Z := []) (f := f) c.h (by have := c.il; omega) hr.1 hr.2.2 hr.2.1 (by rw [et, c.all]; omega) (fun h => by omega) (ends := ends) (dirty := dirty) (by have := c.el; omega) (by have := c.dl; omega)
 obtain ⟨rfl, rfl⟩ : Z' = [] ∧ f' = ⟨f.s, f.ps ++ [frm l[i].1 l[i].2]⟩ := by
  cases hp with
  | here => exact ⟨rfl, rfl⟩
  | next h => omega
 refine ⟨H', x, _, e, ⟨h', c.fs, ?_, by have := c.mi; omega, hi, ?_, ?_, by simp [c.el, lx]; omega, by have := Jkg dirty 0; have := c.dl; omega⟩⟩
 ·simp only
  rw [c.fp, List.take_succ_eq_append_getElem hi, List.drop_append_of_le_length (by rw [List.length_take]; have := c.mi; omega), List.map_append]
  rfl
 ·intro y hy
  unfold ins at hy
  split at hy
  ·exact c.d0 y hy
  ·rcases List.mem_append.1 hy with hy | hy
   ·exact c.d0 y hy
   ·exact List.mem_singleton.1 hy
 ·intro _
  unfold ins
  split
  ·assumption
  ·simp
theorem JiN {l : List R} (ho : Ok l) (hl : (fl l).length ≤ 4096) (hn : l.length ≤ 1000) (sf k : Int) {s : Nat} (hs : IntKind.i64.wrap ((IntKind.u64.wrap sf).tmod (IntKind.u64.wrap (IntKind.i64.wrap ((↑(List.length l) : Int) + (1 : Int))))) = (s : Int)) (p d : MV) : ∀ (j i m : Nat) (H : AH) (ends dirty : List Int) (f : Fl), i + j = l.length → CI l i m H d ends dirty f → (i ≤ s → m = 0) → (s < i → m = s) →
  ∃ H' ends' dirty' f' m', Vl l sf k p d (j + 1) H ends 0 dirty (i : Int) = some (.inl (H', ends', 0, dirty')) ∧ CI l l.length m' H' d ends' dirty' f' ∧ (s < l.length → m' = s) := by
 intro j
 induction j with
 | zero =>
  intro i m H ends dirty f hi c h0 h1
  have e : i = l.length := by omega
  subst e
  refine ⟨H, ends, dirty, f, m, ?_, c, h1⟩
  rw [Vl, if_neg (by simp)]
 | succ j ih =>
  intro i m H ends dirty f hi c h0 h1
  have hi' : i < l.length := by omega
  have eg : l.getD (i : Int).toNat (0, []) = l[i] := by simp [List.getD, hi']
  rw [Vl, if_pos (by simp; omega), hs]
  by_cases his : i = s
  ·rw [if_pos (by simp; omega)]
   obtain ⟨H1, e1, c1⟩ := c.sync (List.length ends / 2)
   obtain ⟨H2, x, f2, e2, c2⟩ := c1.append ho hi' hl hn
   obtain ⟨H3, ends', dirty', f', m', e3, g⟩ := ih (i + 1) i H2 (ends ++ x) (ins [] 0) f2 (by omega) c2 (by omega) (by omega)
   refine ⟨H3, ends', dirty', f', m', ?_, g⟩
   rw [e1, Option.bind_some]
   simp only
   rw [if_neg (by decide), if_pos (by omega), eg, e2, Option.bind_some]
   simp only
   rw [if_neg (by decide), QO ((i : Int) + 1) (by omega) (by omega)]
   exact e3
  ·rw [if_neg (by simp; omega), if_pos (by omega), eg]
   obtain ⟨H2, x, f2, e2, c2⟩ := c.append ho hi' hl hn
   obtain ⟨H3, ends', dirty', f', m', e3, g⟩ := ih (i + 1) m H2 (ends ++ x) (ins dirty 0) f2 (by omega) c2 (fun _ => h0 (by omega)) (fun _ => h1 (by omega))
   refine ⟨H3, ends', dirty', f', m', ?_, g⟩
   rw [e2, Option.bind_some]
   simp only
   rw [if_neg (by decide), QO ((i : Int) + 1) (by omega) (by omega)]
   exact e3
def Ja7 (q : Int) (i : Nat) : List MV := (List.range 30).map fun j => if j < i then MV.bool ((j : Int) != q) else MV.bool false
theorem Jjs (q : Int) (i : Nat) (hi : i < 30) : Jey (Ja7 q i) i [MV.bool ((i : Int) != q)] = Ja7 q (i + 1) := by
 have hlen : (Ja7 q i).length = 30 := by simp [Ja7]
 unfold Jey
 refine List.ext_getElem (by simp [hlen, Ja7]; omega) fun n h1 h2 => ?_
 have hn : n < 30 := by simpa [Ja7] using h2
 have e2 : (Ja7 q (i + 1))[n] = if n < i + 1 then MV.bool ((n : Int) != q) else MV.bool false := by simp [Ja7]
 have e1 : (Ja7 q i)[n]'(by rw [hlen]; exact hn) = if n < i then MV.bool ((n : Int) != q) else MV.bool false := by simp [Ja7]
 refine Eq.trans ?_ e2.symm
 rw [List.getElem_append]
 split
 ·rename_i h
  rw [List.getElem_take, e1]
  have : n < i := by rw [List.length_take] at h; omega
  rw [if_pos this, if_pos (by omega)]
 ·rename_i h
  have hge : i ≤ n := by rw [List.length_take] at h; omega
  rw [List.getElem_append]
  split
  ·rename_i h3
   have : n = i := by simp [List.length_take, hlen] at h3; omega
   subst this
   rw [if_pos (by omega)]
   simp [List.length_take, hlen]
  ·rename_i h3
   have : i < n := by simp [List.length_take, hlen] at h3; omega
   rw [if_neg (by omega), List.getElem_drop]
   have e4 : (i + [MV.bool ((i : Int) != q)].length + (n - (List.take i (Ja7 q i)).length - [MV.bool ((i : Int) != q)].length)) = n := by
    simp [List.length_take, hlen]; omega
   simp only [e4]
   rw [e1, if_neg (by omega)]
theorem JbQ (q : Int) (i : Nat) : AH.isRow [MO.row 4 1 (Ja7 q i)] 1 (MV.slc (List.length ([] : AH)) 1 0 30) = true := rfl
theorem JcC (q : Int) (i : Nat) (hi : i < 30) : AH.ok [MO.row 4 1 (Ja7 q i)] (MV.slc (List.length ([] : AH)) 1 0 30) (i * 1 + 0) 1 = true := by
 have h : (AH.fl [MO.row 4 1 (Ja7 q i)] 0).length = 30 := rfl
 unfold AH.ok
 simp only [JbQ, Bool.true_and, MV.ob, List.length_nil, h, MV.ix]
 exact Nat.ble_eq_true_of_le (by omega)
theorem JjT (q : Int) (i : Nat) (hi : i < 30) : AH.wr [MO.row 4 1 (Ja7 q i)] (MV.slc (List.length ([] : AH)) 1 0 30) (i * 1 + 0) [MV.bool ((i : Int) != q)] = [MO.row 4 1 (Ja7 q (i + 1))] := by
 have h : AH.wr [MO.row 4 1 (Ja7 q i)] (MV.slc (List.length ([] : AH)) 1 0 30) (i * 1 + 0) [MV.bool ((i : Int) != q)] = [MO.row 4 1 (Jey (Ja7 q i) (0 * 1 + (i * 1 + 0)) [MV.bool ((i : Int) != q)])] := rfl
 rw [h, show 0 * 1 + (i * 1 + 0) = i by omega, Jjs q i hi]
theorem Jjf (l : List R) (sf k : Int) {q : Int} (hq : IntKind.i64.wrap ((IntKind.u64.wrap k).tmod (IntKind.u64.wrap (IntKind.i64.wrap ((IntKind.i64.wrap ((↑(List.length l) : Int) - (IntKind.i64.wrap ((IntKind.u64.wrap sf).tmod (IntKind.u64.wrap (IntKind.i64.wrap ((↑(List.length l) : Int) + (1 : Int)))))))) + (1 : Int))))) = q) (d : MV) (H0 : AH) : ∀ (j i : Nat), i + j = 30 → Vg l sf k d H0 (j + 1) [MO.row 4 1 (Ja7 q i)] (i : Int) = some [MO.row 4 1 (Ja7 q 30)] := by
 intro j
 induction j with
 | zero =>
  intro i hi
  obtain rfl : i = 30 := by omega
  rw [Vg, if_pos (JbQ _ _), if_neg (by simp [MV.len])]
 | succ j ih =>
  intro i hi
  have h30 : MV.len (MV.slc (List.length ([] : AH)) 1 0 30) = 30 := rfl
  rw [Vg, if_pos (JbQ _ _), h30, if_pos (by simp; omega), if_pos ⟨by omega, JbQ _ _⟩, Int.toNat_natCast, if_pos (JcC q i (by omega)), hq, JjT q i (by omega), QO ((i : Int) + 1) (by omega) (by omega)]
  exact ih (i + 1) (by omega)
theorem Jir (l : List R) (sf k : Int) {q : Int} (hq : IntKind.i64.wrap ((IntKind.u64.wrap k).tmod (IntKind.u64.wrap (IntKind.i64.wrap ((IntKind.i64.wrap ((↑(List.length l) : Int) - (IntKind.i64.wrap ((IntKind.u64.wrap sf).tmod (IntKind.u64.wrap (IntKind.i64.wrap ((↑(List.length l) : Int) + (1 : Int)))))))) + (1 : Int))))) = q) (d : MV) (H0 : AH) : ∀ (j i : Nat), i + j = 30 → Vh l sf k d H0 (j + 1) [MO.row 4 1 (Ja7 q i)] (i : Int) = some [MO.row 4 1 (Ja7 q 30)] := by
 intro j
 induction j with
 | zero =>
  intro i hi
  obtain rfl : i = 30 := by omega
  rw [Vh, if_pos (JbQ _ _), if_neg (by simp [MV.len])]
 | succ j ih =>
  intro i hi
  have h30 : MV.len (MV.slc (List.length ([] : AH)) 1 0 30) = 30 := rfl
  rw [Vh, if_pos (JbQ _ _), h30, if_pos (by simp; omega), if_pos ⟨by omega, JbQ _ _⟩, Int.toNat_natCast, if_pos (JcC q i (by omega)), hq, JjT q i (by omega), QO ((i : Int) + 1) (by omega) (by omega)]
  exact ih (i + 1) (by omega)
theorem Jeu (q : Int) : AH.isBools [MO.row 4 1 (Ja7 q 30)] (MV.slc (List.length ([] : AH)) 1 0 30) = true ∧ AH.bools [MO.row 4 1 (Ja7 q 30)] (MV.slc (List.length ([] : AH)) 1 0 30) = (List.range 30).map fun j => ((j : Nat) : Int) != q := ⟨rfl, rfl⟩
theorem Jhk (keep : List Bool) (torn at_ : Int) : ∀ (p q : List (List Int)) (k : Nat), XK keep torn at_ k (p ++ q) = XK keep torn at_ k p ++ XK keep torn at_ (k + p.length) q := by
 intro p
 induction p with
 | nil => intro q k; rfl
 | cons x p ih => intro q k; simp only [List.cons_append, XK, ih, List.length_cons]; rw [show k + 1 + p.length = k + (p.length + 1) by omega]
theorem Jcu (keep : List Bool) (at_ : Int) : ∀ (p : List (List Int)) (k : Nat), (∀ i, i < p.length → keep.getD (k + i) false = true) → XK keep (-1) at_ k p = p := by
 intro p
 induction p with
 | nil => intro k _; rfl
 | cons x p ih =>
  intro k h
  have h0 := h 0 (by simp)
  simp only [XK, YS]
  rw [if_neg (by omega), if_pos (by simpa using h0), ih (k + 1) fun i hi => by have := h (i + 1) (by simpa using hi); rwa [show k + (i + 1) = k + 1 + i by omega] at this]
theorem Je1 (q i : Nat) (hi : i < 30) : ((List.range 30).map fun j => ((j : Nat) : Int) != (q : Int)).getD i false = decide (i ≠ q) := by
 have h : ((List.range 30).map fun j => ((j : Nat) : Int) != (q : Int)).getD i false = ((i : Int) != (q : Int)) := by
  simp [List.getD, hi]
 rw [h]
 by_cases e : i = q
 ·simp [e]
 ·simp [e]; omega
theorem Jih (l : List R) (s q : Nat) (hn : l.length ≤ 20) (hs : s + q ≤ l.length) (ho : Ok l) : ∃ C, (Fl.crash ((List.range 30).map fun j => ((j : Nat) : Int) != (q : Int)) (-1) 0 0 ⟨fl (l.take s), (l.drop s).map fun r => frm r.1 r.2⟩).all = fl (l.take (s + q)) ++ C ∧ Byt C ∧ Stop (l.take (s + q)) C ∧ C.length ≤ 50000 := by
 have hl := Jkm ho
 have e0 : fl (l.take (s + q)) = fl (l.take s) ++ fl ((l.drop s).take q) := by
  rw [← Jej]; congr 1
  rw [List.take_add]
 have e1 : (l.drop s).map (fun r : R => frm r.1 r.2) = ((l.drop s).take q).map (fun r : R => frm r.1 r.2) ++ (l.drop (s + q)).map (fun r : R => frm r.1 r.2) := by
  rw [← List.map_append]; congr 1
  rw [← List.drop_drop, List.take_append_drop]
 have hlen : (((l.drop s).take q).map fun r : R => frm r.1 r.2).length = q := by simp; omega
 have e2 : XK ((List.range 30).map fun j => ((j : Nat) : Int) != (q : Int)) (-1) 0 0 (((l.drop s).take q).map fun r : R => frm r.1 r.2) = ((l.drop s).take q).map fun r : R => frm r.1 r.2 := by
  refine Jcu _ _ _ _ fun i hi => ?_
  rw [hlen] at hi
  rw [Nat.zero_add, Je1 q i (by omega)]
  exact decide_eq_true (by omega)
 have e3 : (Fl.crash ((List.range 30).map fun j => ((j : Nat) : Int) != (q : Int)) (-1) 0 0 ⟨fl (l.take s), (l.drop s).map fun r => frm r.1 r.2⟩).all = fl (l.take (s + q)) ++ (XK ((List.range 30).map fun j => ((j : Nat) : Int) != (q : Int)) (-1) 0 q ((l.drop (s + q)).map fun r : R => frm r.1 r.2)).flatten := by
  unfold Fl.crash Fl.all
  simp only
  rw [e1, Jhk, e2, hlen, Nat.zero_add, List.flatten_append, ← Ji2, e0]
  simp
 by_cases hlt : s + q < l.length
 ·have e4 : l.drop (s + q) = l[s + q] :: l.drop (s + q + 1) := List.drop_eq_getElem_cons hlt
  have e5 : XK ((List.range 30).map fun j => ((j : Nat) : Int) != (q : Int)) (-1) 0 q ((l.drop (s + q)).map fun r : R => frm r.1 r.2) = List.replicate (frm l[s + q].1 l[s + q].2).length 0 :: (l.drop (s + q + 1)).map fun r : R => frm r.1 r.2 := by
   rw [e4, List.map_cons]
   simp only [XK, YS]
   rw [if_neg (by omega), if_neg (by rw [Je1 q q (by omega)]; simp)]
   congr 1
   refine Jcu _ _ _ _ fun i hi => ?_
   rw [List.length_map, List.length_drop] at hi
   rw [Je1 q (q + 1 + i) (by omega)]
   exact decide_eq_true (by omega)
  refine ⟨_, e3, ?_, ?_, ?_⟩
  ·rw [e5, List.flatten_cons, ← Ji2]
   exact (Byt.rep _).app (JhE fun r hr => ho r (List.mem_of_mem_drop hr))
  ·refine Jdx _ _ ?_
   rw [e5, List.flatten_cons, WB]
   rfl
  ·rw [e5, List.flatten_cons, ← Ji2, List.length_append, List.length_replicate, WB]
   have g1 := Jkm fun r hr => ho r (List.mem_of_mem_drop (i := s + q + 1) hr)
   have g2 := (ho _ (List.getElem_mem hlt)).2.1
   rw [List.length_drop] at g1
   omega
 ·have e4 : l.drop (s + q) = [] := List.drop_eq_nil_of_le (by omega)
  rw [e4] at e3
  exact ⟨_, e3, Byt.nil, JfV _, by simp [XK]⟩
theorem JcF {l : List R} {s q c : Nat} (hn : l.length ≤ 20) (hs : s + q ≤ l.length) (ho : Ok l) {H : AH} {d : MV} (h : JJ c H d (On 131072 (Qu [⟨fl (l.take s), (l.drop s).map fun r => frm r.1 r.2⟩]) 0)) :
  ∃ H1 H2 H3 e, JX H d ((List.range 30).map fun j => ((j : Nat) : Int) != (q : Int)) (-1) 0 = some H1 ∧ Vc H1 d = some H2 ∧ VR H2 d = some (d, e, 0, [], l.take (s + q), 0, H3) ∧ XJ (l.take (s + q)) (l.take (s + q)) = some true := by
 obtain ⟨H1, H2, life, e1, e2, h2⟩ := Jbw h ((List.range 30).map fun j => ((j : Nat) : Int) != (q : Int)) (-1) 0
 have Jw : Qu [(⟨fl (l.take s), (l.drop s).map fun r => frm r.1 r.2⟩ : Fl)] = [(0, ⟨fl (l.take s), (l.drop s).map fun r => frm r.1 r.2⟩)] := rfl
 rw [Jw, JdM] at h2
 obtain ⟨C, g1, g2, g3, g4⟩ := Jih l s q hn hs ho
 have hok : Ok (l.take (s + q)) := fun r hr => ho r (List.mem_of_mem_take hr)
 have hfl := Jkm hok
 rw [List.length_take] at hfl
 obtain ⟨H3, ends, Z', e3, _⟩ := Jfn (P := []) (p := l.take (s + q)) (C := C) (Z := []) h2 (Jhz [_] 0 (by simp)) (by simp [WT]) (fun x hx => by simp at hx; subst hx; exact hok) rfl g1 g2 g3 (fun g hg => by
   rw [List.mem_singleton.1 (show g ∈ [_] from hg), g1, List.length_append]; omega) (by simp; omega)
 refine ⟨H1, H2, H3, ends, e1, e2, ?_, ?_⟩
 ·simpa using e3
 ·exact Jif _ (by rw [List.length_take]; omega) fun r hr => by have := (hok r hr).2.1; omega
theorem StoreCrash : ∀ (a0 : List (Int × List Int)) (a1 : Int) (a2 : Int), (∀ r ∈ a0, (Lit.int .i64 r.1).wf = true ∧ ∀ x ∈ r.2, (Lit.int .u8 x).wf = true) → (Lit.int .i64 a1).wf = true → (Lit.int .i64 a2).wf = true → WJ a0 a1 a2 = some true := by
 intro l sf k hwf _ _
 unfold WJ
 by_cases hn : l.length ≤ 20
 case neg => rw [if_pos (by simp; omega)]
 rw [if_neg (by simp; omega)]
 have ek : ((l.length : Int) - 0).toNat + 1 = l.length + 1 := by omega
 rw [ek]
 rcases JiF l (fun r hr => (hwf r hr).2) (by omega) sf k l.length 0 0 (by omega) (by decide) (by omega) with g | ⟨ho, g⟩
 ·refine (congrArg (fun z => Option.bind z _) g).trans ?_
  rfl
 refine (congrArg (fun z => Option.bind z _) g).trans ?_
 rw [Option.bind_some]
 simp only
 rw [List.drop_zero] at ho ⊢
 by_cases hl : (fl l).length ≤ 4096
 case neg => rw [if_pos (by simp; omega)]
 rw [if_neg (by simp; omega)]
 obtain ⟨u1, s, hs, hs2⟩ := Jly sf ((l.length : Int) + 1) (by omega) (by omega)
 obtain ⟨u2, q, hq0, hq2⟩ := Jly k ((l.length : Int) - s + 1) (by omega) (by omega)
 have ens : IntKind.i64.wrap ((l.length : Int) - (s : Int)) = (l.length : Int) - s := QO _ (by omega) (by omega)
 have hq : IntKind.i64.wrap ((IntKind.u64.wrap k).tmod (IntKind.u64.wrap (IntKind.i64.wrap ((IntKind.i64.wrap ((↑(List.length l) : Int) - (IntKind.i64.wrap ((IntKind.u64.wrap sf).tmod (IntKind.u64.wrap (IntKind.i64.wrap ((↑(List.length l) : Int) + (1 : Int)))))))) + (1 : Int))))) = (q : Int) := by rw [hs, ens]; exact hq0
 rw [if_pos u1, hs, ens, if_pos u2, hq0, QO ((s : Int) + q) (by omega) (by omega)]
 obtain ⟨H, e1, h1⟩ := Jhx
 obtain ⟨hN, hP⟩ := Jj8 h1
 rw [e1, Option.bind_some]
 simp only
 rw [if_pos (.inr hP), if_neg (by decide)]
 obtain ⟨H1, ends, dirty, f, m, e2, c, hm⟩ := JiN ho hl (by omega) sf k hs (.ptr 1 0) (.ptr 1 0) l.length 0 0 H [] [] ⟨[], []⟩ (by omega) ⟨h1, rfl, rfl, Nat.le_refl _, by omega, (fun x hx => by cases hx), (fun hx => absurd rfl hx), rfl, by simp⟩ (fun _ => rfl) (fun hx => by omega)
 refine (congrArg (fun z => Option.bind z _) e2).trans ?_
 rw [Option.bind_some]
 simp only
 have e30 : (([] : AH) ++ [MO.row 4 1 (List.replicate 30 (MV.bool false))]) = [MO.row 4 1 (Ja7 (q : Int) 0)] := rfl
 obtain ⟨b1, b2⟩ := Jeu (q : Int)
 have etn : ((s : Int) + (q : Int)).toNat = s + q := by omega
 rw [e30, etn]
 by_cases hsn : s = l.length
 ·rw [if_pos (by simp; omega)]
  obtain ⟨H2, e3, c2⟩ := c.sync (List.length ends / 2)
  obtain ⟨H3, H4, H5, e, r1, r2, r3, r4⟩ := JcF (l := l) (s := s) (q := q) hn (by omega) ho (H := H2) (d := .ptr 1 0) (by
   have h := c2.h
   have ef : f.settle = ⟨fl (l.take s), (l.drop s).map fun r => frm r.1 r.2⟩ := by
    have := c2.fs; have := c2.fp
    rw [show f.settle = ⟨f.settle.s, f.settle.ps⟩ from rfl, c2.fs, c2.fp, hsn]
    simp
   rw [ef] at h; exact h)
  rw [e3, Option.bind_some]
  simp only
  rw [if_neg (by decide)]
  refine (congrArg (fun z => Option.bind z _) (Jjf l sf k hq (.ptr 1 0) H2 30 0 rfl)).trans ?_
  rw [Option.bind_some, if_pos b1, b2, r1, Option.bind_some, r2, Option.bind_some, r3, Option.bind_some]
  simp only
  rw [if_pos (by decide), if_pos (by omega), r4, Option.bind_some, if_pos rfl, Jfs]
  rfl
 ·rw [if_neg (by simp; omega)]
  obtain ⟨H3, H4, H5, e, r1, r2, r3, r4⟩ := JcF (l := l) (s := s) (q := q) hn (by omega) ho (H := H1) (d := .ptr 1 0) (by
   have h := c.h
   have ef : f = ⟨fl (l.take s), (l.drop s).map fun r => frm r.1 r.2⟩ := by
    have em := hm (by omega)
    have e1 := c.fs; have e2 := c.fp
    rw [em] at e1 e2
    rw [show f = ⟨f.s, f.ps⟩ from rfl, e1, e2, List.take_length]
   rw [ef] at h; exact h)
  refine (congrArg (fun z => Option.bind z _) (Jir l sf k hq (.ptr 1 0) H1 30 0 rfl)).trans ?_
  rw [Option.bind_some, if_pos b1, b2, r1, Option.bind_some, r2, Option.bind_some, r3, Option.bind_some]
  simp only
  rw [if_pos (by decide), if_pos (by omega), r4, Option.bind_some, if_pos rfl, Jfs]
  rfl
end Go.St
