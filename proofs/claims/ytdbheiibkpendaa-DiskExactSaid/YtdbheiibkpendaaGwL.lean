/- The walk's engine: a law's arguments that are slices of truths, of records of numbers, bytes and truths, opened. -/
import Derived.Test.YtdbheiibkpendaaGw12
import Derived.Test.YtdbheiibkpendaaGwL0
import Derived.Deep.Grids
namespace Go.Gw
open Go.RowKit Go.ChangeShapes Go.WideShapes Go.ChangeAt
variable {P : Program}
section
variable {H : Type} {enc : TypeId × Value → H} {w : World} {base : Nat} {spare : Nat → Bool} {held : Bool}
theorem open_innerB {t e : TypeId} {v : Value} {n : Nat} {x : DataW H × List MemPlace} (ht : P.underlying t = some (.slice e)) (he : P.underlying e = some .bool) (hce : P.cellsOf e = 1)
  (hf : DataW.trod enc P w base (fun _ => true) held n t [v] = some x) : ∃ l : List Bool, RdB w v l ∧ v.oneCell' = true := by
 rcases Deep.open_bools ht he hce hf with ⟨h, _⟩ | ⟨a, len, cap, B, h, _, h1, h2, _, h4⟩
 ·simp only [List.cons.injEq, and_true] at h
  subst h
  exact ⟨[], .inl ⟨⟨none, rfl⟩, rfl⟩, rfl⟩
 ·simp only [List.cons.injEq, and_true] at h
  subst h
  by_cases hc : cap = 0
  ·subst hc
   obtain rfl : len = 0 := by omega
   exact ⟨[], .inl ⟨⟨some a, rfl⟩, rfl⟩, rfl⟩
  ·have h0 := h4 0 (by omega)
   have h0' : w.cell? a = some (.bool (B 0)) := by simpa [Addr.add] using h0
   obtain ⟨q1, q2⟩ := cell_plain h0'
   refine ⟨(List.range len).map B, .inr ⟨a, cap, by simp, by simpa using h1, h2, q2, q1, fun i hi => ?_⟩, rfl⟩
   have hi : i < len := by simpa using hi
   rw [h4 i (by omega)]
   simp [List.getD_eq_getElem?_getD, List.getElem?_map, List.getElem?_range hi]
def LK.und (P : Program) (t : TypeId) : LK → Prop
 | .int k => P.underlying t = some (.int k)
 | .bytes k e => P.underlying t = some (.slice e) ∧ P.underlying e = some (.int k) ∧ P.cellsOf e = 1
 | .bools e => P.underlying t = some (.slice e) ∧ P.underlying e = some .bool ∧ P.cellsOf e = 1
theorem open_lk {t : TypeId} {k : LK} {v : Value} {n : Nat} {x : DataW H × List MemPlace} (hk : k.und P t) (hf : DataW.trod enc P w base (fun _ => true) held n t [v] = some x) :
  ∃ d : DL, d.at w v ∧ v.oneCell' = true ∧ k.ok d := by
 cases k with
 | int k =>
  cases n with
  | zero => simp [DataW.trod] at hf
  | succ m =>
   obtain ⟨z, h2, _, h4⟩ := DataW.trod_int hk hf
   simp only [List.cons.injEq, and_true] at h2
   subst h2
   exact ⟨.int k z, rfl, rfl, z, rfl, h4⟩
 | bytes k e =>
  obtain ⟨h1, h2, h3⟩ := hk
  obtain ⟨l, q1, q2, q3⟩ := open_inner h1 h2 h3 hf
  exact ⟨.bytes k l, q1, q2, l, rfl, q3⟩
 | bools e =>
  obtain ⟨h1, h2, h3⟩ := hk
  obtain ⟨l, q1, q2⟩ := open_innerB h1 h2 h3 hf
  exact ⟨.bools l, q1, q2, l, rfl⟩
theorem open_gn {r : Reach} {b0 : Nat} {t e : TypeId} {fs : Array Field} {ks : List LK} {v : Value} {d : DataW H} {ps : List MemPlace} (ht : P.underlying t = some (.slice e)) (he : P.underlying e = some (.struct fs)) (hsz : fs.size = ks.length) (hce : P.cellsOf e = ks.length)
  (hks : ∀ (i : Nat) (f : Field) (k : LK), fs[i]? = some f → ks[i]? = some k → f.offset = i ∧ P.cellsOf f.type = 1 ∧ k.und P f.type)
  (hval : Value.okWide P w r b0 t v) (hd : DataW.Trod enc P w base (fun _ => true) held t v d ps) :
  ∃ ll : List (List DL), RdR w v (.gn ks.length ll) ∧ v.oneCell' = true ∧ ∀ r ∈ ll, LKs ks r := by
 obtain ⟨fuel, hf⟩ := hd
 rcases has_slice ht hval with rfl | ⟨a, len, cap, rfl, q1, q2⟩
 ·exact ⟨[], .inl ⟨rfl, rfl⟩, rfl, by simp⟩
 ·rcases Deep.open_slice ht hf with ⟨h, _⟩ | ⟨a', len', cap', m, n, D, Pl, h, _, h1, h2, h3, _, h4⟩
  ·simp [Value.cells] at h
  ·simp only [Value.cells, List.cons.injEq, Value.slice.injEq, Option.some.injEq, and_true] at h
   obtain ⟨rfl, rfl, rfl⟩ := h
   simp only [if_true] at h3
   have each : ∀ i, i < len → ∃ r : List DL, LKs ks r ∧ ∀ j d, r[j]? = some d → ∃ u, w.cell? (a.add (i * ks.length + j)) = some u ∧ u.oneCell' = true ∧ d.at w u := by
    intro i hi
    obtain ⟨cs', g1, g2⟩ := h4 i (by omega)
    rw [hce] at g1
    obtain ⟨_, hlen, hcell⟩ := World.cells?_some g1
    obtain ⟨xs, k', _, _, _, hxl, hff⟩ := DataW.trod_struct he g2
    obtain ⟨r, g3, g4⟩ := gather_list (p := fun j (d : DL) => ∃ u k, cs'[j]? = some u ∧ u.oneCell' = true ∧ d.at w u ∧ ks[j]? = some k ∧ k.ok d) ks.length fun j hj => by
     have hjf : j < fs.size := by omega
     have ef : fs[j]? = some fs[j] := Array.getElem?_eq_getElem hjf
     have ek : ks[j]? = some ks[j] := List.getElem?_eq_getElem hj
     obtain ⟨o1, o2, o3⟩ := hks j _ _ ef ek
     have hx := hff j _ ef
     rw [o1, o2] at hx
     have hjc : j < cs'.length := by omega
     have e1 : (cs'.drop j).take 1 = [cs'[j]] := by rw [List.drop_eq_getElem_cons hjc]; rfl
     rw [e1, List.getElem?_eq_getElem (by omega)] at hx
     obtain ⟨d, d1, d2, d3⟩ := open_lk o3 hx
     exact ⟨d, cs'[j], ks[j], List.getElem?_eq_getElem hjc, d2, d1, ek, d3⟩
    refine ⟨r, ⟨g3, fun j k d hk hd => ?_⟩, fun j d hd => ?_⟩
    ·obtain ⟨u, k2, _, _, _, s4, s5⟩ := g4 j d hd
     rw [hk] at s4; cases s4; exact s5
    ·obtain ⟨u, k2, s1, s2, s3, _, _⟩ := g4 j d hd
     have hj : j < ks.length := by rw [← g3]; exact (List.getElem?_eq_some_iff.1 hd).1
     have e0 := hcell j (by omega)
     rw [Deep.add_add] at e0
     rw [s1] at e0
     exact ⟨u, e0, s2, s3⟩
   obtain ⟨ll, g1, g2⟩ := gather_list len each
   refine ⟨ll, .inr ⟨a, cap, by simp [RowsK.len, g1], by simp [RowsK.len, g1]; exact h1, h2, q2, q1, fun j d hd => ?_⟩, rfl, fun l hl => ?_⟩
   ·have hj2 : j < (RowsK.gn ks.length ll).cells.length := (List.getElem?_eq_some_iff.1 hd).1
    rw [RowsK.cells_len] at hj2
    simp only [RowsK.len, RowsK.sz] at hj2
    have hk0 : 0 < ks.length := by
     rcases Nat.eq_zero_or_pos ks.length with h | h
     ·rw [h] at hj2; omega
     ·exact h
    have hi : j / ks.length < ll.length := Nat.div_lt_of_lt_mul (by rw [Nat.mul_comm]; exact hj2)
    have hm : j % ks.length < ks.length := Nat.mod_lt _ hk0
    obtain ⟨s1, s2⟩ := g2 (j / ks.length) ll[j / ks.length] (List.getElem?_eq_getElem hi)
    have hdm := Nat.div_add_mod j ks.length
    have e1 : (RowsK.gn ks.length ll).cells[j / ks.length * ks.length + j % ks.length]? = some (dlAt ll (j / ks.length) (j % ks.length)) := gn_get _ _ _ _ hi hm
    rw [show j / ks.length * ks.length + j % ks.length = j by rw [Nat.mul_comm]; exact hdm] at e1
    rw [e1] at hd
    cases hd
    have hr : ll[j / ks.length][j % ks.length]? = some (dlAt ll (j / ks.length) (j % ks.length)) := by
     have hrl : j % ks.length < ll[j / ks.length].length := by rw [s1.1]; exact hm
     rw [List.getElem?_eq_getElem hrl]
     simp [dlAt, dlR, List.getD_eq_getElem?_getD, hi, hrl]
    obtain ⟨u, t1, t2, t3⟩ := s2 _ _ hr
    rw [show j / ks.length * ks.length + j % ks.length = j by rw [Nat.mul_comm]; exact hdm] at t1
    exact ⟨u, t1, t2, t3⟩
   ·obtain ⟨j, hj⟩ := List.mem_iff_getElem?.1 hl
    exact (g2 j l hj).1
end
end Go.Gw
