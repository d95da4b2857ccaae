/- What has no room is refused; StoreFull. -/
import Derived.Test.YtdbheiibkpendaaDoorMStA
namespace Go.St
open Go Go.Gw Go.Dk Go.Fr Go.Proofs.Se.D
set_option linter.unusedSimpArgs false
set_option linter.unusedVariables false
theorem JkV (l : List R) (hb : ∀ r ∈ l, Byt r.2) (hn : l.length ≤ 30) {lim : Int} (hlim : lim ≤ 3000) (d : MV) : ∀ (j i c : Nat) (H : AH) (ends dirty : List Int) (want : List R) (f : Fl) (left : Int), i + j = l.length → JI c H d (On lim (YX [f]) 0) → c ≤ i → f.all = fl want → Ok want → want.length ≤ i →
  left = lim - ((fl want).length : Int) → 0 ≤ left → ends.length = 2 * want.length → dirty.length ≤ i →
  ∃ H' want' f' c', JZ l d d (j + 1) H ends 0 dirty want left (i : Int) = some (.inl (H', want')) ∧ JI c' H' d (On lim (YX [f']) 0) ∧ f'.all = fl want' ∧ Ok want' ∧ want'.length ≤ 30 ∧ ((fl want').length : Int) ≤ lim := by
 intro j
 induction j with
 | zero =>
  intro i c H ends dirty want f left hi h hc hf ho hw hleft h0 he hd
  refine ⟨H, want, f, c, ?_, h, hf, ho, by omega, by omega⟩
  rw [JZ, if_neg (by simp; omega)]
 | succ j ih =>
  intro i c H ends dirty want f left hi h hc hf ho hw hleft h0 he hd
  have hi' : i < l.length := by omega
  have eg : l.getD (i : Int).toNat (0, []) = l[i] := by simp [List.getD, hi']
  have ei : IntKind.i64.wrap ((i : Int) + 1) = ((i + 1 : Nat) : Int) := JaV _ (by omega) (by omega)
  rw [JZ, if_pos (by simp; omega), if_pos (by omega), eg, ei]
  have hB := hb _ (List.getElem_mem hi')
  rcases Jg2 l[i].1 l[i].2 with ⟨e, hc', er⟩ | ⟨hk, hl, er⟩
  ·rw [er, Option.bind_some, if_pos hc']
   exact ih (i + 1) c H ends dirty want f left (by omega) h (by omega) hf ho (by omega) hleft h0 he (by omega)
  ·have en : IntKind.i64.wrap (7 + (l[i].2.length : Int)) = 7 + (l[i].2.length : Int) := JaV _ (by omega) (by omega)
   have et : tot ([] ++ [f]) = f.all.length := by simp [tot]
   have ef : f.all.length < 4096 := by rw [hf]; omega
   rw [er, Option.bind_some, if_neg (by decide), en]
   by_cases hroom : left < 7 + (l[i].2.length : Int)
   ·obtain ⟨H', e1, h1⟩ := Je5 (Z := []) h (by omega) hk hB hl (by rw [et, hf]; omega) ef (ends := ends) (dirty := dirty)
    have e1' : Jn H d ends 0 dirty l[i].1 l[i].2 = some (9, ends, 0, dirty, H') := e1
    rw [e1', Option.bind_some]
    simp only
    rw [if_pos (by simp; omega), if_neg (by decide)]
    simp only [VP, Option.bind_some]
    rw [if_neg (by rw [he]; simp)]
    exact ih (i + 1) (c + 1) H' ends dirty want f left (by omega) h1 (by omega) hf ho (by omega) hleft h0 he (by omega)
   ·obtain ⟨H', x, Z', f', e1, lx, h1, hp⟩ := Xj (Z := []) h (by omega) hk hB hl (by rw [et, hf]; omega) (fun h => by omega) (ends := ends) (dirty := dirty) (by omega) (by omega)
    obtain ⟨rfl, rfl⟩ : Z' = [] ∧ f' = ⟨f.s, f.ps ++ [frm l[i].1 l[i].2]⟩ := by
     cases hp with
     | here => exact ⟨rfl, rfl⟩
     | next h => omega
    have e1' : Jn H d ends 0 dirty l[i].1 l[i].2 = some (0, ends ++ x, 0, ins dirty 0, H') := e1
    have ea : fl (want ++ [(l[i].1, l[i].2)]) = fl want ++ frm l[i].1 l[i].2 := by rw [JdB]; simp [fl]
    have eal : ((fl (want ++ [(l[i].1, l[i].2)])).length : Int) = (fl want).length + (7 + l[i].2.length) := by rw [ea, List.length_append, WG]; omega
    rw [e1', Option.bind_some]
    simp only
    rw [if_neg (by simp; omega), if_neg (by decide), if_pos (by simp [YY]; omega), JaV (left - (7 + (l[i].2.length : Int))) (by omega) (by omega)]
    exact ih (i + 1) (c + 1) H' (ends ++ x) (ins dirty 0) (want ++ [(l[i].1, l[i].2)]) ⟨f.s, f.ps ++ [frm l[i].1 l[i].2]⟩ (left - (7 + (l[i].2.length : Int))) (by omega) h1 (by omega) (by rw [JlH, hf, ea]) (Jj0 ho hk hl hB)
     (by simp; omega) (by rw [eal]; omega) (by omega) (by simp [he, lx]; omega) (by have := JhY dirty 0; omega)
theorem StoreFull : ∀ (a0 : Int) (a1 : List (Int × List Int)), (Lit.int .i64 a0).wf = true → (∀ r ∈ a1, (Lit.int .i64 r.1).wf = true ∧ ∀ x ∈ r.2, (Lit.int .u8 x).wf = true) → WV a0 a1 = some true := by
 intro room l _ hwf
 unfold WV
 by_cases hn : l.length ≤ 30
 case neg => rw [if_pos (by simp; omega)]
 rw [if_neg (by simp; omega)]
 obtain ⟨lim, hlim, h1, h3⟩ : ∃ lim : Int, IntKind.i64.wrap ((1 : Int) + (IntKind.i64.wrap ((IntKind.u64.wrap room).tmod (3000 : Int)))) = lim ∧ 1 ≤ lim ∧ lim ≤ 3000 := by
  have h3 : (IntKind.u64.wrap room).tmod 3000 = (IntKind.u64.wrap room) % 3000 := Int.tmod_eq_emod_of_nonneg (Jla room)
  refine ⟨1 + (IntKind.u64.wrap room) % 3000, ?_, by omega, by omega⟩
  rw [h3, JaV ((IntKind.u64.wrap room) % 3000) (by omega) (by omega), JaV _ (by omega) (by omega)]
 rw [hlim]
 obtain ⟨H, e0, h0⟩ := JjR lim h1 (by omega)
 obtain ⟨H1, e1, h1'⟩ := Jeb (show JI 0 H (.ptr 1 0) (On lim [] 0) from h0)
 obtain ⟨hN, hP⟩ := JkT h1'
 obtain ⟨H2, want, f, c, e2, h2, hf, ho, hw, hfl⟩ := JkV l (fun r hr => (hwf r hr).2) hn h3 (.ptr 1 0) l.length 0 0 H1 [] [] [] ⟨[], []⟩ lim (by omega) h1' (Nat.le_refl _) rfl (fun r hr => by cases hr) (by simp) (by simp [fl]) (by omega) rfl (by simp)
 have hfn : (fl want).length ≤ 3000 := by omega
 obtain ⟨H3, ends, Z', e3, _⟩ := JfN (P := []) (p := want) (C := []) (Z := []) h2 (Jhe [_] 0 (by simp)) (fun _ => Jft _ _ (by simp)) (fun x hx => by simp at hx; subst hx; exact ho) rfl (by rw [hf]; simp) Byt.nil (Jfi _) (fun g hg => by
   rw [List.mem_singleton.1 (show g ∈ [_] from hg), hf]; omega) (by simp; omega)
 have e3' : Vo H2 (.ptr 1 0) = some (.ptr 1 0, ends, 0, [], want, 0, H3) := by simpa using e3
 rw [e0, Option.bind_some]
 simp only
 rw [e1, Option.bind_some]
 simp only
 rw [if_neg (by decide), if_neg (by decide), if_pos (.inr hP), if_neg (by decide)]
 have ek : ((l.length : Int) - 0).toNat + 1 = l.length + 1 := by omega
 rw [ek]
 refine (congrArg (fun z => Option.bind z _) e2).trans ?_
 rw [Option.bind_some]
 simp only
 rw [e3', Option.bind_some]
 simp only
 rw [if_pos (by decide), JhK want (by omega) (fun r hr => by have := (ho r hr).2.1; omega), Option.bind_some, if_pos rfl, Ji0]
 rfl
end Go.St
