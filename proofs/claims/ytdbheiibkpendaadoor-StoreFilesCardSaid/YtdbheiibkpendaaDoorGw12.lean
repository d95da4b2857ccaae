/- The walk's engine, part 12: from a law's contract to its row. -/
import Derived.Test.YtdbheiibkpendaaDoorGw10
import Derived.ProofKit
import Derived.ChangeShapes
import Derived.OpenShut
import Derived.ShutString
import Derived.ChangeOld
import Derived.Below
import Derived.SizedLaws
import Derived.Carry
import Derived.ChangeSlices
import Derived.ChangeSame
import Derived.Deep.SlicePairs
namespace Go.Gw
open Go.RowKit Go.ChangeShapes Go.WideShapes Go.ChangeAt
variable {P : Program}
def handG : List (Nat × Value) → Nat → Value
 | [], _ => .nilFunc
 | (κ, v) :: r, x => bif Nat.beq κ x then v else handG r x
theorem handG_one {l : List (Nat × Value)} (h : ∀ p ∈ l, p.2.oneCell' = true) (κ : Nat) : (handG l κ).oneCell' = true := by
 induction l with
 | nil => rfl
 | cons p r ih =>
  obtain ⟨κ', v⟩ := p
  simp only [handG]
  cases Nat.beq κ' κ with
  | true => exact h (κ', v) (by simp)
  | false => exact ih fun p hp => h p (by simp [hp])
theorem calls_of_ok1 {f : Nat} {fn : Func} {c : Code} {args : List SV} {pre : List (Nat × Ent)} {res : SV} (hf : P.funcs[f]? = some fn) (hnm : (fn.name == "runtime.NumGoroutine") = false) (hb : fn.body = some c)
  (h : CallOk P f args pre res []) (hok : ∀ x ∈ args, x.ok) (γ : Nat → Value) (h1 : ∀ κ, (γ κ).oneCell' = true) (w : World) (hp : ∀ p ∈ pre, p.2.at (Ge w) γ w p.1) (hm : ∀ p ∈ pre, p.2.mut = false) :
  Calls P f (args.map (SV.den γ)).toArray w fun e w' => e = .returned (res.den γ) ∧ Below w.heap.size w w' := by
 have := h (Ge w) γ w hp (fun p hpp q _ _ hmu => by rw [hm p hpp] at hmu; cases hmu) hok (fun b hb => hb) h1
 unfold RunOk at this
 rw [callFunc_enter hf hnm hb] at this
 refine Calls.mono this ?_
 rintro e w' ⟨v, rfl, γ', g1, _, h2, _, h3, _⟩
 refine ⟨?_, ⟨h3.os, h3.tape, h3.output, h3.size, fun k hk => h3.block k hk fun ht => ?_⟩⟩
 ·rw [h2]
  congr 1
  exact SV.den_congr fun κ _ => g1 κ (by simp)
 ·rcases ht with ht | ⟨p, hpp, hmu, _⟩
  ·omega
  ·rw [hm p hpp] at hmu; cases hmu
section
variable {H : Type} {enc : TypeId × Value → H} {w : World} {base : Nat} {spare : Nat → Bool} {held : Bool}
theorem has_lt {w : World} {r : Reach} {b0 : Nat} {a : Addr} {e : TypeId} {n : Nat} (h : w.has P r b0 a e n) : a.spot = none ∧ a.block < w.heap.size := by
 obtain ⟨_, h1, row, cells, h2, _⟩ := h
 refine ⟨h1, ?_⟩
 rcases Nat.lt_or_ge a.block w.heap.size with h' | h'
 ·exact h'
 ·simp [World.shape?, Array.getElem?_eq_none h'] at h2
theorem open_slc {r : Reach} {b0 : Nat} {t e : TypeId} {k : IntKind} {v : Value} {d : DataW H} {ps : List MemPlace} (ht : P.underlying t = some (.slice e)) (he : P.underlying e = some (.int k)) (hce : P.cellsOf e = 1)
  (hval : Value.okWide P w r b0 t v) (hd : DataW.Trod enc P w base spare held t v d ps) :
  ∃ l : List Int, RdI w v k l ∧ v.oneCell' = true ∧ ∀ x ∈ l, (Lit.int k x).wf = true := by
 obtain ⟨fuel, hf⟩ := hd
 have hc : Cell.ok P w r b0 t v := by
  unfold Value.okWide at hval
  rw [ht] at hval
  unfold Cell.okWide at hval
  rw [ht] at hval
  simpa using hval
 unfold Cell.ok at hc
 rw [ht] at hc
 split at hc <;> first | (rename_i h1; cases h1; done) | (rename_i h1 _; cases h1; done) | (rename_i h1 _ _; cases h1; done) | skip
 all_goals first
  | exact hc.elim
  | skip
 ·exact ⟨[], .inl ⟨⟨none, rfl⟩, rfl⟩, rfl, by simp⟩
 ·rename_i e' a len cap h1
  cases h1
  obtain ⟨h2, h3, h4⟩ := hc
  obtain ⟨q1, q2⟩ := has_lt h4
  rcases open_ints ht he hce hf with ⟨h, _⟩ | ⟨a', len', cap', zs, h, _, g1, g2, g3, _, g5, g6⟩
  ·simp [Value.cells] at h
  ·simp only [Value.cells, List.cons.injEq, Value.slice.injEq, Option.some.injEq, and_true] at h
   obtain ⟨rfl, rfl, rfl⟩ := h
   have hlz : len ≤ zs.length := by rw [g3]; split <;> omega
   have hlen : (zs.take len).length = len := by simp; omega
   refine ⟨zs.take len, .inr ⟨a, cap, by rw [hlen], by rw [hlen]; exact g1, g2, q2, q1, fun i hi => ?_⟩, rfl, fun x hx => g6 x (List.mem_of_mem_take hx)⟩
   rw [hlen] at hi
   rw [g5 i (by omega)]
   simp [List.getD, hi]
end
end Go.Gw
