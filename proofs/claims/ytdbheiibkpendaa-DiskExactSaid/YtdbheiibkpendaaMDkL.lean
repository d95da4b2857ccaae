/- DiskCuts, DiskRoom. -/
import Derived.Test.YtdbheiibkpendaaMDkA
namespace Go.Dk
open Go Go.Gw Go.Proofs.Sd.D
set_option linter.unusedSimpArgs false
set_option linter.unusedVariables false
theorem ptr_ok {c : Nat} {H : AH} {i : Nat} {A : Dk} (h : DiskAt c H (.ptr i 0) A) : AH.ok H (.ptr i 0) 0 1 = true := by
 obtain ⟨i', m, js, hi, L, a, h, _⟩ := h
 simp only [MV.ptr.injEq, and_true] at hi
 subst hi
 rw [okC h.d]; rfl
theorem new_at (lim : Int) (h1 : 1 ≤ lim) (h2 : lim ≤ 131072) : ∃ H, disk_New lim = some (.ptr 1 0, 0, H) ∧ DiskAt 0 H (.ptr 1 0) (On lim [] 0) := new_ok lim h1 h2
end Go.Dk
/- DiskRoom. -/
namespace Go.Dk
open Go Go.Gw Go.Proofs.Sd.D
set_option linter.unusedSimpArgs false
set_option linter.unusedVariables false
end Go.Dk
/- DiskLives. -/
namespace Go.Dk
open Go Go.Gw Go.Proofs.Sd.D
set_option linter.unusedSimpArgs false
set_option linter.unusedVariables false
def bs (i : Nat) : List Int := (List.range i).map fun j => ((j + 1 : Nat) : Int)
theorem bs_get (i j : Nat) (h : j < i) : (bs i).getD j 0 = ((j + 1 : Nat) : Int) := by
 simp [bs, List.getD_eq_getElem?_getD, List.getElem?_map, List.getElem?_range h]
theorem DiskAt.re {c c' : Nat} {H : AH} {d : MV} {A : Dk} (h : DiskAt c H d A) (hc : c' ≤ 1000000) (hp : ∀ p ∈ A.fs, p.2.ps.length ≤ c') : DiskAt c' H d A := by
 obtain ⟨i, m, js, hi, L, a, h1, h2, h3, h4, h5⟩ := h
 exact ⟨i, m, js, hi, L, a, h1, h2, h3, h4, ⟨hc, h5.rg, hp, h5.us, h5.lim, h5.nd⟩⟩
end Go.Dk
/- DiskTrips. -/
namespace Go.Dk
open Go Go.Gw Go.Proofs.Sd.D
set_option linter.unusedSimpArgs false
set_option linter.unusedVariables false
section
variable {A : Dk} {n : Int}
end
def T (K : Bool) (N i : Nat) : Dk := ⟨131072, [(0, ⟨[], List.replicate i [9]⟩)], false, 0, some (((N - i : Nat) : Int), List.replicate 40 K, -1, 0)⟩
end Go.Dk
