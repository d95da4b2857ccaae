/- The page's SHA-512: padding. -/
import Derived.Test.YtdolipgngaljcaaWdE
namespace Go.Wd
open Go Go.Gw Go.Proofs.Sa.D
theorem pad_w (b : List Int) : ∀ (d f : Nat) (out : List Int), (out.length + d) % 128 = 112 → d < 128 → d < f → out.length + d ≤ 100000 →
    wide_padded_l0 b f out = some (out ++ List.replicate d 0) := by
  intro d
  induction d with
  | zero =>
    intro f out h _ hf hl
    obtain ⟨f, rfl⟩ : ∃ g, f = g + 1 := ⟨f - 1, by omega⟩
    have e : (out.length : Int).tmod 128 = ((out.length % 128 : Nat) : Int) := rfl
    rw [wide_padded_l0, e, show out.length % 128 = 112 by omega, if_neg (by decide)]; simp
  | succ d ih =>
    intro f out h h1 hf hl
    obtain ⟨f, rfl⟩ : ∃ g, f = g + 1 := ⟨f - 1, by omega⟩
    have e : (out.length : Int).tmod 128 = ((out.length % 128 : Nat) : Int) := rfl
    have hc : ((((out.length % 128 : Nat) : Int)) != 112) = true := by simp; omega
    have r := ih f (out ++ [0]) (by simp; omega) (by omega) (by omega) (by simp; omega)
    rw [wide_padded_l0, e, if_pos hc, if_pos (by simp; unfold maxN; omega), r, List.append_assoc]; rfl
theorem pad_r (b : List Int) : ∀ (d f : Nat) (out : List Int), (out.length + d) % 128 = 112 → d < 128 → d < f → out.length + d ≤ 100000 →
    ref01_padded_l0 b 128 16 f out = some (out ++ List.replicate d 0) := by
  intro d
  induction d with
  | zero =>
    intro f out h _ hf hl
    obtain ⟨f, rfl⟩ : ∃ g, f = g + 1 := ⟨f - 1, by omega⟩
    have e0 : IntKind.i64.wrap ((↑(List.length out) : Int) + 16) = ((out.length + 16 : Nat) : Int) := by rw [i64s _ (by omega) (by omega)]; omega
    have e : ((out.length + 16 : Nat) : Int).tmod 128 = (((out.length + 16) % 128 : Nat) : Int) := rfl
    rw [ref01_padded_l0, e0, e, show (out.length + 16) % 128 = 0 by omega, if_pos (by decide), if_neg (by decide)]; simp
  | succ d ih =>
    intro f out h h1 hf hl
    obtain ⟨f, rfl⟩ : ∃ g, f = g + 1 := ⟨f - 1, by omega⟩
    have e0 : IntKind.i64.wrap ((↑(List.length out) : Int) + 16) = ((out.length + 16 : Nat) : Int) := by rw [i64s _ (by omega) (by omega)]; omega
    have e : ((out.length + 16 : Nat) : Int).tmod 128 = (((out.length + 16) % 128 : Nat) : Int) := rfl
    have hc : (((((out.length + 16) % 128 : Nat) : Int)) != 0) = true := by simp; omega
    have r := ih f (out ++ [0]) (by simp; omega) (by omega) (by omega) (by simp; omega)
    rw [ref01_padded_l0, e0, e, if_pos (by decide), if_pos hc, if_pos (by simp; unfold maxN; omega), r, List.append_assoc]; rfl
end Go.Wd
