/- Errors: told by their numbers. -/
import Derived.Test.YtdbheiibkpendaaDoorGwK
import Derived.Stop.IfaceNil
namespace Go.Gw
open Go.RowKit Go.MapKept
variable {P : Program} {T : TypeId → Option TD} {B : Nat → Prop} {N : Nat} {w0 : W0} {γ : Nat → Value} {σ σ' : Stt} {a : Act} {w : World}
theorem ErrAt.val {v : Value} {tp ts te : TypeId} {n : Int} (h : ErrAt B w v tp ts te n) : (n = 0 ∧ v = .nilIface) ∨ (n ≠ 0 ∧ ∃ u x, v = .iface u x) := by
 rcases h with h | ⟨h, b, s, f, hv, _⟩
 ·exact .inl h
 ·exact .inr ⟨h, _, _, hv⟩
theorem Jbg (op : BinOp) (t : TypeId) (x : Operand) (v : Value) : (eqGuard op t x (.const .nilIface) v .nilIface).run P w = .ok () w := by
 cases v <;> first
  | (rw [eqGuard_nil_constR]; rfl)
  | (unfold eqGuard; split <;> rfl)
theorem JhN (hT : TOk P T) (I : Inv B N w0 γ σ a w) {o : Oper} {eff : Eff} (h : eiS T σ o.op = some eff) : RunOk P (execOp a.eval o) w (Post B N w0 σ a eff) := by
 obtain ⟨dst, op, ty, pos, after, guard⟩ := o
 simp only at h
 cases op with
 | makeInterface t x =>
  simp only [eiS] at h
  split at h
  ·rename_i k k' n hd hx
   cases hkk : keq k k' with
   | false => simp [hkk] at h
   | true =>
    obtain rfl := Ww hkk
    simp only [hkk, cond_true, Ju, Option.some.injEq] at h
    subst h
    have ex : a.eval x = .int k n := (I.eval hx).1
    have hr : (Instr.makeInterface t (a.eval x)).run P w = .ok (.iface t (.int k n)) w := by
     rw [ex]; simp [Instr.makeInterface, run_underlying (hT _ _ hd).1]
    exact Jl hr ⟨γ, rfl, ⟨trivial, trivial⟩, I⟩
  ·cases h
 | binOp op t x y t' =>
  cases y with
  | const c =>
   cases c with
   | nilIface =>
    have ey : a.eval (.const .nilIface) = .nilIface := rfl
    simp only [eiS] at h
    split at h
    ·rename_i κ hd hx
     have hi : P.isIface t = true := by obtain ⟨ms, hu, _⟩ := hT _ _ hd; simp [Program.isIface, hu]
     have ex : a.eval x = γ κ := (I.eval hx).1
     split at h
     ·rename_i tp ts te n hk
      simp only [Ju, Option.some.injEq] at h
      subst h
      have hr : (do eqGuard .eql t x (.const .nilIface) (a.eval x) (a.eval (.const .nilIface)); binOp .eql t (a.eval x) (a.eval (.const .nilIface)) : Sem Value).run P w = .ok (.bool (decide (n = 0))) w := by
       rw [ex, ey]
       simp only [Sem.run_bind, Jbg, Result.andThen_ok]
       rcases ErrAt.val (I.key hk).2 with ⟨hn, hv⟩ | ⟨hn, u, z, hv⟩
       ·rw [hv, run_eql_nil_nil_at w t hi]; simp [hn]
       ·rw [hv, run_eql_iface_nil w t hi]; simp [hn]
      exact Jl hr ⟨γ, rfl, ⟨trivial, trivial⟩, I⟩
     ·rename_i tp ts te n hk
      simp only [Ju, Option.some.injEq] at h
      subst h
      have hr : (do eqGuard .neq t x (.const .nilIface) (a.eval x) (a.eval (.const .nilIface)); binOp .neq t (a.eval x) (a.eval (.const .nilIface)) : Sem Value).run P w = .ok (.bool (!decide (n = 0))) w := by
       rw [ex, ey]
       simp only [Sem.run_bind, Jbg, Result.andThen_ok]
       rcases ErrAt.val (I.key hk).2 with ⟨hn, hv⟩ | ⟨hn, u, z, hv⟩
       ·rw [hv, run_neq_nil_nil_at w t hi]; simp [hn]
       ·rw [hv, run_neq_iface_nil w t hi]; simp [hn]
      exact Jl hr ⟨γ, rfl, ⟨trivial, trivial⟩, I⟩
     ·cases h
    ·rename_i hd hx
     have hi : P.isIface t = true := by obtain ⟨ms, hu, _⟩ := hT _ _ hd; simp [Program.isIface, hu]
     have ex : a.eval x = .nilIface := (I.eval hx).1
     split at h
     ·simp only [Ju, Option.some.injEq] at h
      subst h
      have hr : (do eqGuard .eql t x (.const .nilIface) (a.eval x) (a.eval (.const .nilIface)); binOp .eql t (a.eval x) (a.eval (.const .nilIface)) : Sem Value).run P w = .ok (.bool true) w := by
       rw [ex, ey]
       simp only [Sem.run_bind, Jbg, Result.andThen_ok]
       rw [run_eql_nil_nil_at w t hi]
      exact Jl hr ⟨γ, rfl, ⟨trivial, trivial⟩, I⟩
     ·simp only [Ju, Option.some.injEq] at h
      subst h
      have hr : (do eqGuard .neq t x (.const .nilIface) (a.eval x) (a.eval (.const .nilIface)); binOp .neq t (a.eval x) (a.eval (.const .nilIface)) : Sem Value).run P w = .ok (.bool false) w := by
       rw [ex, ey]
       simp only [Sem.run_bind, Jbg, Result.andThen_ok]
       rw [run_neq_nil_nil_at w t hi]
      exact Jl hr ⟨γ, rfl, ⟨trivial, trivial⟩, I⟩
     ·cases h
    ·cases h
   | _ => cases h
  | _ => cases h
 | _ => cases h
theorem JgV {op : Op} (hs : ∀ x ∈ op.operands, Jg σ' x = Jg σ x)
  (hk : ∀ x ∈ op.operands, ∀ v, Jg σ x = some v → ∀ κ ∈ v.keys, Jh σ' κ = Jh σ κ) : eiS T σ' op = eiS T σ op := by
 cases op with
 | makeInterface t x =>
  simp only [eiS]
  rw [hs x (by simp [Op.operands])]
 | binOp op t x y t' =>
  cases y with
  | const c =>
   cases c with
   | nilIface =>
    simp only [eiS]
    rw [hs x (by simp [Op.operands])]
    split
    ·rename_i κ _ hx; rw [hk x (by simp [Op.operands]) _ hx κ (by simp [SV.keys, V1.keys, V1.keys.lk])]
    ·rfl
    ·rfl
   | _ => rfl
  | _ => rfl
 | _ => rfl
end Go.Gw
