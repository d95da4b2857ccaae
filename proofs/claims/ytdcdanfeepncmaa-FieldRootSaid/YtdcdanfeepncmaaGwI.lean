/- Two library functions without bodies: their contracts. -/
import Derived.Test.YtdcdanfeepncmaaGw10
import Derived.Test.YtdcdanfeepncmaaGwI0
namespace Go.Gw
open Go.RowKit

def sub64Entry : Array Value → Sem Value := fun args => do
  let (x, y, b) ← Extern.MathBitsCarry.three "Sub64" args
  pure (Extern.MathBitsCarry.pair ((x + Extern.MathBitsCarry.m64 - y - b) % Extern.MathBitsCarry.m64) (if x < y + b then 1 else 0))

theorem run_sub64 {P : Program} (x y c : Int) (hx : 0 ≤ x) (hy : 0 ≤ y) (hy' : y < 18446744073709551616) (hc0 : 0 ≤ c) (hc : c ≤ 1) (w : World) :
    (sub64Entry #[.int .u64 x, .int .u64 y, .int .u64 c]).run P w =
      .ok (.tuple #[.int .u64 ((x - y - c) % 18446744073709551616), .int .u64 (if x < y + c then 1 else 0)]) w := by
  have key : ∀ k : Nat, k ≤ 1 → (sub64Entry #[.int .u64 x, .int .u64 y, .int .u64 (k : Int)]).run P w =
      .ok (Extern.MathBitsCarry.pair ((x.toNat + Extern.MathBitsCarry.m64 - y.toNat - k) % Extern.MathBitsCarry.m64) (if x.toNat < y.toNat + k then 1 else 0)) w := by
    intro k hk
    have : k = 0 ∨ k = 1 := by omega
    rcases this with rfl | rfl <;> rfl
  obtain ⟨k, rfl⟩ := Int.eq_ofNat_of_zero_le hc0
  rw [key k (by omega)]
  obtain ⟨X, rfl⟩ := Int.eq_ofNat_of_zero_le hx
  obtain ⟨Y, rfl⟩ := Int.eq_ofNat_of_zero_le hy
  simp only [Extern.MathBitsCarry.pair, Extern.MathBitsCarry.m64, Int.toNat_natCast]
  have e1 : (Int.ofNat ((X + 2 ^ 64 - Y - k) % 2 ^ 64)) = ((X : Int) - Y - k) % 18446744073709551616 := by
    simp only [Int.ofNat_eq_natCast]
    omega
  have e2 : (Int.ofNat (if X < Y + k then 1 else 0)) = (if (X : Int) < Y + k then 1 else 0) := by
    by_cases h : X < Y + k
    · rw [if_pos h, if_pos (by omega)]; rfl
    · rw [if_neg h, if_neg (by omega)]; rfl
  rw [e1, e2]

theorem plain_call {P : Program} {f : Nat} {args : List SV} {pre : List (Nat × Ent)} {res : SV} (hr : res.ok)
    (h : ∀ γ w, (callFunc f (args.map (SV.den γ)).toArray).run P w = .ok (.value (res.den γ)) w) : CallOk P f args pre res [] := by
  intro B γ w _ _ _ h1
  unfold RunOk
  rw [h γ w]
  exact ⟨γ, fun _ _ => rfl, h1, rfl, hr, Below.refl _ _, by simp, by simp⟩

theorem add64_ok {P : Program} {f : Nat} {fn : Func} (hf : P.funcs[f]? = some fn) (hname : (fn.name == "runtime.NumGoroutine") = false) (hb : fn.body.isNone = true) (hn : Extern.findNext fn = none)
    (he : Extern.find fn = some add64Entry) (x y c : Int) (r : Int × Int) (h : add64 x y c = some r) {pre : List (Nat × Ent)} :
    CallOk P f [.v (.one (.int .u64 x)), .v (.one (.int .u64 y)), .v (.one (.int .u64 c))] pre (.tup [.one (.int .u64 r.1), .one (.int .u64 r.2)]) [] := by
  refine plain_call (by intro v hv; simp at hv; rcases hv with rfl | rfl <;> exact ⟨trivial, trivial⟩) fun γ w => ?_
  unfold add64 at h
  obtain ⟨⟨h1, h2, h3, h4⟩, h⟩ := ite_some h
  have h := Option.some.inj h
  subst h
  rw [run_callFunc_extern hf hname hb hn he]
  have := run_add64 (P := P) x y c h1 h2 h3 h4 w
  simp only [List.map_cons, List.map_nil, SV.den, V1.den, Leaf.cells, List.headD_cons]
  rw [this]
  rfl

theorem sub64_ok {P : Program} {f : Nat} {fn : Func} (hf : P.funcs[f]? = some fn) (hname : (fn.name == "runtime.NumGoroutine") = false) (hb : fn.body.isNone = true) (hn : Extern.findNext fn = none)
    (he : Extern.find fn = some sub64Entry) (x y c : Int) (r : Int × Int) (h : sub64 x y c = some r) {pre : List (Nat × Ent)} :
    CallOk P f [.v (.one (.int .u64 x)), .v (.one (.int .u64 y)), .v (.one (.int .u64 c))] pre (.tup [.one (.int .u64 r.1), .one (.int .u64 r.2)]) [] := by
  refine plain_call (by intro v hv; simp at hv; rcases hv with rfl | rfl <;> exact ⟨trivial, trivial⟩) fun γ w => ?_
  unfold sub64 at h
  obtain ⟨⟨h1, ⟨h2, h2'⟩, h3, h4⟩, h⟩ := ite_some h
  have h := Option.some.inj h
  subst h
  rw [run_callFunc_extern hf hname hb hn he]
  have := run_sub64 (P := P) x y c h1 h2 h2' h3 h4 w
  simp only [List.map_cons, List.map_nil, SV.den, V1.den, Leaf.cells, List.headD_cons]
  rw [this]
  rfl
end Go.Gw
